/- Lemmas for MapperTells: walks, plain laws. -/
import Derived.Test.YtckhfapcmjlmbaaGreatDoorMapperTellsK11
import Derived.Test.YtckhfapcmjlmbaaGreatDoorMapperTellsK12
set_option linter.unusedSimpArgs false
set_option linter.unusedVariables false
set_option maxRecDepth 100000
set_option maxHeartbeats 16000000
namespace Go.Proofs.YtckhfapcmjlmbaaGreatDoor
open Go.RowKit Oct
section
theorem lA {c:UInt8}:∀ {s:LU_},c ∉ s→bT c s=[s]
 | [],_=>rfl
 | x::s,h=>by
  have h1:¬x=c:=fun e=>h (by rw[e];exact D2 ..);rw[bT,if_neg h1,lA (fun hm=>h (D4 _ hm))]
theorem oM {c:UInt8}:∀ {a b:LU_},c ∉ a→bT c (a++c::b)=a::bT c b
 | [],b,_=>by rw[D5,bT,if_pos rfl]
 | x::a,b,h=>by
  have h1:¬x=c:=fun e=>h (by rw[e];exact D2 ..);rw[Dx,bT,if_neg h1,oM (fun hm=>h (D4 _ hm))]
structure jw (s:LU_) (c:UInt8) (out:LL_) (fr i:Nat):Prop where
 le:fr≤i
 lt:i≤s.length
 no:c ∉ (s.drop fr).take (i-fr)
 eq:bT c s=out++bT c (s.drop fr)
theorem jw.start (s:LU_)(c:UInt8):jw s c [] 0 0:=⟨DC _,D6 _,by simp,by simp⟩
theorem jw.drop {s:LU_}{c:UInt8}{out:LL_}{fr i:Nat}(h:jw s c out fr i)(hi:i<s.length):s.drop fr=(s.drop fr).take (i-fr)++s[i]::s.drop (i+1):=by
 have h1:=h.le
 have e:(s.drop fr).drop (i-fr)=s[i]::s.drop (i+1):=by
  rw[DP,show fr+(i-fr)=i by omega];exact Dw hi
 rw[←e,List.take_append_drop]
theorem jw.cut {s:LU_}{c:UInt8}{out:LL_}{fr i:Nat}(h:jw s c out fr i)(hi:i<s.length)(hc:s[i]=c):jw s c (out++[(s.drop fr).take (i-fr)]) (i+1) (i+1):=by
 refine⟨DC _,hi,by simp,?_⟩;have:=h.eq;rw[h.drop hi,hc,oM h.no]at this;rw[this,DK];rfl
theorem jw.on {s:LU_}{c:UInt8}{out:LL_}{fr i:Nat}(h:jw s c out fr i)(hi:i<s.length)(hc:s[i]≠c):jw s c out fr (i+1):=by
 have h1:=h.le;refine⟨by omega,hi,?_,h.eq⟩;rw[show i+1-fr=(i-fr)+1 by omega,List.take_add_one,DM];rintro (hm|hm)
 ·exact h.no hm
 ·rw[List.getElem?_drop,show fr+(i-fr)=i by omega,List.getElem?_eq_getElem hi]at hm
  simp at hm;exact hc hm.symm
theorem jw.end {s:LU_}{c:UInt8}{out:LL_}{fr i:Nat}(h:jw s c out fr i)(hi:¬i<s.length):bT c s=out++[s.drop fr]:=by
 have h1:=h.lt;have h2:=h.no;rw[DB (by rw[D7];omega)]at h2;rw[h.eq,lA h2]
theorem jw.len {s:LU_}{c:UInt8}{out:LL_}{fr i:Nat}(h:jw s c out fr i):out.length≤s.length+1:=by
 have:=(jI c s).1;rw[h.eq,DL]at this;omega
end
section
abbrev RV:=Bool×MV
def aN:Rec RV where
 cell v:=[.bool v.1,.int .i64 v.2.1,.string (bs v.2.2)]
 e:=298
 n:=3
 bytes:=32
 z:=.agg #[.bool false,.int .i64 0,.string ByteArray.empty]
 len:=fun _=>rfl
 one:=by intro x u h;simp at h;rcases h with rfl|rfl|rfl<;>rfl
 info:=by kernel_rfl
 zs:=rfl
 pos:=by decide
 bpos:=by decide
def rvV (v:RV):Value:=.agg #[.bool v.1,.int .i64 v.2.1,.string (bs v.2.2)]
structure Lo where
 at_:Nat
 ad:Option Addr
 n:Nat
 c:Nat
 ps:LL_
def bH:Rec Lo where
 cell e:=[.int .i64 (e.at_:Int),.slice e.ad e.n e.c]
 e:=342
 n:=2
 bytes:=32
 z:=.agg #[.int .i64 0,.slice none 0 0]
 len:=fun _=>rfl
 one:=by intro x u h;simp at h;rcases h with rfl|rfl<;>rfl
 info:=by kernel_rfl
 zs:=rfl
 pos:=by decide
 bpos:=by decide
def recKq:Rec (LU_×LU_) where
 cell v:=[.string (bs v.1),.string (bs v.2)]
 e:=70
 n:=2
 bytes:=32
 z:=.agg #[.string ByteArray.empty,.string ByteArray.empty]
 len:=fun _=>rfl
 one:=by intro x u h;simp at h;rcases h with rfl|rfl<;>rfl
 info:=by kernel_rfl
 zs:=rfl
 pos:=by decide
 bpos:=by decide
theorem Rec.Row.chgN {α:Type}{R:Rec α}{X:Nat→Prop}{w w':World}{v:Value}{l:List α}(h:R.Row w v l)(hc:Chg X w w')(hX:∀ b,v.ownBlock=some b→¬X b):R.Row w' v l:=by
 obtain⟨⟨a,cap,rfl,hn,hu⟩,h2⟩:=h;refine⟨⟨a,cap,rfl,hn,fun j u hj=>?_⟩,h2⟩;obtain⟨b,off,rfl,hcell⟩:=hu j u hj;exact⟨b,off,rfl,hc.cell hcell (hX b rfl)⟩
def loV (e:Lo):Value:=.slice e.ad e.n e.c
def fP {bZ:Nat}(l:List Lo):Pt bZ where
 fp k:=∃ e∈l,(loV e).ownBlock=some k
 P w:=(∀ e∈l,aK.Row w (loV e) e.ps∧∀ k,(loV e).ownBlock=some k→bZ≤k∧k<w.heap.size)∧l.Pairwise fun e f=>∀ k,(loV e).ownBlock=some k→¬(loV f).ownBlock=some k
 frame:=fun h hc hX=>⟨fun e he=>⟨(h.1 e he).1.chgN hc (fun b hb=>hX b ⟨e,he,hb⟩),fun k hk=>⟨((h.1 e he).2 k hk).1,Dv ((h.1 e he).2 k hk).2 hc.size⟩⟩,h.2⟩
 lt:=fun h k hk=>by
  obtain⟨e,he,hk⟩:=hk;exact(h.1 e he).2 k hk
structure Rf where
 tv:Value
 cv:Value
 iv:Value
 ev:Value
 ow:Value
def bP (f:Rf)(at_:Int)(sv:Value)(rg:List RV)(lv prv:Value):List Value:=[f.tv,f.cv,f.iv,f.ev,f.ow,.int .i64 at_,sv]++(aN.cells rg++[lv,prv])
structure RM (bZ:Nat) (w:World) (G:Nat) (f:Rf) (at_:Int) (st rg:List RV) (los:List Lo) (pr:List (LU_×LU_)) (sv lv prv:Value) (X:List (Pt bZ)):Prop where
 gb:bZ≤G
 rl:rg.length=8
 sep:Sep bZ w (az G gb 302 (bP f at_ sv rg lv prv)::ownPt aN sv st.reverse::ownPt bH lv los::fP los::ownPt recKq prv pr::X)
section
variable {bZ G:Nat}{w w' w3:World}{f:Rf}{at_:Int}{st rg:List RV}{los:List Lo}{pr:List (LU_×LU_)}{sv sv' lv lv' prv prv':Value}{X:List (Pt bZ)}
theorem fq {α:Type}{l:List α}(h:l.length=8):∃ a b c d e f g i,l=[a,b,c,d,e,f,g,i]:=by
 match l,h with
 | [a,b,c,d,e,f,g,i],_=>exact⟨a,b,c,d,e,f,g,i,rfl⟩
theorem RM.blk (h:RM bZ w G f at_ st rg los pr sv lv prv X):Blk w G 302 (bP f at_ sv rg lv prv):=h.sep.get (i:=0) rfl
theorem RM.os (h:RM bZ w G f at_ st rg los pr sv lv prv X):aN.Own w bZ sv st.reverse:=h.sep.get (i:=1) rfl
theorem RM.ol (h:RM bZ w G f at_ st rg los pr sv lv prv X):bH.Own w bZ lv los:=h.sep.get (i:=2) rfl
theorem RM.ow (h:RM bZ w G f at_ st rg los pr sv lv prv X):(∀ e∈los,aK.Row w (loV e) e.ps∧∀ k,(loV e).ownBlock=some k→bZ≤k∧k<w.heap.size)∧los.Pairwise fun e f=>∀ k,(loV e).ownBlock=some k→¬(loV f).ownBlock=some k:=h.sep.get (i:=3) rfl
theorem RM.op (h:RM bZ w G f at_ st rg los pr sv lv prv X):recKq.Own w bZ prv pr:=h.sep.get (i:=4) rfl
theorem RM.size (h:RM bZ w G f at_ st rg los pr sv lv prv X):bZ≤w.heap.size:=DG h.gb (DA h.blk.lt)
theorem RM.below (h:RM bZ w G f at_ st rg los pr sv lv prv X)(hB:Below w.heap.size w w'):RM bZ w' G f at_ st rg los pr sv lv prv X:=⟨h.gb,h.rl,h.sep.below hB⟩
theorem RM.add (h:RM bZ w G f at_ st rg los pr sv lv prv X)(cs:List Value)(t:TypeId):RM bZ (w.alloc (.cells cs.toArray t)) G f at_ st rg los pr sv lv prv (X++[az w.heap.size h.size t cs]) :=
 ⟨h.gb,h.rl,h.sep.snoc (af _ _) (az w.heap.size h.size t cs) (Blk.new w cs t) (fun k hk=>by rw[show k=w.heap.size from hk];exact DC _)⟩
theorem RM.drop {Y:List (Pt bZ)}(h:RM bZ w G f at_ st rg los pr sv lv prv (X++Y)):RM bZ w G f at_ st rg los pr sv lv prv X:=⟨h.gb,h.rl,Sep.init (p:=Y) h.sep⟩
theorem RM.loc {p:Pt bZ}(h:RM bZ w G f at_ st rg los pr sv lv prv X)(hp:p∈X):p.P w:=h.sep.1 p (by simp[hp])
theorem RM.updX (h:RM bZ w G f at_ st rg los pr sv lv prv X){Y:Nat→Prop}{i:Nat}{p:Pt bZ}(hi:X[i]?=some p)(hc:Chg Y w w')(hY:∀ k,Y k→p.fp k)(q:Pt bZ)(hq:q.P w')(hf:∀ k,q.fp k→p.fp k):RM bZ w' G f at_ st rg los pr sv lv prv (X.set i q)∧Below bZ w w' :=
 ⟨⟨h.gb,h.rl,h.sep.upd (i:=i+5) hi hc hY q hq (fun k hk=>.inl (hf k hk))⟩,h.sep.updB (i:=i+5) hi hc hY h.size⟩
theorem RM.cell (h:RM bZ w G f at_ st rg los pr sv lv prv X){k:Nat}{v:Value}(hv:[f.tv,f.cv,f.iv,f.ev,f.ow,.int .i64 at_,sv][k]?=some v):w.cell? ⟨G,k,none⟩=some v:=by
 refine h.blk.cell (k:=k) ?_;unfold bP;rw[List.getElem?_append_left (List.getElem?_eq_some_iff.1 hv).1];exact hv
theorem RM.cellR (h:RM bZ w G f at_ st rg los pr sv lv prv X){k:Nat}{v:Value}(hv:[lv,prv][k]?=some v):w.cell? ⟨G,31+k,none⟩=some v:=by
 refine h.blk.cell (k:=31+k) ?_;obtain⟨a,b,c,d,e,f',g,i,rfl⟩:=fq h.rl;unfold bP;rw[List.getElem?_append_right (by simp;omega),List.getElem?_append_right (by simp[Rec.cells,aN];omega)];rw[←hv];congr 1;simp[Rec.cells,aN];omega
theorem RM.reg (h:RM bZ w G f at_ st rg los pr sv lv prv X){i:Nat}(hi:i<8):w.cell? ⟨G,7+i*3,none⟩=some (.bool (rg.getD i (false,0,[])).1)∧w.cell? ⟨G,7+i*3+1,none⟩=some (.int .i64 (rg.getD i (false,0,[])).2.1)∧w.cell? ⟨G,7+i*3+2,none⟩=some (.string (bs (rg.getD i (false,0,[])).2.2)):=by
 obtain⟨a,b,c,d,e,f',g,j,hr⟩:=fq h.rl;have hb:=h.blk;rw[hr]at hb⊢;rcases(by omega:i=0∨i=1∨i=2∨i=3∨i=4∨i=5∨i=6∨i=7) with rfl|rfl|rfl|rfl|rfl|rfl|rfl|rfl<;>exact⟨hb.cell (by rfl),hb.cell (by rfl),hb.cell (by rfl)⟩
theorem RM.free (h:RM bZ w G f at_ st rg los pr sv lv prv X){k:Nat}(hk:k<33):w.frozen? ⟨G,k,none⟩=false:=by
 refine h.blk.free ?_;obtain⟨a,b,c,d,e,f',g,j,hr⟩:=fq h.rl;rw[hr];exact hk
theorem RM.slices (h:RM bZ w G f at_ st rg los pr sv lv prv X):(∃ a c,sv=.slice a st.length c)∧(∃ a c,lv=.slice a los.length c)∧∃ a c,prv=.slice a pr.length c:=by
 obtain⟨a,c,e⟩:=ap h.os;rw[List.length_reverse]at e;exact⟨⟨a,c,e⟩,ap h.ol,ap h.op⟩
theorem RM.newS (h:RM bZ w G f at_ st rg los pr sv lv prv X){l:List RV}(hc:Chg (fun k=>sv.ownBlock=some k) w w3)(hg:∀ k,sv'.ownBlock=some k→sv.ownBlock=some k∨w.heap.size≤k)(ho:aN.Own w3 bZ sv' l.reverse):RM bZ (w3.setCell ⟨G,6,none⟩ sv') G f at_ l rg los pr sv' lv prv X∧Below bZ w (w3.setCell ⟨G,6,none⟩ sv')∧w3.cell? ⟨G,6,none⟩=some sv∧w3.frozen? ⟨G,6,none⟩=false:=by
 have s1:=h.sep.upd (i:=1) rfl hc (fun k hk=>hk) (ownPt aN sv' l.reverse) ho hg;have hs:Chg (fun k=>k=G) w3 (w3.setCell ⟨G,6,none⟩ sv'):=Chg.setCell _ _ _ rfl;have b3:Blk w3 G 302 (bP f at_ sv rg lv prv):=s1.get (i:=0) rfl;have s2:=s1.upd (i:=0) rfl hs (fun k hk=>hk) (az G h.gb 302 (bP f at_ sv' rg lv prv)) (b3.set 6 sv') (fun k hk=>.inl hk);exact⟨⟨h.gb,h.rl,s2⟩,(h.sep.updB (i:=1) rfl hc (fun k hk=>hk) h.size).trans (hs.below (fun k hk=>by have:=h.gb;omega) (DG h.size hc.size)),b3.cell (k:=6) rfl,b3.free (k:=6) (by simp[bP])⟩
theorem RM.setAt (h:RM bZ w G f at_ st rg los pr sv lv prv X)(n:Int):RM bZ (w.setCell ⟨G,5,none⟩ (.int .i64 n)) G f n st rg los pr sv lv prv X∧Below bZ w (w.setCell ⟨G,5,none⟩ (.int .i64 n)):=by
 have hs:Chg (fun k=>k=G) w (w.setCell ⟨G,5,none⟩ (.int .i64 n)):=Chg.setCell _ _ _ rfl;have s2:=h.sep.upd (i:=0) rfl hs (fun k hk=>hk) (az G h.gb 302 (bP f n sv rg lv prv)) (h.blk.set 5 (.int .i64 n)) (fun k hk=>.inl hk);exact⟨⟨h.gb,h.rl,s2⟩,h.sep.updB (i:=0) rfl hs (fun k hk=>hk) h.size⟩
theorem RM.pre {Y:List (Pt bZ)}(h:RM bZ w G f at_ st rg los pr sv lv prv Y)(hX:X <+: Y):RM bZ w G f at_ st rg los pr sv lv prv X:=by
 obtain⟨Z,rfl⟩:=hX;exact h.drop
theorem RM.top {v:RV}{ab:Option Addr}{n cb:Nat}(h:RM bZ w G f at_ (v::st) rg los pr (.slice ab n cb) lv prv X):∃ g,ab=some ⟨g,0,none⟩∧n=st.length+1∧w.cell? ⟨g,st.length*3,none⟩=some (.bool v.1)∧w.cell? ⟨g,st.length*3+1,none⟩=some (.int .i64 v.2.1)∧w.cell? ⟨g,st.length*3+2,none⟩=some (.string (bs v.2.2)):=by
 obtain⟨⟨a,c,e⟩,_,_⟩:=h.slices;injection e with e1 e2 e3
 subst e1 e2 e3;obtain⟨g,rfl⟩:=h.os.at0 (by simp);obtain⟨a',cap,hv,hle,hc⟩:=Rec.Row.open h.os.row;injection hv with e1 e2 e3
 subst e1;obtain⟨b,off,ha,hu⟩:=hc st.length (by simp);injection ha with ha
 injection ha with ha1 ha2 _
 subst ha1 ha2;have hg:(v::st).reverse[st.length]'(by simp)=v:=by simp[List.reverse_cons]
 rw[hg]at hu;have h0:=hu 0 _ rfl;have h1:=hu 1 _ rfl;have h2:=hu 2 _ rfl;rw[DE]at h0 h1 h2;exact⟨g,rfl,rfl,h0,h1,h2⟩
end
end
section
theorem ms {P:Program}{ops:Array Oper}{C:World→Prop}{R:World→World→Prop}{F:Nat→Option (bn R)}{Q:aB→Act→Prop}{k:Nat}{S:aB}{a:Act}(h:Q S a):wpG P ops C R F Q k [] S a:=h
attribute [local irreducible] wpG
theorem dO {P:Program}{fn:Func}{p:Tmp}{ty:TypeId}{tmps:Array Value}{w:World}{v:Value}{b:Nat}(hr:fn.results=#[.cell p ty])(hp:tmps.getD p undef=.pointer (some ⟨b,0,none⟩))(hl:(loadVar ty ⟨b,0,none⟩).run P w=.ok v w):(results fn tmps).run P w=.ok v w:=by
 simp only[Array.getD_eq_getD_getElem?]at hp⊢;simp[results,hr,Sem.run_bind,Result.andThen,hp,asAddr,hl]
theorem kG {w:World}{b:Nat}{v0 v1 v2:Value}(h0:w.cell? ⟨b,0,none⟩=some v0)(h1:w.cell? ⟨b,1,none⟩=some v1)(h2:w.cell? ⟨b,2,none⟩=some v2):(loadVar 298 ⟨b,0,none⟩).run Tryz.prog w=.ok (.agg #[v0,v1,v2]) w:=by
 go_simp
theorem mH {w:World}{b:Nat}{t:TypeId}{a0 a1 a2:Value}(hx:Blk w b t [a0,a1,a2])(v0 v1 v2:Value):Blk (((w.setCell ⟨b,0,none⟩ v0).setCell ⟨b,1,none⟩ v1).setCell ⟨b,2,none⟩ v2) b t [v0,v1,v2]∧Chg (fun x=>x=b) w (((w.setCell ⟨b,0,none⟩ v0).setCell ⟨b,1,none⟩ v1).setCell ⟨b,2,none⟩ v2) :=
 ⟨((hx.set 0 v0).set 1 v1).set 2 v2,Chg.trans (Chg.trans (Chg.setCell w ⟨b,0,none⟩ v0 rfl) (Chg.setCell _ ⟨b,1,none⟩ v1 rfl)) (Chg.setCell _ ⟨b,2,none⟩ v2 rfl)⟩
theorem yU {α:Type}(X Y Z:List α)(q:α):X <+: (X++Y++Z).set X.length q:=by
 rw[DK,List.set_append_right _ _ (DC _)];exact List.prefix_append _ _
section
variable {bZ G:Nat}{w w' w3:World}{f:Rf}{at_:Int}{st rg:List RV}{los:List Lo}{pr:List (LU_×LU_)}{sv sv' lv lv' prv prv':Value}{X:List (Pt bZ)}
theorem aT (v:RV)(h:RM bZ w G f at_ (v::st) rg los pr sv lv prv X)(hl:st.length≤1000):Calls Tryz.prog 200 #[.pointer (some ⟨G,0,none⟩)] w fun e w'=>e=.returned (rvV v)∧(∃ sv',RM bZ w' G f at_ st rg los pr sv' lv prv X)∧Below bZ w w':=by
 obtain⟨⟨ab,cb,hsv⟩,_,_⟩:=h.slices;rw[Du]at hsv;subst hsv;have HH:=zH h;obtain⟨R,hR⟩:=ex_ w.heap.size;obtain⟨W1,hW1⟩:=ex_ (w.alloc (.cells #[.bool false,.int .i64 0,.string ⟨#[]⟩] 298));have hRb:bZ≤R:=by rw[hR];exact HH.o.size
 have hm1:RM bZ W1 G f at_ (v::st) rg los pr (.slice ab (st.length+1) cb) lv prv (X++[az R hRb 298 [.bool false,.int .i64 0,.string ⟨#[]⟩]]):=by subst hR;rw[hW1];exact HH.o.add _ _
 have HB1:=zH (show Below w.heap.size w W1 by rw[hW1];exact af _ _);clear h;go_enter Tryz.func200,Tryz.ntmps200;go_upto_region 1 with fail;rw[←hW1,←hR];clear hW1 hR;obtain⟨g,rfl,-,e0,e1,e2⟩:=hm1.top;have c6:W1.cell? ⟨G,6,none⟩=some (.slice (some ⟨g,0,none⟩) (st.length+1) cb):=hm1.cell (k:=6) rfl;have hGl:G<W1.heap.size:=hm1.blk.lt;have hgl:g<W1.heap.size:=aD e0;have hl1:((st.length:Int)+1)-1=(st.length:Int):=by omega
 have hl2:(0:Int)≤(st.length:Int):=by omega
 have hl3:(st.length:Int)<(st.length:Int)+1:=by omega
 have hl4:(st.length:Int)≤1000:=by omega
 have HM1:=zH hm1;clear hm1;go_region;obtain⟨T,hT⟩:=ex_ W1.heap.size;have hTb:bZ≤T:=by rw[hT];exact HM1.o.size
 obtain⟨W2,hW2⟩:=ex_ ((W1.alloc (.cells #[.bool v.1,.int .i64 v.2.1,.string (bs v.2.2)] 298)).drew)
 have hm2:RM bZ W2 G f at_ (v::st) rg los pr (.slice (some ⟨g,0,none⟩) (st.length+1) cb) lv prv (X++[az R hRb 298 [.bool false,.int .i64 0,.string ⟨#[]⟩]]++[az T hTb 298 [.bool v.1,.int .i64 v.2.1,.string (bs v.2.2)]]):=by
  subst hT;rw[hW2];exact(HM1.o.add [.bool v.1,.int .i64 v.2.1,.string (bs v.2.2)] 298).below (b_drew _)
 have HB2:=zH (show Below w.heap.size w W2 by rw[hW2];exact bt HB1.o (bt (af _ _) (b_drew _)));rw[←hW2,←hT];clear hW2 hT e0 e1 e2 c6 hGl hgl HM1;have c6:W2.cell? ⟨G,6,none⟩=some (.slice (some ⟨g,0,none⟩) (st.length+1) cb):=hm2.cell (k:=6) rfl;have f6:=hm2.free (k:=6) (by decide);have hGl:G<W2.heap.size:=hm2.blk.lt;have ho:aN.Own W2 bZ (.slice (some ⟨g,0,none⟩) (v::st).reverse.length cb) (v::st).reverse:=by rw[List.length_reverse];exact hm2.os
 have hrun:=ho.shortRun 296 Tryz.underlying296 (by intro wx;kernel_rfl) st.length (by simp);rw[List.length_reverse,Du]at hrun
 have hsh:aN.Own W2.drew bZ (.slice (some ⟨g,0,none⟩) st.length cb) st.reverse:=by
  have:=(ho.below (b_drew W2)).short st.length (by simp)
  rwa [List.reverse_cons,List.take_append_of_le_length (by simp),DB (by simp)]at this
 have hn:=(hm2.below (b_drew W2)).newS (sv':=.slice (some ⟨g,0,none⟩) st.length cb) (l:=st) (Chg.refl _ _) (fun k hk=>by cases hk;exact .inl rfl) hsh;have HN:=zH hn;clear ho hsh hn hm2;go_wp2_with fail;go_region;obtain⟨W3,hW3⟩:=ex_ ((W2.setCell ⟨G,6,none⟩ (.slice (some ⟨g,0,none⟩) st.length cb)).drew);have hm3:RM bZ W3 G f at_ st rg los pr (.slice (some ⟨g,0,none⟩) st.length cb) lv prv (X++[az R hRb 298 [.bool false,.int .i64 0,.string ⟨#[]⟩]]++[az T hTb 298 [.bool v.1,.int .i64 v.2.1,.string (bs v.2.2)]]):=by rw[hW3];exact HN.o.1
 have hb3:Below bZ w W3:=by rw[hW3];exact((bt HB2.o (b_drew W2)).mono HH.o.size).trans HN.o.2.1
 rw[←hW3];clear hW3 HN c6 f6 hGl hrun HB2;have hTk:Blk W3 T 298 [.bool v.1,.int .i64 v.2.1,.string (bs v.2.2)]:=hm3.loc (p:=az T hTb 298 [.bool v.1,.int .i64 v.2.1,.string (bs v.2.2)]) (by simp);have hRk:Blk W3 R 298 [.bool false,.int .i64 0,.string ⟨#[]⟩]:=hm3.loc (p:=az R hRb 298 [.bool false,.int .i64 0,.string ⟨#[]⟩]) (by simp);obtain⟨t0,t1,t2⟩:=cl3 hTk;obtain⟨r0,r1,r2⟩:=cl3 hRk;obtain⟨k0,k1,k2⟩:=fr3 hRk;have HM3:=zH hm3;have HB3:=zH hb3;have HRK:=zH hRk;clear hm3 hb3 hRk hTk;go_wp2_with fail;obtain⟨hy,hc⟩:=mH HRK.o (.bool v.1) (.int .i64 v.2.1) (.string (bs v.2.2));refine bodyPost_ret (dO rfl rfl (kG (hy.cell (k:=0) rfl) (hy.cell (k:=1) rfl) (hy.cell (k:=2) rfl))) rfl ?_;obtain⟨hm4,hb4⟩:=HM3.o.updX (i:=X.length) (p:=az R hRb 298 [.bool false,.int .i64 0,.string ⟨#[]⟩]) (by simp) hc (fun k hk=>hk) (az R hRb 298 [.bool v.1,.int .i64 v.2.1,.string (bs v.2.2)]) hy (fun k hk=>hk);exact⟨rfl,⟨_,hm4.pre (yU X _ _ _)⟩,HB3.o.trans hb4⟩
theorem bj (v:RV)(h:RM bZ w G f at_ st rg los pr sv lv prv X)(hl:st.length≤1000):Calls Tryz.prog 233 #[.pointer (some ⟨G,0,none⟩),rvV v] w fun e w'=>e=.returned (.tuple #[])∧(∃ sv',RM bZ w' G f at_ (v::st) rg los pr sv' lv prv X)∧Below bZ w w':=by
 obtain⟨⟨ab,cb,rfl⟩,_,_⟩:=h.slices;obtain⟨W1,hW1⟩:=ex_ (w.alloc (.cells #[.bool v.1,.int .i64 v.2.1,.string (bs v.2.2)] 298));have hb1:=ba_ hW1;have hx:=bm_ hW1;obtain⟨D,hD⟩:=ex_ w.heap.size;rw[←hD]at hx;have HS:=zH h.size;have h1:=h.below hb1;have c6:=h1.cell (k:=6) rfl;obtain⟨x0,x1,x2⟩:=cl3 hx;have HB1:=zH (hb1.mono h.size);have H1:=zH h1;have HOS:=zH h1.os;have hlr:st.reverse.length=st.length:=List.length_reverse;obtain⟨xs,hxs⟩:=ex_ st.reverse;rw[←hxs]at HOS hlr;rw[←hlr]at c6;have HXS:=zH hxs;have HLR:=zH hlr;have hl2:xs.length≤1000:=by omega
 clear h h1 hb1 hx hxs hlr;unfold rvV;go_enter Tryz.func233,Tryz.ntmps233;go_upto_region 1 with fail;rw[←hW1,←hD];clear hW1 hD;refine fb aN xs v 11 [(4,.exact _ (.slice ab xs.length cb)),(5,iT aN W1.heap.size xs v),(6,.exact _ (.agg #[.bool v.1,.int .i64 v.2.1,.string (bs v.2.2)])),(7,gQ aN W1.heap.size xs v),(8,iS aN W1.heap.size xs v)] (by kernel_rfl) (by kernel_rfl) ?_;simp only[DQ,DW,DO,DX];refine cG ?_;refine gE_ (fun w' G hB hS hG=>?_) (fun K hK=>?_)
 ·have y:=C8 hB c6
  go_simp;exact hG _ (dR.refl _)
 refine cO ?_;clear hK K;refine gk_ (iT aN W1.heap.size xs v) (fun w' G hB hS hG=>?_) (fun x K hK=>?_)
 ·refine aN.grow_copy _ _ 296 rfl Tryz.underlying296 W1.heap.size rfl _ xs (show aN.Row w' (.slice ab xs.length cb) xs from by rw[HLR.o];exact(HOS.o.below hB).row) rfl (by show xs.length*32≤_;omega) hB.size (fun A C w'' ho hb=>hG (A,C) w'' (Dg hB.size hb) (fun φ h=>by cases h;exact ho))
 obtain⟨ad,c⟩:=x;refine cO ?_;clear hK K;refine gE_ (fun w' G hB hS hG=>?_) (fun K hK=>?_)
 ·have y0:=C8 hB x0
  have y1:=C8 hB x1;have y2:=C8 hB x2;go_simp;exact hG _ (dR.refl _)
 refine cO ?_;clear hK K;refine gk_ (gQ aN W1.heap.size xs v) (fun w' G hB hS hG=>?_) (fun (bb:Nat) K hK=>?_)
 ·go_simp;exact iP hG rfl hB.size
 refine cO ?_;clear hK K;refine gk_ (iS aN W1.heap.size xs v) (fun w' G hB hS hG=>?_) (fun y K hK=>?_)
 ·have hown:aN.Own w' W1.heap.size (.slice ad xs.length c) xs:=at1 hS (by kernel_rfl)
  have hone:w'.heap[bb]?=some (.cells (aN.cell v).toArray aN.e (0,0)):=at0 hS (by kernel_rfl);exact aN.grow_app1 _ _ 296 rfl Tryz.underlying296 W1.heap.size _ xs v hown rfl bb rfl hone (by show(xs.length+1)*32≤_;omega) hB.size (fun A C w'' ho hr=>hG (A,C) w'' hr (fun φ h=>by cases h;exact ho))
 obtain⟨ad2,c2⟩:=y;refine cO ?_;clear hK K;refine ms ?_;intro w5 hB5 hA5;have ho5:aN.Own w5 W1.heap.size (.slice ad2 (xs.length+1) c2) (xs++[v]):=oA hA5;have hn:=H1.o.newS (w3:=w5) (sv':=.slice ad2 (xs.length+1) c2) (l:=v::st) (Da hB5) (fun k hk=>.inr (Rec.Own.ltV ho5 k hk).1) (by rw[List.reverse_cons,←HXS.o];exact ho5.baseLe H1.o.size);have c6:=hn.2.2.1;have f6:=hn.2.2.2;have HN:=zH hn;clear hn ho5 hB5 hA5 x0 x1 x2;go_wp2_with fail;refine bodyPost_end (results_none rfl _ _ _) rfl ?_;exact⟨rfl,⟨_,HN.o.1⟩,HB1.o.trans HN.o.2.1⟩
end
end
section
attribute [local irreducible] wpG
theorem Ff {T:Prop} (h:T:=by
 refine bodyPost_ret (dO rfl rfl (kG (hy.cell (k:=0) rfl) (hy.cell (k:=1) rfl) (hy.cell (k:=2) rfl))) rfl ?_;exact⟨rfl,af _ _⟩
):T:=h
theorem gL (n:Int)(w:World):Calls Tryz.prog 235 #[.int .i64 n] w fun e w'=>e=.returned (rvV (false,n,[]))∧Bw_ w w':=by
 go_enter Tryz.func235,Tryz.ntmps235;go_wp2_with fail;have hy:=Blk.new w [.bool false,.int .i64 n,.string ⟨#[]⟩] 298;exact Ff
theorem eL (s:LU_)(w:World):Calls Tryz.prog 234 #[.string (bs s)] w fun e w'=>e=.returned (rvV (true,0,s))∧Bw_ w w':=by
 go_enter Tryz.func234,Tryz.ntmps234;go_wp2_with fail;have hy:=Blk.new w [.bool true,.int .i64 0,.string (bs s)] 298;exact Ff
theorem Fe {T:Prop} (h:T:=by
 refine bodyPost_ret (dO rfl rfl (kG (hy.cell (k:=0) rfl) (hy.cell (k:=1) rfl) (hy.cell (k:=2) rfl))) rfl ?_;exact⟨by rw[HV.o],HB.o.trans (hc.below (fun k hk=>by rw[show k=D from hk,HD.o];exact DC _) HB.o.size)⟩
):T:=h
theorem mN (b:Bool)(w:World):Calls Tryz.prog 237 #[.bool b] w fun e w'=>e=.returned (rvV (false,bitM b))∧Bw_ w w':=by
 obtain⟨W1,hW1⟩:=ex_ (w.alloc (.cells #[.bool false,.int .i64 0,.string ⟨#[]⟩] 298));have hb1:=ba_ hW1;obtain⟨D,hD⟩:=ex_ w.heap.size;have hx:=bn_ hD hW1;have HB1:=zH hb1;have HX:=zH hx;have HD:=zH hD;obtain⟨n,hn⟩:∃ n:Int,n=if b=true then 1 else 0:=⟨_,rfl⟩
 have HV:=zH (show rvV (false,bitM b)=.agg #[.bool false,.int .i64 n,.string (bs [])] by unfold rvV bitM;rw[hn]);have hN:∀ w',Calls Tryz.prog 235 #[.int .i64 n] w' fun e w''=>e=.returned (.agg #[.bool false,.int .i64 n,.string (bs [])])∧Below w'.heap.size w' w'':=fun w'=>gL n w';have HN:=zH hN;clear hN hb1 hx;go_enter Tryz.func237,Tryz.ntmps237;go_upto_region 1 with fail;rw[←hW1,←hD];clear hW1 hD
 cases b with
 | true =>
  obtain rfl:n=1:=hn;go_wp2_with (go_at_call 235;refine(HN.o _).mono ?_;rintro e w2 ⟨rfl,hB⟩;have hy:=HX.o.below hB;obtain⟨y0,y1,y2⟩:=cl3 hy;obtain⟨k0,k1,k2⟩:=fr3 hy;have HY:=zH hy;have HB:=zH (bt HB1.o hB);clear hy hB);obtain⟨hy,hc⟩:=mH HY.o (.bool false) (.int .i64 1) (.string (bs []));exact Fe
 | false =>
  obtain rfl:n=0:=hn;go_wp2_with (go_at_call 235;refine(HN.o _).mono ?_;rintro e w2 ⟨rfl,hB⟩;have hy:=HX.o.below hB;obtain⟨y0,y1,y2⟩:=cl3 hy;obtain⟨k0,k1,k2⟩:=fr3 hy;have HY:=zH hy;have HB:=zH (bt HB1.o hB);clear hy hB);obtain⟨hy,hc⟩:=mH HY.o (.bool false) (.int .i64 0) (.string (bs []));exact Fe
theorem xB (s:LU_)(k:Nat)(hk:k≤s.length)(n:Int):fu n (s.drop k).length=(min (max n 0) ((s.length:Int)-(k:Int))).toNat:=by
 unfold fu;rw[D7];omega
theorem wh (s:LU_)(a n:Int)(w:World)(hs:s.length≤1024)(ha:-9223372036854775808≤a∧a≤9223372036854775807)(hn:-9223372036854775808≤n∧n≤9223372036854775807):Calls Tryz.prog 238 #[.string (bs s),.int .i64 a,.int .i64 n] w fun e w'=>e=.returned (.string (bs (fM s a n)))∧Bw_ w w':=by
 obtain⟨k,hk⟩:=ex_ (fu a s.length);have hk1:min (max a 0) (s.length:Int)=(k:Int):=by rw[hk];unfold fu;omega
 have hk2:(k:Int)≤(s.length:Int):=by omega
 have hk3:=nn_ k;obtain⟨j,hj⟩:=ex_ (fu n (s.drop k).length);have hj1:min (max n 0) ((s.length:Int)-(k:Int))=(j:Int):=by rw[hj,xB s k (by omega)];omega
 have hj2:(j:Int)≤(s.length:Int)-(k:Int):=by omega
 have hj3:=nn_ j;have hsl:(s.length:Int)≤1024:=by omega
 have HV:=zH (show fM s a n=(s.drop k).take j by unfold fM;rw[←hk,←hj]);have q1:(k:Int)≤(k:Int)+(j:Int):=by omega
 have q2:(k:Int)+(j:Int)≤(s.length:Int):=by omega
 clear hk hj;go_enter Tryz.func238,Tryz.ntmps238;go_wp2_with fail;go_ret;rw[HV.o,show k+j-k=j by omega];exact⟨rfl,DF _ _⟩
def pN (s:LU_):Int:=match Lib.atoiAll s with
 | .ok v=>v
 | .range=>Lib.atoiSat s
 | _=>0
theorem Cx (s:LU_):-9223372036854775808≤pN s∧pN s≤9223372036854775807:=by
 unfold pN
 cases h:Lib.atoiAll s with
 | ok v =>
  rw[←Lib.parseIntB_64]at h;have:=Lib.parseIntB_bounds h;simp only;simp at this;omega
 | range=>unfold Lib.atoiSat;simp only;split<;>simp
 | _=>simp
theorem yW (s:LU_):b_Z s=if Lib.itoa (pN s)=s then pN s else 0:=by
 unfold b_Z pN
 cases h:Lib.atoiAll s with
 | ok v=>rfl
 | range=>simp only;rw[if_neg (rF h)]
 | _=>simp only;rw[if_neg (p5 h)]
theorem Aq (s:LU_)(hs:s.length≤1024){w:World}(hg:cU w):Calls Tryz.prog 243 #[.string (bs s),.int .i64 10,.int .i64 64] w fun e w'=>(∃ ev,e=.returned (.tuple #[.int .i64 (pN s),ev]))∧Bw_ w w':=by
 obtain⟨te,pe,hsy⟩:=hg.syn;obtain⟨te2,pe2,hrg⟩:=hg.rng;have hl:(bs s).data.toList=s:=by simp[bs]
 unfold pN
 cases h:Lib.atoiAll s with
 | ok v =>
  refine(Tryz.strconv_ParseInt_10_at64_ok (bs s) (by rw[bA];omega) v (by rw[hl,Lib.parseIntB_64];exact h) w).mono ?_;rintro e w' ⟨rfl,rfl|⟨t,rfl⟩⟩
  ·exact⟨⟨_,rfl⟩,DF _ _⟩
  ·exact⟨⟨_,rfl⟩,ja _ _ _⟩
 | range =>
  refine(Tryz.strconv_ParseInt_10_at64_range (bs s) (by rw[bA];omega) (by rw[hl,Lib.parseIntB_64];exact h) _ w hrg (.inr ⟨te2,pe2,rfl⟩)).mono ?_;rintro e w' ⟨N,rfl,-,-,hB⟩;exact⟨⟨_,by rw[hl,Lib.intSat_64]⟩,hB⟩
 | _ =>
  refine(Tryz.strconv_ParseInt_10_at64_syntax (bs s) (by rw[bA];omega) (by rw[hl,Lib.parseIntB_64];exact h) _ w hsy (.inr ⟨te,pe,rfl⟩)).mono ?_;rintro e w' ⟨N,rfl,-,-,hB⟩;exact⟨⟨_,rfl⟩,hB⟩
theorem Fd {T:Prop} (h:T:=by
 rw[HV.o];clear hus hpa;go_enter Tryz.func239,Tryz.ntmps239;go_wp2_with (first|(go_at_call 236;refine(HF.o _ HB.o).mono ?_;rintro e w4 ⟨rfl,hB⟩;have HB4:=zH (bt HB.o hB);clear hB)|(go_at_call 243;refine HP.o.mono ?_;rintro e w3 ⟨⟨ev,rfl⟩,hB⟩;have HB:=zH hB;clear hB));go_ret;exact⟨rfl,HB4.o⟩
):T:=h
theorem tj (s:LU_)(w:World)(hs:s.length≤1024)(hG:cU w):Calls Tryz.prog 239 #[.string (bs s)] w fun e w'=>e=.returned (.int .i64 (b_Z s))∧Bw_ w w':=by
 have HP:=zH (Aq s hs hG);obtain⟨n,hn⟩:=ex_ (pN s);have hin:=Cx s;have hpa:=yW s;rw[←hn]at hin hpa HP;have HF:=zH (fun w' (hB:Below w.heap.size w w')=>mq hin.1 hin.2 (hG.below hB).tab);obtain⟨u,hu⟩:=ex_ (Lib.itoa n);rw[←hu]at HF hpa;clear hn hu hG
 by_cases hus:u=s
 ·have HV:=zH (show b_Z s=n by rw[hpa,if_pos hus])
  have t1:(u==s)=true:=by rw[hus];simp
  have t2:(u != s)=false:=by rw[hus];simp
  exact Fd
 ·have HV:=zH (show b_Z s=0 by rw[hpa,if_neg hus])
  have t1:(u==s)=false:=by simpa using hus
  have t2:(u != s)=true:=by simpa using hus
  exact Fd
theorem rx (s:LU_)(c:UInt8)(w:World)(hs:s.length≤1024):Calls Tryz.prog 240 #[.string (bs s),.int .u8 (c.toNat:Int)] w fun e w'=>(∃ v,e=.returned v∧aK.Own w' w.heap.size v (bN s c))∧Bw_ w w':=by
 by_cases hse:s=[]
 ·have HV:=zH (show bN s c=[] by unfold bN;rw[if_pos hse])
  subst hse;rw[HV.o];go_enter Tryz.func240,Tryz.ntmps240;go_wp2_with fail;go_ret;exact⟨⟨_,rfl,Rec.Own.nil _ _⟩,DF _ _⟩
 ·have HV:=zH (show bN s c=bT c s by unfold bN;rw[if_neg hse])
  have t1:(s==[])=false:=by simpa using hse
  have hsl:(s.length:Int)≤1024:=by omega
  clear hse;go_enter Tryz.func240,Tryz.ntmps240;go_wp2_with fail
  go_loopw [5,6,7] (fun vo vf vi wr=>∃ (out:LL_) (fr i:Nat) (av:Option Addr) (cv:Nat),vo=.slice av out.length cv∧vf=.int .i64 (fr:Int)∧vi=.int .i64 (i:Int)∧Hid (jw s c out fr i)∧Hid (aK.Own wr w.heap.size (.slice av out.length cv) out)∧Hid (Below w.heap.size w wr)) (fun _ _ vi _=>s.length-(intOf vi).toNat)
  case atStart=>exact⟨[],0,0,none,0,rfl,rfl,rfl,jw.start s c,Rec.Own.nil _ _,DF _ _⟩
  case round =>
   obtain⟨out,fr,i,av,cv,rfl,rfl,rfl,HP,HO,HB⟩:=hrel;have p1:=HP.o.le;have p2:=HP.o.lt;have p3:=HP.o.len
   by_cases h0:i<s.length
   ·have i0:=nn_ i
    have i1:(i:Int)<(s.length:Int):=by omega
    have f0:=nn_ fr;have f1:(fr:Int)≤(i:Int):=by omega
    have f2:(i:Int)≤(s.length:Int):=by omega
    by_cases hc:s[i]=c
    ·have t2:((s[i].toNat:Int)==(c.toNat:Int))=true:=by rw[hc];simp
     have HC:=zH (HP.o.cut h0 hc);have hlo:((out.length:Int))≤1025:=by omega
     have hho:out.length≤1025:=by omega
     clear hc p1 p2 p3;go_wp2_with (at_builtin;go_must (refine aK.append1V _ ((s.drop fr).take (i-fr)) rfl _ _ 22 rfl Tryz.underlying22 w.heap.size _ out (HO.o.below (af _ _)) rfl _ rfl (Rec.Row.new (R:=aK) wr [(s.drop fr).take (i-fr)] _).1 (by show(out.length+1)*16≤_;omega) (DG HB.o.size (af _ _).size) ?_);intro g gc w6 hown hc6 _;have HO6:=zH hown;have HB6:=zH (HB.o.trans ((((af wr (.cells (aK.cells [(s.drop fr).take (i-fr)]).toArray 9)).mono HB.o.size)).trans (hc6.below (B:=w.heap.size) (fun k hk=>(Rec.Own.ltV HO.o k hk).1) (DG HB.o.size (af _ _).size))));clear hown hc6);exact⟨⟨_,i+1,i+1,some ⟨g,0,none⟩,gc,by rw[DL];rfl,by go_num,by go_num,HC.o,by rw[DL];exact HO6.o,HB6.o⟩,by simp[intOf];omega⟩
    ·have t2:((s[i].toNat:Int)==(c.toNat:Int))=false:=by
      rw[beq_eq_false_iff_ne];intro h;exact hc (UInt8.toNat_inj.1 (by omega))
     have HC:=zH (HP.o.on h0 hc);clear hc p1 p2 p3;go_wp2_with fail;exact⟨⟨out,fr,i+1,av,cv,rfl,rfl,by go_num,HC.o,HO.o,HB.o⟩,by simp[intOf];omega⟩
   ·have HE:=zH (HP.o.end h0)
    have f0:=nn_ fr;have f2:(fr:Int)≤(s.length:Int):=by omega
    obtain⟨u,hu⟩:=ex_ (s.drop fr);have hu':List.drop fr s=u:=hu.symm;have hq:List.take (s.length-fr) u=u:=DB (by rw[hu,D7];exact DC _);rw[hu']at HE;have hho:out.length≤1025:=by omega
    have i1:¬(i:Int)<(s.length:Int):=by omega
    clear p1 p2 p3 hu;go_wp2_with (at_builtin;go_must (refine aK.append1V _ u rfl _ _ 22 rfl Tryz.underlying22 w.heap.size _ out (HO.o.below (af _ _)) rfl _ rfl (Rec.Row.new (R:=aK) wr [u] _).1 (by show(out.length+1)*16≤_;omega) (DG HB.o.size (af _ _).size) ?_);intro g gc w6 hown hc6 _;have HO6:=zH hown;have HB6:=zH (HB.o.trans ((((af wr (.cells (aK.cells [u]).toArray 9)).mono HB.o.size)).trans (hc6.below (B:=w.heap.size) (fun k hk=>(Rec.Own.ltV HO.o k hk).1) (DG HB.o.size (af _ _).size))));clear hown hc6);go_ret;rw[HV.o,HE.o];exact⟨⟨_,rfl,HO6.o⟩,HB6.o⟩
end
section
attribute [local irreducible] wpG
section
variable {bZ G:Nat}{w w' w3:World}{f:Rf}{at_:Int}{st rg:List RV}{los:List Lo}{pr:List (LU_×LU_)}{sv sv' lv lv' prv prv':Value}{X:List (Pt bZ)}
@[go_sem] theorem Ce (v0 v1 v2:Value) (w:World):(Instr.field 298 (.agg #[v0,v1,v2]) 1).run Tryz.prog w=.ok v1 w:=by kernel_rfl
@[go_sem] theorem Cd (v0 v1 v2:Value) (w:World):(Instr.field 298 (.agg #[v0,v1,v2]) 2).run Tryz.prog w=.ok v2 w:=by kernel_rfl
def aH (v:RV):List Value:=[.bool v.1,.int .i64 v.2.1,.string (bs v.2.2)]
theorem RM.at1 {v:RV}{D:Nat}{hD:bZ≤D}(h:RM bZ w G f at_ st rg los pr sv lv prv (X++[az D hD 298 (aH v)])):w.cell? ⟨D,0,none⟩=some (.bool v.1)∧w.cell? ⟨D,1,none⟩=some (.int .i64 v.2.1)∧w.cell? ⟨D,2,none⟩=some (.string (bs v.2.2))∧D<w.heap.size:=by
 have hb:Blk w D 298 (aH v):=h.loc (p:=az D hD 298 (aH v)) (by simp);exact⟨hb.cell (k:=0) rfl,hb.cell (k:=1) rfl,hb.cell (k:=2) rfl,hb.lt⟩
theorem n6 (n:Nat)(y:UInt8)(w:World)(hn:n≠8∧n≠13∧n≠9∧n≠10∧n≠11):Calls Tryz.prog 223 #[.pointer (some ⟨G,0,none⟩),.agg #[.int .u8 (n:Int),.int .u8 (y.toNat:Int)]] w fun e w'=>e=.returned (.tuple #[])∧Bw_ w w':=by
 have t1:((n:Int)==8)=false:=by rw[beq_eq_false_iff_ne];omega
 have t2:((n:Int)==13)=false:=by rw[beq_eq_false_iff_ne];omega
 have t3:((n:Int)==9)=false:=by rw[beq_eq_false_iff_ne];omega
 have t4:((n:Int)==10)=false:=by rw[beq_eq_false_iff_ne];omega
 have t5:((n:Int)==11)=false:=by rw[beq_eq_false_iff_ne];omega
 clear hn;go_enter Tryz.func223,Tryz.ntmps223;go_wp2_with fail;refine bodyPost_end (results_none rfl _ _ _) rfl ?_;exact⟨rfl,af _ _⟩
theorem we (y:UInt8)(a:RV)(h:RM bZ w G f at_ (a::st) rg los pr sv lv prv X)(hl:st.length≤900)(ha:vOk a.2)(hG:∀ w',Below bZ w w'→cU w'):Calls Tryz.prog 223 #[.pointer (some ⟨G,0,none⟩),.agg #[.int .u8 8,.int .u8 (y.toNat:Int)]] w fun e w'=>e=.returned (.tuple #[])∧(∃ sv',RM bZ w' G f at_ ((true,0,Lib.itoa a.2.1)::st) rg los pr sv' lv prv X)∧Below bZ w w':=by
 obtain⟨W1,hW1⟩:=ex_ (w.alloc (.cells #[.int .u8 8,.int .u8 (y.toNat:Int)] 127));have hb1:=ba_ hW1;have hx:=bm_ hW1;have x0:=hx.cell (k:=0) rfl;have HP:=zH (aT a (h.below hb1) (by omega));have HB1:=zH (hb1.mono h.size);have HG:=zH hG;obtain⟨v0,v1,-⟩:=ha;clear h hb1 hx hG;go_enter Tryz.func223,Tryz.ntmps223;go_upto_region 1 with fail;rw[←hW1];clear hW1;go_wp2_with (first|(go_at_call 233;refine(bj (true,0,Lib.itoa a.2.1) HM4.o (by omega)).mono ?_;rintro r w5 ⟨rfl,⟨sv5,hm⟩,hB⟩;have HM5:=zH hm;have HB5:=zH (HB4.o.trans hB);clear hm hB)|(go_at_call 234;refine(eL (Lib.itoa a.2.1) _).mono ?_;rintro r w4 ⟨rfl,hB⟩;have HM4:=zH (HM3.o.below hB);have HB4:=zH (HB3.o.trans (hB.mono HM3.o.size));clear hB)|(go_at_call 236;refine(mq v0 v1 (HG.o _ (HB1.o.trans HB.o)).tab).mono ?_;rintro r w3 ⟨rfl,hB⟩;have HM3:=zH (HM.o.below hB);have HB3:=zH (HB.o.trans (hB.mono HM.o.size));clear hB)|(go_at_call 200;refine HP.o.mono ?_;rintro r w2 ⟨rfl,⟨sv,hm⟩,hB⟩;unfold rvV;have HM:=zH hm;have HB:=zH hB;clear hm hB));refine bodyPost_end (results_none rfl _ _ _) rfl ?_;exact⟨rfl,⟨_,HM5.o⟩,HB1.o.trans HB5.o⟩
theorem yu (y:UInt8)(a:RV)(h:RM bZ w G f at_ (a::st) rg los pr sv lv prv X)(hl:st.length≤900):Calls Tryz.prog 223 #[.pointer (some ⟨G,0,none⟩),.agg #[.int .u8 13,.int .u8 (y.toNat:Int)]] w fun e w'=>e=.returned (.tuple #[])∧(∃ sv',RM bZ w' G f at_ ((false,bitM (a.2.1==0))::st) rg los pr sv' lv prv X)∧Below bZ w w':=by
 obtain⟨W1,hW1⟩:=ex_ (w.alloc (.cells #[.int .u8 13,.int .u8 (y.toNat:Int)] 127));have hb1:=ba_ hW1;have hx:=bm_ hW1;have x0:=hx.cell (k:=0) rfl;have HP:=zH (aT a (h.below hb1) (by omega));have HB1:=zH (hb1.mono h.size);clear h hb1 hx;go_enter Tryz.func223,Tryz.ntmps223;go_upto_region 1 with fail;rw[←hW1];clear hW1;go_wp2_with (first|(go_at_call 233;refine(bj (false,bitM (a.2.1==0)) HM4.o (by omega)).mono ?_;rintro r w5 ⟨rfl,⟨sv5,hm⟩,hB⟩;have HM5:=zH hm;have HB5:=zH (HB4.o.trans hB);clear hm hB)|(go_at_call 237;refine(mN (a.2.1==0) _).mono ?_;rintro r w4 ⟨rfl,hB⟩;have HM4:=zH (HM.o.below hB);have HB4:=zH (HB.o.trans (hB.mono HM.o.size));clear hB)|(go_at_call 200;refine HP.o.mono ?_;rintro r w2 ⟨rfl,⟨sv,hm⟩,hB⟩;unfold rvV;have HM:=zH hm;have HB:=zH hB;clear hm hB));refine bodyPost_end (results_none rfl _ _ _) rfl ?_;exact⟨rfl,⟨_,HM5.o⟩,HB1.o.trans HB5.o⟩
theorem yJ (y:UInt8)(a b:RV)(h:RM bZ w G f at_ (b::a::st) rg los pr sv lv prv X)(hl:st.length≤900):Calls Tryz.prog 223 #[.pointer (some ⟨G,0,none⟩),.agg #[.int .u8 9,.int .u8 (y.toNat:Int)]] w fun e w'=>e=.returned (.tuple #[])∧(∃ sv',RM bZ w' G f at_ ((false,wrap64 (a.2.1+b.2.1),[])::st) rg los pr sv' lv prv X)∧Below bZ w w':=by
 obtain⟨W1,hW1⟩:=ex_ (w.alloc (.cells #[.int .u8 9,.int .u8 (y.toNat:Int)] 127));have hb1:=ba_ hW1;have hx:=bm_ hW1;have x0:=hx.cell (k:=0) rfl;have HP:=zH (aT b (h.below hb1) (by simp;omega));have HB1:=zH (hb1.mono h.size);clear h hb1 hx;go_enter Tryz.func223,Tryz.ntmps223;go_upto_region 1 with fail;rw[←hW1];clear hW1;go_upto_region 8 with(go_at_call 200;refine HP.o.mono ?_;rintro r w2 ⟨rfl,⟨sv,hm⟩,hB⟩;unfold rvV;have HM:=zH hm;have HB:=zH (HB1.o.trans hB);clear hm hB);obtain⟨D,hD⟩:=ex_ w2.heap.size;obtain⟨W2,hW2⟩:=ex_ (w2.alloc (.cells (aH b).toArray 298));have hDb:bZ≤D:=by rw[hD];exact HM.o.size
 have hm2:RM bZ W2 G f at_ (a::st) rg los pr sv lv prv (X++[az D hDb 298 (aH b)]):=by subst hD;rw[hW2];exact HM.o.add (aH b) 298
 have HB2:=zH (show Below bZ w W2 by rw[hW2];exact HB.o.trans ((af _ _).mono HM.o.size));have HP2:=zH (aT a hm2 (by omega));have hg:w2.alloc (.cells #[.bool b.1,.int .i64 b.2.1,.string (bs b.2.2)] 298)=W2:=hW2.symm;rw[hg,←hD];clear hg hW2 hD hm2 HM HB;go_wp2_with (first|(go_at_call 233;refine(bj (false,wrap64 (a.2.1+b.2.1),[]) HM5.o.drop (by omega)).mono ?_;rintro r w6 ⟨rfl,⟨sv6,hm⟩,hB⟩;have HM6:=zH hm;have HB6:=zH (HB5.o.trans hB);clear hm hB)|(go_at_call 235;refine(gL (wrap64 (a.2.1+b.2.1)) _).mono ?_;rintro r w5 ⟨rfl,hB⟩;have hB9:=bt (af _ _) hB;have HM5:=zH (HM3.o.below hB9);have HB5:=zH (HB3.o.trans (hB9.mono HM3.o.size));clear hB hB9)|(go_at_call 200;refine HP2.o.mono ?_;rintro r w3 ⟨rfl,⟨sv3,hm⟩,hB⟩;unfold rvV;obtain⟨d0,d1,d2,ld⟩:=hm.at1;have HM3:=zH hm;have HB3:=zH (HB2.o.trans hB);clear hm hB));refine bodyPost_end (results_none rfl _ _ _) rfl ?_;exact⟨rfl,⟨_,HM6.o⟩,HB6.o⟩
theorem yv (y:UInt8)(a b:RV)(h:RM bZ w G f at_ (b::a::st) rg los pr sv lv prv X)(hl:st.length≤900):Calls Tryz.prog 223 #[.pointer (some ⟨G,0,none⟩),.agg #[.int .u8 10,.int .u8 (y.toNat:Int)]] w fun e w'=>e=.returned (.tuple #[])∧(∃ sv',RM bZ w' G f at_ ((false,wrap64 (a.2.1*b.2.1),[])::st) rg los pr sv' lv prv X)∧Below bZ w w':=by
 obtain⟨W1,hW1⟩:=ex_ (w.alloc (.cells #[.int .u8 10,.int .u8 (y.toNat:Int)] 127));have hb1:=ba_ hW1;have hx:=bm_ hW1;have x0:=hx.cell (k:=0) rfl;have HP:=zH (aT b (h.below hb1) (by simp;omega));have HB1:=zH (hb1.mono h.size);clear h hb1 hx;go_enter Tryz.func223,Tryz.ntmps223;go_upto_region 1 with fail;rw[←hW1];clear hW1;go_upto_region 12 with(go_at_call 200;refine HP.o.mono ?_;rintro r w2 ⟨rfl,⟨sv,hm⟩,hB⟩;unfold rvV;have HM:=zH hm;have HB:=zH (HB1.o.trans hB);clear hm hB);obtain⟨D,hD⟩:=ex_ w2.heap.size;obtain⟨W2,hW2⟩:=ex_ (w2.alloc (.cells (aH b).toArray 298));have hDb:bZ≤D:=by rw[hD];exact HM.o.size
 have hm2:RM bZ W2 G f at_ (a::st) rg los pr sv lv prv (X++[az D hDb 298 (aH b)]):=by subst hD;rw[hW2];exact HM.o.add (aH b) 298
 have HB2:=zH (show Below bZ w W2 by rw[hW2];exact HB.o.trans ((af _ _).mono HM.o.size));have HP2:=zH (aT a hm2 (by omega));have hg:w2.alloc (.cells #[.bool b.1,.int .i64 b.2.1,.string (bs b.2.2)] 298)=W2:=hW2.symm;rw[hg,←hD];clear hg hW2 hD hm2 HM HB;go_wp2_with (first|(go_at_call 233;refine(bj (false,wrap64 (a.2.1*b.2.1),[]) HM5.o.drop (by omega)).mono ?_;rintro r w6 ⟨rfl,⟨sv6,hm⟩,hB⟩;have HM6:=zH hm;have HB6:=zH (HB5.o.trans hB);clear hm hB)|(go_at_call 235;refine(gL (wrap64 (a.2.1*b.2.1)) _).mono ?_;rintro r w5 ⟨rfl,hB⟩;have hB9:=bt (af _ _) hB;have HM5:=zH (HM3.o.below hB9);have HB5:=zH (HB3.o.trans (hB9.mono HM3.o.size));clear hB hB9)|(go_at_call 200;refine HP2.o.mono ?_;rintro r w3 ⟨rfl,⟨sv3,hm⟩,hB⟩;unfold rvV;obtain⟨d0,d1,d2,ld⟩:=hm.at1;have HM3:=zH hm;have HB3:=zH (HB2.o.trans hB);clear hm hB));refine bodyPost_end (results_none rfl _ _ _) rfl ?_;exact⟨rfl,⟨_,HM6.o⟩,HB6.o⟩
theorem wk (y:UInt8)(a b:RV)(h:RM bZ w G f at_ (b::a::st) rg los pr sv lv prv X)(hl:st.length≤900):Calls Tryz.prog 223 #[.pointer (some ⟨G,0,none⟩),.agg #[.int .u8 11,.int .u8 (y.toNat:Int)]] w fun e w'=>e=.returned (.tuple #[])∧(∃ sv',RM bZ w' G f at_ ((false,bitM (decide (a.2.1<b.2.1)))::st) rg los pr sv' lv prv X)∧Below bZ w w':=by
 obtain⟨W1,hW1⟩:=ex_ (w.alloc (.cells #[.int .u8 11,.int .u8 (y.toNat:Int)] 127));have hb1:=ba_ hW1;have hx:=bm_ hW1;have x0:=hx.cell (k:=0) rfl;have HP:=zH (aT b (h.below hb1) (by simp;omega));have HB1:=zH (hb1.mono h.size);clear h hb1 hx;go_enter Tryz.func223,Tryz.ntmps223;go_upto_region 1 with fail;rw[←hW1];clear hW1;go_upto_region 16 with(go_at_call 200;refine HP.o.mono ?_;rintro r w2 ⟨rfl,⟨sv,hm⟩,hB⟩;unfold rvV;have HM:=zH hm;have HB:=zH (HB1.o.trans hB);clear hm hB);obtain⟨D,hD⟩:=ex_ w2.heap.size;obtain⟨W2,hW2⟩:=ex_ (w2.alloc (.cells (aH b).toArray 298));have hDb:bZ≤D:=by rw[hD];exact HM.o.size
 have hm2:RM bZ W2 G f at_ (a::st) rg los pr sv lv prv (X++[az D hDb 298 (aH b)]):=by subst hD;rw[hW2];exact HM.o.add (aH b) 298
 have HB2:=zH (show Below bZ w W2 by rw[hW2];exact HB.o.trans ((af _ _).mono HM.o.size));have HP2:=zH (aT a hm2 (by omega));have hg:w2.alloc (.cells #[.bool b.1,.int .i64 b.2.1,.string (bs b.2.2)] 298)=W2:=hW2.symm;rw[hg,←hD];clear hg hW2 hD hm2 HM HB;go_wp2_with (first|(go_at_call 233;refine(bj (false,bitM (decide (a.2.1<b.2.1))) HM5.o.drop (by omega)).mono ?_;rintro r w6 ⟨rfl,⟨sv6,hm⟩,hB⟩;have HM6:=zH hm;have HB6:=zH (HB5.o.trans hB);clear hm hB)|(go_at_call 237;refine(mN (decide (a.2.1<b.2.1)) _).mono ?_;rintro r w5 ⟨rfl,hB⟩;have hB9:=bt (af _ _) hB;have HM5:=zH (HM3.o.below hB9);have HB5:=zH (HB3.o.trans (hB9.mono HM3.o.size));clear hB hB9)|(go_at_call 200;refine HP2.o.mono ?_;rintro r w3 ⟨rfl,⟨sv3,hm⟩,hB⟩;unfold rvV;obtain⟨d0,d1,d2,ld⟩:=hm.at1;have HM3:=zH hm;have HB3:=zH (HB2.o.trans hB);clear hm hB));refine bodyPost_end (results_none rfl _ _ _) rfl ?_;exact⟨rfl,⟨_,HM6.o⟩,HB6.o⟩
end
end
section
attribute [local irreducible] wpG
section
variable {bZ G:Nat}{w w' w3:World}{f:Rf}{at_:Int}{st rg:List RV}{los:List Lo}{pr:List (LU_×LU_)}{sv sv' lv lv' prv prv':Value}{X:List (Pt bZ)}
theorem RM.atB {v:RV}{D:Nat}{hD:bZ≤D}(h:RM bZ w G f at_ st rg los pr sv lv prv X)(hm:az D hD 298 (aH v)∈X):w.cell? ⟨D,0,none⟩=some (.bool v.1)∧w.cell? ⟨D,1,none⟩=some (.int .i64 v.2.1)∧w.cell? ⟨D,2,none⟩=some (.string (bs v.2.2))∧D<w.heap.size:=by
 have hb:Blk w D 298 (aH v):=h.loc hm;exact⟨hb.cell (k:=0) rfl,hb.cell (k:=1) rfl,hb.cell (k:=2) rfl,hb.lt⟩
theorem RM.newP (h:RM bZ w G f at_ st rg los pr sv lv prv X){l:List (LU_×LU_)}(hc:Chg (fun k=>prv.ownBlock=some k) w w3)(hg:∀ k,prv'.ownBlock=some k→prv.ownBlock=some k∨w.heap.size≤k)(ho:recKq.Own w3 bZ prv' l):RM bZ (w3.setCell ⟨G,32,none⟩ prv') G f at_ st rg los l sv lv prv' X∧Below bZ w (w3.setCell ⟨G,32,none⟩ prv')∧w3.frozen? ⟨G,32,none⟩=false∧w3.cell? ⟨G,32,none⟩=some prv:=by
 have s1:=h.sep.upd (i:=4) rfl hc (fun k hk=>hk) (ownPt recKq prv' l) ho hg;have hs:Chg (fun k=>k=G) w3 (w3.setCell ⟨G,32,none⟩ prv'):=Chg.setCell _ _ _ rfl;have b3:Blk w3 G 302 (bP f at_ sv rg lv prv):=s1.get (i:=0) rfl
 have hcs:(bP f at_ sv rg lv prv).set 32 prv'=bP f at_ sv rg lv prv':=by
  obtain⟨a,b,c,d,e,f',g,j,hr⟩:=fq h.rl;rw[hr];rfl
 have hb:=b3.set 32 prv';rw[hcs]at hb;have s2:=s1.upd (i:=0) rfl hs (fun k hk=>hk) (az G h.gb 302 (bP f at_ sv rg lv prv')) hb (fun k hk=>.inl hk);exact⟨⟨h.gb,h.rl,s2⟩,(h.sep.updB (i:=4) rfl hc (fun k hk=>hk) h.size).trans (hs.below (fun k hk=>by have:=h.gb;omega) (DG h.size hc.size)),by obtain⟨a,b,c,d,e,f',g,j,hr⟩:=fq h.rl;rw[hr]at b3;exact b3.free (k:=32) (by show 32<33;decide),by obtain⟨a,b,c,d,e,f',g,j,hr⟩:=fq h.rl;rw[hr]at b3;exact b3.cell (k:=32) rfl⟩
theorem qS (n:Nat)(y:UInt8)(w:World)(hn:n≠4∧n≠5∧n≠6∧n≠7∧n≠12∧n≠23):Calls Tryz.prog 224 #[.pointer (some ⟨G,0,none⟩),.agg #[.int .u8 (n:Int),.int .u8 (y.toNat:Int)]] w fun e w'=>e=.returned (.int .i64 0)∧Bw_ w w':=by
 have t1:((n:Int)==4)=false:=by rw[beq_eq_false_iff_ne];omega
 have t2:((n:Int)==5)=false:=by rw[beq_eq_false_iff_ne];omega
 have t3:((n:Int)==6)=false:=by rw[beq_eq_false_iff_ne];omega
 have t4:((n:Int)==7)=false:=by rw[beq_eq_false_iff_ne];omega
 have t5:((n:Int)==12)=false:=by rw[beq_eq_false_iff_ne];omega
 have t6:((n:Int)==23)=false:=by rw[beq_eq_false_iff_ne];omega
 clear hn;go_enter Tryz.func224,Tryz.ntmps224;go_wp2_with fail;go_ret;exact⟨rfl,af _ _⟩
theorem yw (y:UInt8)(a:RV)(h:RM bZ w G f at_ (a::st) rg los pr sv lv prv X)(hl:st.length≤900)(ha:a.2.2.length≤1024):Calls Tryz.prog 224 #[.pointer (some ⟨G,0,none⟩),.agg #[.int .u8 5,.int .u8 (y.toNat:Int)]] w fun e w'=>e=.returned (.int .i64 0)∧(∃ sv',RM bZ w' G f at_ ((false,(a.2.2.length:Int),[])::st) rg los pr sv' lv prv X)∧Below bZ w w':=by
 obtain⟨W1,hW1⟩:=ex_ (w.alloc (.cells #[.int .u8 5,.int .u8 (y.toNat:Int)] 127));have hb1:=ba_ hW1;have hx:=bm_ hW1;have x0:=hx.cell (k:=0) rfl;have HP:=zH (aT a (h.below hb1) (by omega));have HB1:=zH (hb1.mono h.size);have hal:(a.2.2.length:Int)≤1024:=by omega
 clear h hb1 hx;go_enter Tryz.func224,Tryz.ntmps224;go_upto_region 1 with fail;rw[←hW1];clear hW1;go_wp2_with (first|(go_at_call 233;refine(bj (false,(a.2.2.length:Int),[]) HM4.o (by omega)).mono ?_;rintro r w5 ⟨rfl,⟨sv5,hm⟩,hB⟩;have HM5:=zH hm;have HB5:=zH (HB4.o.trans hB);clear hm hB)|(go_at_call 235;refine(gL (a.2.2.length:Int) _).mono ?_;rintro r w4 ⟨rfl,hB⟩;have HM4:=zH (HM.o.below hB);have HB4:=zH (HB.o.trans (hB.mono HM.o.size));clear hB)|(go_at_call 200;refine HP.o.mono ?_;rintro r w2 ⟨rfl,⟨sv,hm⟩,hB⟩;unfold rvV;have HM:=zH hm;have HB:=zH hB;clear hm hB));go_ret;exact⟨rfl,⟨_,HM5.o⟩,HB1.o.trans HB5.o⟩
theorem pT (y:UInt8)(a:RV)(h:RM bZ w G f at_ (a::st) rg los pr sv lv prv X)(hl:st.length≤900)(ha:a.2.2.length≤1024)(hG:∀ w',Below bZ w w'→cU w'):Calls Tryz.prog 224 #[.pointer (some ⟨G,0,none⟩),.agg #[.int .u8 7,.int .u8 (y.toNat:Int)]] w fun e w'=>e=.returned (.int .i64 0)∧(∃ sv',RM bZ w' G f at_ ((false,b_Z a.2.2,[])::st) rg los pr sv' lv prv X)∧Below bZ w w':=by
 obtain⟨W1,hW1⟩:=ex_ (w.alloc (.cells #[.int .u8 7,.int .u8 (y.toNat:Int)] 127));have hb1:=ba_ hW1;have hx:=bm_ hW1;have x0:=hx.cell (k:=0) rfl;have HP:=zH (aT a (h.below hb1) (by omega));have HB1:=zH (hb1.mono h.size);have HG:=zH hG;clear h hb1 hx hG;go_enter Tryz.func224,Tryz.ntmps224;go_upto_region 1 with fail;rw[←hW1];clear hW1;go_wp2_with (first|(go_at_call 233;refine(bj (false,b_Z a.2.2,[]) HM4.o (by omega)).mono ?_;rintro r w5 ⟨rfl,⟨sv5,hm⟩,hB⟩;have HM5:=zH hm;have HB5:=zH (HB4.o.trans hB);clear hm hB)|(go_at_call 235;refine(gL (b_Z a.2.2) _).mono ?_;rintro r w4 ⟨rfl,hB⟩;have HM4:=zH (HM3.o.below hB);have HB4:=zH (HB3.o.trans (hB.mono HM3.o.size));clear hB)|(go_at_call 239;refine(tj a.2.2 _ ha (HG.o _ (HB1.o.trans HB.o))).mono ?_;rintro r w3 ⟨rfl,hB⟩;have HM3:=zH (HM.o.below hB);have HB3:=zH (HB.o.trans (hB.mono HM.o.size));clear hB)|(go_at_call 200;refine HP.o.mono ?_;rintro r w2 ⟨rfl,⟨sv,hm⟩,hB⟩;unfold rvV;have HM:=zH hm;have HB:=zH hB;clear hm hB));go_ret;exact⟨rfl,⟨_,HM5.o⟩,HB1.o.trans HB5.o⟩
theorem wg (y:UInt8)(a b:RV)(h:RM bZ w G f at_ (b::a::st) rg los pr sv lv prv X)(hl:st.length≤900):Calls Tryz.prog 224 #[.pointer (some ⟨G,0,none⟩),.agg #[.int .u8 12,.int .u8 (y.toNat:Int)]] w fun e w'=>e=.returned (.int .i64 0)∧(∃ sv',RM bZ w' G f at_ ((false,bitM (a.2.2==b.2.2))::st) rg los pr sv' lv prv X)∧Below bZ w w':=by
 obtain⟨W1,hW1⟩:=ex_ (w.alloc (.cells #[.int .u8 12,.int .u8 (y.toNat:Int)] 127));have hb1:=ba_ hW1;have hx:=bm_ hW1;have x0:=hx.cell (k:=0) rfl;have HP:=zH (aT b (h.below hb1) (by simp;omega));have HB1:=zH (hb1.mono h.size);clear h hb1 hx;go_enter Tryz.func224,Tryz.ntmps224;go_upto_region 1 with fail;rw[←hW1];clear hW1;go_upto_region 18 with(go_at_call 200;refine HP.o.mono ?_;rintro r w2 ⟨rfl,⟨sv,hm⟩,hB⟩;unfold rvV;have HM:=zH hm;have HB:=zH (HB1.o.trans hB);clear hm hB);obtain⟨D,hD⟩:=ex_ w2.heap.size;obtain⟨W2,hW2⟩:=ex_ (w2.alloc (.cells (aH b).toArray 298));have hDb:bZ≤D:=by rw[hD];exact HM.o.size
 have hm2:RM bZ W2 G f at_ (a::st) rg los pr sv lv prv (X++[az D hDb 298 (aH b)]):=by subst hD;rw[hW2];exact HM.o.add (aH b) 298
 have HB2:=zH (show Below bZ w W2 by rw[hW2];exact HB.o.trans ((af _ _).mono HM.o.size));have HP2:=zH (aT a hm2 (by omega));have hg:w2.alloc (.cells #[.bool b.1,.int .i64 b.2.1,.string (bs b.2.2)] 298)=W2:=hW2.symm;rw[hg,←hD];clear hg hW2 hD hm2 HM HB;go_wp2_with (first|(go_at_call 233;refine(bj (false,bitM (a.2.2==b.2.2)) HM5.o.drop (by omega)).mono ?_;rintro r w6 ⟨rfl,⟨sv6,hm⟩,hB⟩;have HM6:=zH hm;have HB6:=zH (HB5.o.trans hB);clear hm hB)|(go_at_call 237;refine(mN (a.2.2==b.2.2) _).mono ?_;rintro r w5 ⟨rfl,hB⟩;have hB9:=bt (af _ _) hB;have HM5:=zH (HM3.o.below hB9);have HB5:=zH (HB3.o.trans (hB9.mono HM3.o.size));clear hB hB9)|(go_at_call 200;refine HP2.o.mono ?_;rintro r w3 ⟨rfl,⟨sv3,hm⟩,hB⟩;unfold rvV;obtain⟨d0,d1,d2,ld⟩:=hm.at1;have HM3:=zH hm;have HB3:=zH (HB2.o.trans hB);clear hm hB));go_ret;exact⟨rfl,⟨_,HM6.o⟩,HB6.o⟩
theorem yI (y:UInt8)(a b:RV)(h:RM bZ w G f at_ (b::a::st) rg los pr sv lv prv X)(hl:st.length≤900)(ha:a.2.2.length≤1024)(hb:b.2.2.length≤1024)(hab:¬1024<a.2.2.length+b.2.2.length):Calls Tryz.prog 224 #[.pointer (some ⟨G,0,none⟩),.agg #[.int .u8 4,.int .u8 (y.toNat:Int)]] w fun e w'=>e=.returned (.int .i64 0)∧(∃ sv',RM bZ w' G f at_ ((true,0,a.2.2++b.2.2)::st) rg los pr sv' lv prv X)∧Below bZ w w':=by
 obtain⟨W1,hW1⟩:=ex_ (w.alloc (.cells #[.int .u8 4,.int .u8 (y.toNat:Int)] 127));have hb1:=ba_ hW1;have hx:=bm_ hW1;have x0:=hx.cell (k:=0) rfl;have HP:=zH (aT b (h.below hb1) (by simp;omega));have HB1:=zH (hb1.mono h.size);have q1:¬(1024:Int)<(a.2.2.length:Int)+(b.2.2.length:Int):=by omega
 have q2:(a.2.2.length:Int)≤1024:=by omega
 have q3:(b.2.2.length:Int)≤1024:=by omega
 clear h hb1 hx;go_enter Tryz.func224,Tryz.ntmps224;go_upto_region 1 with fail;rw[←hW1];clear hW1;go_upto_region 4 with(go_at_call 200;refine HP.o.mono ?_;rintro r w2 ⟨rfl,⟨sv,hm⟩,hB⟩;unfold rvV;have HM:=zH hm;have HB:=zH (HB1.o.trans hB);clear hm hB);obtain⟨D,hD⟩:=ex_ w2.heap.size;obtain⟨W2,hW2⟩:=ex_ (w2.alloc (.cells (aH b).toArray 298));have hDb:bZ≤D:=by rw[hD];exact HM.o.size
 have hm2:RM bZ W2 G f at_ (a::st) rg los pr sv lv prv (X++[az D hDb 298 (aH b)]):=by subst hD;rw[hW2];exact HM.o.add (aH b) 298
 have HB2:=zH (show Below bZ w W2 by rw[hW2];exact HB.o.trans ((af _ _).mono HM.o.size));have HP2:=zH (aT a hm2 (by omega));have hg:w2.alloc (.cells #[.bool b.1,.int .i64 b.2.1,.string (bs b.2.2)] 298)=W2:=hW2.symm;rw[hg,←hD];clear hg hW2 hD hm2 HM HB;go_wp2_with (first|(go_at_call 233;refine(bj (true,0,a.2.2++b.2.2) HM5.o.drop (by omega)).mono ?_;rintro r w6 ⟨rfl,⟨sv6,hm⟩,hB⟩;have HM6:=zH hm;have HB6:=zH (HB5.o.trans hB);clear hm hB)|(go_at_call 234;refine(eL (a.2.2++b.2.2) _).mono ?_;rintro r w5 ⟨rfl,hB⟩;have hB9:=bt (af _ _) hB;have HM5:=zH (HM3.o.below hB9);have HB5:=zH (HB3.o.trans (hB9.mono HM3.o.size));clear hB hB9)|(go_at_call 200;refine HP2.o.mono ?_;rintro r w3 ⟨rfl,⟨sv3,hm⟩,hB⟩;unfold rvV;obtain⟨d0,d1,d2,ld⟩:=hm.at1;have HM3:=zH hm;have HB3:=zH (HB2.o.trans hB);clear hm hB));go_ret;exact⟨rfl,⟨_,HM6.o⟩,HB6.o⟩
theorem wF (y:UInt8)(a b:RV)(h:RM bZ w G f at_ (b::a::st) rg los pr sv lv prv X)(hl:st.length≤900)(ha:a.2.2.length≤1024)(hb:b.2.2.length≤1024)(hab:1024<a.2.2.length+b.2.2.length):Calls Tryz.prog 224 #[.pointer (some ⟨G,0,none⟩),.agg #[.int .u8 4,.int .u8 (y.toNat:Int)]] w fun e w'=>e=.returned (.int .i64 5)∧Below bZ w w':=by
 obtain⟨W1,hW1⟩:=ex_ (w.alloc (.cells #[.int .u8 4,.int .u8 (y.toNat:Int)] 127));have hb1:=ba_ hW1;have hx:=bm_ hW1;have x0:=hx.cell (k:=0) rfl;have HP:=zH (aT b (h.below hb1) (by simp;omega));have HB1:=zH (hb1.mono h.size);have q1:(1024:Int)<(a.2.2.length:Int)+(b.2.2.length:Int):=by omega
 have q2:(a.2.2.length:Int)≤1024:=by omega
 have q3:(b.2.2.length:Int)≤1024:=by omega
 clear h hb1 hx;go_enter Tryz.func224,Tryz.ntmps224;go_upto_region 1 with fail;rw[←hW1];clear hW1;go_upto_region 4 with(go_at_call 200;refine HP.o.mono ?_;rintro r w2 ⟨rfl,⟨sv,hm⟩,hB⟩;unfold rvV;have HM:=zH hm;have HB:=zH (HB1.o.trans hB);clear hm hB);obtain⟨D,hD⟩:=ex_ w2.heap.size;obtain⟨W2,hW2⟩:=ex_ (w2.alloc (.cells (aH b).toArray 298));have hDb:bZ≤D:=by rw[hD];exact HM.o.size
 have hm2:RM bZ W2 G f at_ (a::st) rg los pr sv lv prv (X++[az D hDb 298 (aH b)]):=by subst hD;rw[hW2];exact HM.o.add (aH b) 298
 have HB2:=zH (show Below bZ w W2 by rw[hW2];exact HB.o.trans ((af _ _).mono HM.o.size));have HP2:=zH (aT a hm2 (by omega));have hg:w2.alloc (.cells #[.bool b.1,.int .i64 b.2.1,.string (bs b.2.2)] 298)=W2:=hW2.symm;rw[hg,←hD];clear hg hW2 hD hm2 HM HB;go_wp2_with (go_at_call 200;refine HP2.o.mono ?_;rintro r w3 ⟨rfl,⟨sv3,hm⟩,hB⟩;unfold rvV;obtain⟨d0,d1,d2,ld⟩:=hm.at1;have HM3:=zH hm;have HB3:=zH (HB2.o.trans hB);clear hm hB);go_ret;exact⟨rfl,HB3.o.trans ((af _ _).mono HM3.o.size)⟩
end
end
section
attribute [local irreducible] wpG
theorem uB (a:Addr)(n:Nat):(a.add n).block=a.block:=by unfold Addr.add;split<;>rfl
theorem mF {w:World}{a:Option Addr}{cap:Nat}{l:LL_}(h:aK.Row w (.slice a l.length cap) l)(k:Nat)(hk:k≤l.length):∃ A C,(∀ wx,(Instr.slice 22 (.slice a l.length cap) (some (.int .i64 (k:Int))) none none).run Tryz.prog wx=.ok (.slice A (l.length-k) C) wx)∧aK.Row w (.slice A (l.length-k) C) (l.drop k)∧(∀ b,(Value.slice A (l.length-k) C).ownBlock=some b→(Value.slice a l.length cap).ownBlock=some b):=by
 obtain⟨_,a',cap',hv,hle⟩:=id h;injection hv with _ _ h3
 subst h3;refine⟨_,_,fun wx=>?_,h.cut k hk,?_⟩
 ·rw[run_slice_l wx 22 a l.length cap (by kernel_rfl) .i64 k (by omega) (by omega)]
  have he:(sizeOf (Tryz.prog.elem 22)).run Tryz.prog wx=.ok 1 wx:=by kernel_rfl
  rw[he];have h1:k*aK.n=k:=Nat.mul_one k;simp[Result.andThen,sliced,h1]
 ·intro b hA
  split at hA
  ·cases a with
   | none=>cases hA
   | some ad=>exact hA
  ·cases a with
   | none=>cases hA
   | some ad =>
    have:(ad.add (k*aK.n)).block=b:=by simpa[Value.ownBlock] using hA
    rw[uB]at this;show some ad.block=some b;rw[this]
section
variable {bZ G:Nat}{w w' w3:World}{f:Rf}{at_:Int}{st rg:List RV}{los l:List Lo}{e:Lo}{pr:List (LU_×LU_)}{tv cv iv ev ow sv sv' lv lv' prv prv':Value}{X:List (Pt bZ)}{q:Pt bZ}
theorem Sep.split {A B:List (Pt bZ)}{p:Pt bZ}(h:Sep bZ w (A++p::B))(p1 p2:Pt bZ)(h1:p1.P w)(h2:p2.P w)(hf1:∀ k,p1.fp k→p.fp k)(hf2:∀ k,p2.fp k→p.fp k)(hd:∀ k,p1.fp k→¬p2.fp k):Sep bZ w (A++p1::B++[p2]):=by
 obtain⟨hP,hS⟩:=h;obtain⟨hA,hpB,hAp⟩:=List.pairwise_append.1 hS;obtain⟨hp,hB⟩:=List.pairwise_cons.1 hpB;refine⟨fun x hx=>?_,?_⟩
 ·rcases DM.1 hx with hx|hx
  ·rcases DM.1 hx with hx|hx
   ·exact hP x (by simp[hx])
   ·rcases List.mem_cons.1 hx with rfl|hx
    ·exact h1
    ·exact hP x (by simp[hx])
  ·rw[DZ]at hx;subst hx;exact h2
 ·refine List.pairwise_append.2 ⟨List.pairwise_append.2 ⟨hA,List.pairwise_cons.2 ⟨fun b hb k hk=>hp b hb k (hf1 k hk),hB⟩,fun a ha b hb k hk hk'=>?_⟩,List.pairwise_singleton _ _,fun a ha b hb k hk hk'=>?_⟩
  ·rcases List.mem_cons.1 hb with rfl|hb
   ·exact hAp a ha p (by simp) k hk (hf1 k hk')
   ·exact hAp a ha b (by simp[hb]) k hk hk'
  ·rw[DZ]at hb
   subst hb;rcases DM.1 ha with ha|ha
   ·exact hAp a ha p (by simp) k hk (hf2 k hk')
   ·rcases List.mem_cons.1 ha with rfl|ha
    ·exact hd k hk hk'
    ·exact hp a ha k (hf2 k hk') hk
theorem RM.cell31 (h:RM bZ w G f at_ st rg los pr sv lv prv X):(bP f at_ sv rg lv prv).set 31 lv'=bP f at_ sv rg lv' prv:=by
 obtain⟨a,b,c,d,e,f',g,j,hr⟩:=fq h.rl;rw[hr];rfl
theorem RM.newL (h:RM bZ w G f at_ st rg los pr sv lv prv (X++[q]))(hc:Chg (fun k=>lv.ownBlock=some k) w w3)(hg:∀ k,lv'.ownBlock=some k→lv.ownBlock=some k∨w.heap.size≤k)(ho:bH.Own w3 bZ lv' (los++[e]))(he:q.P w3→aK.Row w3 (loV e) e.ps)(hb:∀ k,(loV e).ownBlock=some k→q.fp k):RM bZ (w3.setCell ⟨G,31,none⟩ lv') G f at_ st rg (los++[e]) pr sv lv' prv X∧Below bZ w (w3.setCell ⟨G,31,none⟩ lv')∧w3.frozen? ⟨G,31,none⟩=false∧w3.cell? ⟨G,31,none⟩=some lv:=by
 have s1:=h.sep.upd (i:=2) rfl hc (fun k hk=>hk) (ownPt bH lv' (los++[e])) ho hg;have hlo:=s1.get (i:=3) (p:=fP los) rfl;have hq:q.P w3:=s1.1 q (by simp)
 have hap:∀ k,(fP (bZ:=bZ) los).fp k→¬q.fp k:=by
  have hl:(az G h.gb 302 (bP f at_ sv rg lv prv)::ownPt aN sv st.reverse::ownPt bH lv' (los++[e])::fP los::ownPt recKq prv pr::(X++[q]))[5+X.length]?=some q:=by
   rw[Nat.add_comm];show(X++[q])[X.length]?=_;simp
  exact s1.apart (i:=3) (j:=5+X.length) (p:=fP los) rfl hl (by omega)
 have hP:(fP (bZ:=bZ) (los++[e])).P w3:=by
  refine⟨fun x hx=>?_,List.pairwise_append.2 ⟨hlo.2,List.pairwise_singleton _ _,fun a ha b hb' k hk hk'=>?_⟩⟩
  ·rcases DM.1 hx with hx|hx
   ·exact hlo.1 x hx
   ·rw[DZ]at hx
    subst hx;exact⟨he hq,fun k hk=>q.lt hq k (hb k hk)⟩
  ·rw[DZ]at hb'
   subst hb';exact hap k ⟨a,ha,hk⟩ (hb k hk')
 have s15:Sep bZ w3 ([az G h.gb 302 (bP f at_ sv rg lv prv),ownPt aN sv st.reverse,ownPt bH lv' (los++[e])]++fP (los++[e])::(ownPt recKq prv pr::X)):=by
  refine Sep.merge (p:=fP los) (q:=q) s1 (fP (los++[e])) hP (fun k hk=>?_);obtain⟨x,hx,hk⟩:=hk;rcases DM.1 hx with hx|hx
  ·exact .inl ⟨x,hx,hk⟩
  ·rw[DZ]at hx
   subst hx;exact .inr (hb k hk)
 have hs:Chg (fun k=>k=G) w3 (w3.setCell ⟨G,31,none⟩ lv'):=Chg.setCell _ _ _ rfl;have b3:Blk w3 G 302 (bP f at_ sv rg lv prv):=s15.get (i:=0) rfl;have hbk:=b3.set 31 lv';rw[h.cell31]at hbk;have s2:=s15.upd (i:=0) rfl hs (fun k hk=>hk) (az G h.gb 302 (bP f at_ sv rg lv' prv)) hbk (fun k hk=>.inl hk);exact⟨⟨h.gb,h.rl,s2⟩,(h.sep.updB (i:=2) rfl hc (fun k hk=>hk) h.size).trans (hs.below (fun k hk=>by have:=h.gb;omega) (DG h.size hc.size)),by obtain⟨a,b,c,d,e,f',g,j,hr⟩:=fq h.rl;rw[hr]at b3;exact b3.free (k:=31) (by show 31<33;decide),by obtain⟨a,b,c,d,e,f',g,j,hr⟩:=fq h.rl;rw[hr]at b3;exact b3.cell (k:=31) rfl⟩
theorem RM.popL (h:RM bZ w G f at_ st rg (l++[e]) pr sv lv prv X)(hg:∀ k,lv'.ownBlock=some k→lv.ownBlock=some k)(ho:bH.Own w bZ lv' l):RM bZ (w.setCell ⟨G,31,none⟩ lv') G f at_ st rg l pr sv lv' prv (X++[fP [e]])∧Below bZ w (w.setCell ⟨G,31,none⟩ lv'):=by
 have s1:=h.sep.same (i:=2) rfl (ownPt bH lv' l) ho hg;have hlo:=h.ow;have hpw:=(List.pairwise_append.1 hlo.2).2.2
 have s15:Sep bZ w ([az G h.gb 302 (bP f at_ sv rg lv prv),ownPt aN sv st.reverse,ownPt bH lv' l]++fP l::(ownPt recKq prv pr::X)++[fP [e]]):=by
  refine Sep.split (p:=fP (l++[e])) s1 (fP l) (fP [e]) ⟨fun x hx=>hlo.1 x (by simp[hx]),(List.pairwise_append.1 hlo.2).1⟩ ⟨fun x hx=>hlo.1 x (by rw[DZ]at hx;simp[hx]),List.pairwise_singleton _ _⟩ ?_ ?_ ?_
  ·rintro k ⟨x,hx,hk⟩
   exact⟨x,by simp[hx],hk⟩
  ·rintro k ⟨x,hx,hk⟩
   rw[DZ]at hx;exact⟨x,by simp[hx],hk⟩
  ·rintro k ⟨x,hx,hk⟩ ⟨x',hx',hk'⟩
   exact hpw x hx x' hx' k hk hk'
 have hs:Chg (fun k=>k=G) w (w.setCell ⟨G,31,none⟩ lv'):=Chg.setCell _ _ _ rfl;have hbk:=h.blk.set 31 lv';rw[h.cell31]at hbk;have s2:=s15.upd (i:=0) rfl hs (fun k hk=>hk) (az G h.gb 302 (bP f at_ sv rg lv' prv)) hbk (fun k hk=>.inl hk);exact⟨⟨h.gb,h.rl,s2⟩,h.sep.updB (i:=0) rfl hs (fun k hk=>hk) h.size⟩
end
end
section
attribute [local irreducible] wpG
section
variable {bZ G:Nat}{w w' w3:World}{f:Rf}{at_:Int}{st rg:List RV}{los:List Lo}{pr:List (LU_×LU_)}{tv cv iv ev ow sv sv' lv lv' prv prv':Value}{X:List (Pt bZ)}
theorem pZ (n:Nat)(y:UInt8)(h:RM bZ w G f at_ st rg los pr sv lv prv X)(hn:n≠19∧n≠20∧n≠22∧n≠21):Calls Tryz.prog 225 #[.pointer (some ⟨G,0,none⟩),.agg #[.int .u8 (n:Int),.int .u8 (y.toNat:Int)]] w fun e w'=>e=.returned (.tuple #[])∧Bw_ w w':=by
 have t1:((n:Int)==19)=false:=by rw[beq_eq_false_iff_ne];omega
 have t2:((n:Int)==20)=false:=by rw[beq_eq_false_iff_ne];omega
 have t3:((n:Int)==22)=false:=by rw[beq_eq_false_iff_ne];omega
 have t4:((n:Int)==21)=false:=by rw[beq_eq_false_iff_ne];omega
 have c5:=h.cell (k:=5) rfl;have hGl:=h.blk.lt;clear hn h;go_enter Tryz.func225,Tryz.ntmps225;go_wp2_with fail;refine bodyPost_end (results_none rfl _ _ _) rfl ?_;exact⟨rfl,af _ _⟩
theorem qZ (y:UInt8)(pc:Nat)(h:RM bZ w G ⟨tv,cv,iv,ev,ow⟩ (pc:Int) st rg los pr sv lv prv X){l:List Int}(ht:bf.Row w ev l)(hp:pc<l.length)(hl2:l.length≤1000)(hv:-1000≤l[pc]∧l[pc]≤1000):Calls Tryz.prog 225 #[.pointer (some ⟨G,0,none⟩),.agg #[.int .u8 20,.int .u8 (y.toNat:Int)]] w fun e w'=>e=.returned (.tuple #[])∧RM bZ w' G ⟨tv,cv,iv,ev,ow⟩ (l[pc]-1) st rg los pr sv lv prv X∧Below bZ w w':=by
 obtain⟨W1,hW1⟩:=ex_ (w.alloc (.cells #[.int .u8 20,.int .u8 (y.toNat:Int)] 127));have hb1:=ba_ hW1;obtain⟨D1,hD1⟩:=ex_ w.heap.size;have hx:=bn_ hD1 hW1;have x0:=hx.cell (k:=0) rfl;have h1:=h.below hb1;obtain⟨a',n,hev,hc⟩:=db (ht.below hb1);obtain⟨b,off,rfl,d0⟩:=hc pc hp;subst hev;obtain⟨v,hv'⟩:∃ v,v=l[pc]:=⟨_,rfl⟩
 rw[←hv']at d0 hv⊢;obtain⟨j0,j1⟩:=hv;have i0:=nn_ pc;have i1:(pc:Int)<(l.length:Int):=by omega
 have i2:(l.length:Int)≤1000:=by omega
 have c3:=h1.cell (k:=3) rfl;have c5:=h1.cell (k:=5) rfl;have f5:=h1.free (k:=5) (by decide);have HB1:=zH (hb1.mono h.size);have H1:=zH h1;clear h h1 hb1 hx hc hv' ht;go_enter Tryz.func225,Tryz.ntmps225;go_upto_region 1 with fail;rw[←hW1,←hD1];clear hW1 hD1;go_wp2_with fail;refine bodyPost_end (results_none rfl _ _ _) rfl ?_;obtain⟨m5,b5⟩:=H1.o.setAt (v-1);exact⟨rfl,m5,HB1.o.trans b5⟩
theorem wo (y:UInt8)(a:RV)(pc:Nat)(h:RM bZ w G ⟨tv,cv,iv,ev,ow⟩ (pc:Int) (a::st) rg los pr sv lv prv X)(hl:st.length≤900){l:List Int}(ht:∀ w',Below bZ w w'→bf.Row w' ev l)(hp:pc<l.length)(hl2:l.length≤1000):Calls Tryz.prog 225 #[.pointer (some ⟨G,0,none⟩),.agg #[.int .u8 19,.int .u8 (y.toNat:Int)]] w fun e w'=>e=.returned (.tuple #[])∧(∃ sv',RM bZ w' G ⟨tv,cv,iv,ev,ow⟩ (if a.2.1=0 then l[pc] else (pc:Int)) st rg los pr sv' lv prv X)∧Below bZ w w':=by
 obtain⟨W1,hW1⟩:=ex_ (w.alloc (.cells #[.int .u8 19,.int .u8 (y.toNat:Int)] 127));have hb1:=ba_ hW1;obtain⟨D1,hD1⟩:=ex_ w.heap.size;have hx:=bn_ hD1 hW1;have x0:=hx.cell (k:=0) rfl;have h1:=h.below hb1;have c5:=h1.cell (k:=5) rfl;have HP:=zH (aT a h1 (by omega));have HB1:=zH (hb1.mono h.size);have HT:=zH ht;have i0:=nn_ pc;have i1:(pc:Int)<(l.length:Int):=by omega
 have i2:(l.length:Int)≤1000:=by omega
 clear h h1 hb1 hx ht
 by_cases ha:a.2.1=0
 ·rw[if_pos ha]
  have t0:(a.2.1==0)=true:=by simp[ha]
  clear ha;go_enter Tryz.func225,Tryz.ntmps225;go_upto_region 1 with fail;rw[←hW1,←hD1];clear hW1 hD1;go_upto_region 5 with(go_at_call 200;refine HP.o.mono ?_;rintro e w2 ⟨rfl,⟨sv,hm⟩,hB⟩;unfold rvV;have HM:=zH hm;have HB:=zH (HB1.o.trans hB);clear hm hB);obtain⟨a',n,hev,hc⟩:=db (HT.o _ HB.o);obtain⟨b,off,rfl,d0⟩:=hc pc hp;subst hev;obtain⟨v,hv'⟩:∃ v,v=l[pc]:=⟨_,rfl⟩
  rw[←hv']at d0;have HV:=zH hv';have c3:=HM.o.cell (k:=3) rfl;have c5:=HM.o.cell (k:=5) rfl;have f5:=HM.o.free (k:=5) (by decide);clear hc hv';go_wp2_with fail;refine bodyPost_end (results_none rfl _ _ _) rfl ?_;obtain⟨m5,b5⟩:=HM.o.setAt v;exact⟨rfl,⟨_,by rw[←HV.o];exact m5⟩,HB.o.trans b5⟩
 ·rw[if_neg ha]
  have t0:(a.2.1==0)=false:=by rw[beq_eq_false_iff_ne];exact ha
  clear ha;go_enter Tryz.func225,Tryz.ntmps225;go_upto_region 1 with fail;rw[←hW1,←hD1];clear hW1 hD1;go_wp2_with (go_at_call 200;refine HP.o.mono ?_;rintro e w2 ⟨rfl,⟨sv,hm⟩,hB⟩;unfold rvV;have HM:=zH hm;have HB:=zH (HB1.o.trans hB);clear hm hB);refine bodyPost_end (results_none rfl _ _ _) rfl ?_;exact⟨rfl,⟨_,HM.o⟩,HB.o⟩
end
end
