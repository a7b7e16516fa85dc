/- Lemmas. -/
import Derived.Test.YtfjpghgdebpliaaGreatDoorContractPlaysK10
import Derived.Test.YtfjpghgdebpliaaGreatDoorContractPlaysK13
set_option linter.unusedSimpArgs false
set_option linter.unusedVariables false
set_option maxRecDepth 100000
set_option maxHeartbeats 16000000
namespace Go.Proofs.YtfjpghgdebpliaaGreatDoor
open Go.Proofs.Tryz
open Go.RowKit Oct
theorem ox {c:U8_}:∀ {s:q},c ∉ s→cL c s=[s]
 | [],_=>rfl
 | x::s,h=>by
  have h1:¬x=c:=fun e=>h (by rw[e];exact Jn ..);rw[cL,if_neg h1,ox (fun hm=>h (Jo _ hm))]
theorem rZ {c:U8_}:∀ {a b:q},c ∉ a→cL c (a++c::b)=a::cL c b
 | [],b,_=>by rw[JC,cL,if_pos rfl]
 | x::a,b,h=>by
  have h1:¬x=c:=fun e=>h (by rw[e];exact Jn ..);rw[Jk,cL,if_neg h1,rZ (fun hm=>h (Jo _ hm))]
structure lJ (s:q) (c:U8_) (out:LL_) (fr i:Nat):Prop where
 le:fr≤i
 lt:i≤s.length
 no:c ∉ (s.drop fr).take (i-fr)
 eq:cL c s=out++cL c (s.drop fr)
theorem lJ.start (s:q)(c:U8_):lJ s c [] 0 0:=⟨I6 _,Jl _,by simp,by simp⟩
theorem lJ.drop {s:q}{c:U8_}{ag:LL_}{d i:Nat}(h:lJ s c ag d i)(hi:i<s.length):s.drop d=(s.drop d).take (i-d)++s[i]::s.drop (i+1):=by
 have h1:=h.le
 have e:(s.drop d).drop (i-d)=s[i]::s.drop (i+1):=by
  rw[Jv,show d+(i-d)=i by omega];exact JP hi
 rw[←e,List.take_append_drop]
theorem lJ.cut {s:q}{c:U8_}{ag:LL_}{d i:Nat}(h:lJ s c ag d i)(hi:i<s.length)(hc:s[i]=c):lJ s c (ag++[(s.drop d).take (i-d)]) (i+1) (i+1):=by
 refine⟨I6 _,hi,by simp,?_⟩;have:=h.eq;rw[h.drop hi,hc,rZ h.no]at this;rw[this,Jg];rfl
theorem lJ.on {s:q}{c:U8_}{ag:LL_}{d i:Nat}(h:lJ s c ag d i)(hi:i<s.length)(hc:s[i]≠c):lJ s c ag d (i+1):=by
 have h1:=h.le;refine⟨by omega,hi,?_,h.eq⟩;rw[show i+1-d=(i-d)+1 by omega,List.take_add_one,Jt];rintro (hm|hm)
 ·exact h.no hm
 ·rw[List.getElem?_drop,show d+(i-d)=i by omega,List.getElem?_eq_getElem hi]at hm
  simp at hm;exact hc hm.symm
theorem lJ.end {s:q}{c:U8_}{ag:LL_}{d i:Nat}(h:lJ s c ag d i)(hi:¬i<s.length):cL c s=ag++[s.drop d]:=by
 have h1:=h.lt;have h2:=h.no;rw[I5 (by rw[JG];omega)]at h2;rw[h.eq,ox h2]
theorem lJ.len {s:q}{c:U8_}{ag:LL_}{d i:Nat}(h:lJ s c ag d i):ag.length≤s.length+1:=by
 have:=(lW c s).1;rw[h.eq,Jh]at this;omega
abbrev RV:=Bool×MV
abbrev LR_:=List RV
def aY:Rec RV where
 cell v:=[.bool v.1,.int .i64 v.2.1,.string (bs v.2.2)]
 e:=292
 n:=3
 bytes:=32
 z:=.agg #[.bool false,.int .i64 0,.string ByteArray.empty]
 len:=fun _=>rfl
 one:=by intro x u h;simp at h;rcases h with rfl|rfl|rfl<;>rfl
 info:=by kernel_rfl
 zs:=rfl
 pos:=by decide
 bpos:=by decide
def rvV (v:RV):V_:=.agg #[.bool v.1,.int .i64 v.2.1,.string (bs v.2.2)]
structure Lo where
 at_:Nat
 ad:OA_
 n:Nat
 c:Nat
 ps:LL_
def cd:Rec Lo where
 cell e:=[.int .i64 e.at_,.slice e.ad e.n e.c]
 e:=313
 n:=2
 bytes:=32
 z:=.agg #[.int .i64 0,.slice none 0 0]
 len:=fun _=>rfl
 one:=by intro x u h;simp at h;rcases h with rfl|rfl<;>rfl
 info:=by kernel_rfl
 zs:=rfl
 pos:=by decide
 bpos:=by decide
def recKq:Rec (q×q) where
 cell v:=[.string (bs v.1),.string (bs v.2)]
 e:=64
 n:=2
 bytes:=32
 z:=.agg #[.string ByteArray.empty,.string ByteArray.empty]
 len:=fun _=>rfl
 one:=by intro x u h;simp at h;rcases h with rfl|rfl<;>rfl
 info:=by kernel_rfl
 zs:=rfl
 pos:=by decide
 bpos:=by decide
theorem Rec.Row.chgN {α:Type}{R:Rec α}{X:Nat→Prop}{w w':Z}{v:V_}{l:List α}(h:R.Row w v l)(hc:Chg X w w')(hX:∀ b,v.ownBlock=some b→¬X b):R.Row w' v l:=by
 obtain⟨⟨a,ah,rfl,hn,hu⟩,h2⟩:=h;refine⟨⟨a,ah,rfl,hn,fun j u hj=>?_⟩,h2⟩;obtain⟨b,aL,rfl,y⟩:=hu j u hj;exact⟨b,aL,rfl,hc.cell y (hX b rfl)⟩
def loV (e:Lo):V_:=.slice e.ad e.n e.c
def ir {bZ:Nat}(l:List Lo):Pt bZ where
 fp k:=∃ e∈l,(loV e).ownBlock=some k
 P w:=(∀ e∈l,aP.Row w (loV e) e.ps∧∀ k,(loV e).ownBlock=some k→bZ≤k∧k<w.heap.size)∧l.Pairwise fun e f=>∀ k,(loV e).ownBlock=some k→¬(loV f).ownBlock=some k
 frame:=fun h hc hX=>⟨fun e he=>⟨(h.1 e he).1.chgN hc (fun b hb=>hX b ⟨e,he,hb⟩),fun k hk=>⟨((h.1 e he).2 k hk).1,Jr ((h.1 e he).2 k hk).2 hc.size⟩⟩,h.2⟩
 lt:=fun h k hk=>by
  obtain⟨e,he,hk⟩:=hk;exact(h.1 e he).2 k hk
structure Rf where
 tv:V_
 cv:V_
 iv:V_
 ev:V_
 ow:V_
def cF (f:Rf)(ak:Int)(sv:V_)(rg:LR_)(lv J:V_):LV_:=[f.tv,f.cv,f.iv,f.ev,f.ow,.int .i64 ak,sv]++(aY.cells rg++[lv,J])
structure RM (bZ:Nat) (w:Z) (G:Nat) (f:Rf) (at_:Int) (st rg:LR_) (los:List Lo) (pr:LX_) (sv lv prv:V_) (X:List (Pt bZ)):Prop where
 gb:bZ≤G
 rl:rg.length=8
 sep:Sep bZ w (aF G gb 296 (cF f at_ sv rg lv prv)::ownPt aY sv st.reverse::ownPt cd lv los::ir los::ownPt recKq prv pr::X)
section
variable {bZ G:Nat}{w w' w3:Z}{f:Rf}{ak:Int}{st rg:LR_}{L:List Lo}{W:LX_}{sv V lv ao J aT:V_}{X:List (Pt bZ)}
theorem gP {α:Type}{l:List α}(h:l.length=8):∃ a b c d e f g i,l=[a,b,c,d,e,f,g,i]:=by
 match l,h with
 | [a,b,c,d,e,f,g,i],_=>exact⟨a,b,c,d,e,f,g,i,rfl⟩
theorem RM.blk (h:RM bZ w G f ak st rg L W sv lv J X):Blk w G 296 (cF f ak sv rg lv J):=h.sep.get (i:=0) rfl
theorem RM.os (h:RM bZ w G f ak st rg L W sv lv J X):aY.Own w bZ sv st.reverse:=h.sep.get (i:=1) rfl
theorem RM.ol (h:RM bZ w G f ak st rg L W sv lv J X):cd.Own w bZ lv L:=h.sep.get (i:=2) rfl
theorem RM.ow (h:RM bZ w G f ak st rg L W sv lv J X):(∀ e∈L,aP.Row w (loV e) e.ps∧∀ k,(loV e).ownBlock=some k→bZ≤k∧k<w.heap.size)∧L.Pairwise fun e f=>∀ k,(loV e).ownBlock=some k→¬(loV f).ownBlock=some k:=h.sep.get (i:=3) rfl
theorem RM.op (h:RM bZ w G f ak st rg L W sv lv J X):recKq.Own w bZ J W:=h.sep.get (i:=4) rfl
theorem RM.size (h:RM bZ w G f ak st rg L W sv lv J X):bZ≤w.heap.size:=Jc h.gb (JA h.blk.lt)
theorem RM.below (h:RM bZ w G f ak st rg L W sv lv J X)(hB:Bw_ w w'):RM bZ w' G f ak st rg L W sv lv J X:=⟨h.gb,h.rl,h.sep.below hB⟩
theorem RM.add (h:RM bZ w G f ak st rg L W sv lv J X)(cs:LV_)(t:T_):RM bZ (w.alloc (.cells cs.toArray t)) G f ak st rg L W sv lv J (X++[aF w.heap.size h.size t cs]) :=
 ⟨h.gb,h.rl,h.sep.snoc (af _ _) (aF w.heap.size h.size t cs) (Blk.new w cs t) (fun k hk=>by rw[show k=w.heap.size from hk];exact I6 _)⟩
theorem RM.drop {aa:List (Pt bZ)}(h:RM bZ w G f ak st rg L W sv lv J (X++aa)):RM bZ w G f ak st rg L W sv lv J X:=⟨h.gb,h.rl,Sep.init (p:=aa) h.sep⟩
theorem RM.loc {p:Pt bZ}(h:RM bZ w G f ak st rg L W sv lv J X)(hp:p∈X):p.P w:=h.sep.1 p (by simp[hp])
theorem RM.updX (h:RM bZ w G f ak st rg L W sv lv J X){aa:Nat→Prop}{i:Nat}{p:Pt bZ}(hi:X[i]?=some p)(hc:Chg aa w w')(hY:∀ k,aa k→p.fp k)(ap:Pt bZ)(hq:ap.P w')(hf:∀ k,ap.fp k→p.fp k):RM bZ w' G f ak st rg L W sv lv J (X.set i ap)∧B_ bZ w w' :=
 ⟨⟨h.gb,h.rl,h.sep.upd (i:=i+5) hi hc hY ap hq (fun k hk=>.inl (hf k hk))⟩,h.sep.updB (i:=i+5) hi hc hY h.size⟩
theorem RM.cell (h:RM bZ w G f ak st rg L W sv lv J X){k:Nat}{v:V_}(hv:[f.tv,f.cv,f.iv,f.ev,f.ow,F ak,sv][k]?=some v):w.cell? ⟨G,k,none⟩=some v:=by
 refine h.blk.cell (k:=k) ?_;unfold cF;rw[List.getElem?_append_left (List.getElem?_eq_some_iff.1 hv).1];exact hv
theorem RM.c (h:RM bZ w G f ak st rg L W sv lv J X)(k:Nat){v:V_}(hv:[f.tv,f.cv,f.iv,f.ev,f.ow,.int .i64 ak,sv][k]?=some v:=by exact rfl):w.cell? ⟨G,k,none⟩=some v:=h.cell (k:=k) hv
theorem RM.cellR (h:RM bZ w G f ak st rg L W sv lv J X){k:Nat}{v:V_}(hv:[lv,J][k]?=some v):w.cell? ⟨G,31+k,none⟩=some v:=by
 refine h.blk.cell (k:=31+k) ?_;obtain⟨a,b,c,d,e,K,g,i,rfl⟩:=gP h.rl;unfold cF;rw[List.getElem?_append_right yza,List.getElem?_append_right (by simp[Rec.cells,aY];omega)];rw[←hv];congr 1;simp[Rec.cells,aY];omega
theorem RM.reg (h:RM bZ w G f ak st rg L W sv lv J X){i:Nat}(hi:i<8):w.cell? ⟨G,7+i*3,none⟩=some (.bool (rg.getD i (false,0,[])).1)∧w.cell? ⟨G,7+i*3+1,none⟩=some (F (rg.getD i (false,0,[])).2.1)∧w.cell? ⟨G,7+i*3+2,none⟩=some (s_ (rg.getD i (false,0,[])).2.2):=by
 obtain⟨a,b,c,d,e,K,g,j,hr⟩:=gP h.rl;have hb:=h.blk;rw[hr]at hb⊢;rcases(by omega:i=0∨i=1∨i=2∨i=3∨i=4∨i=5∨i=6∨i=7) with rfl|rfl|rfl|rfl|rfl|rfl|rfl|rfl<;>exact⟨hb.cell yzf,hb.cell yzf,hb.cell yzf⟩
theorem RM.free (h:RM bZ w G f ak st rg L W sv lv J X){k:Nat}(hk:k<33):w.frozen? ⟨G,k,none⟩=false:=by
 refine h.blk.free ?_;obtain⟨a,b,c,d,e,K,g,j,hr⟩:=gP h.rl;rw[hr];exact hk
theorem RM.slices (h:RM bZ w G f ak st rg L W sv lv J X):(∃ a c,sv=.slice a st.length c)∧(∃ a c,lv=.slice a L.length c)∧∃ a c,J=.slice a W.length c:=by
 obtain⟨a,c,e⟩:=ay h.os;rw[List.length_reverse]at e;exact⟨⟨a,c,e⟩,ay h.ol,ay h.op⟩
theorem RM.newS (h:RM bZ w G f ak st rg L W sv lv J X){l:LR_}(hc:Chg (fun k=>sv.ownBlock=some k) w w3)(hg:∀ k,V.ownBlock=some k→sv.ownBlock=some k∨w.heap.size≤k)(ho:aY.Own w3 bZ V l.reverse):RM bZ (w3.setCell ⟨G,6,none⟩ V) G f ak l rg L W V lv J X∧B_ bZ w (w3.setCell ⟨G,6,none⟩ V)∧w3.cell? ⟨G,6,none⟩=some sv∧w3.frozen? ⟨G,6,none⟩=false:=by
 have q:=h.sep.upd (i:=1) rfl hc (fun k hk=>hk) (ownPt aY V l.reverse) ho hg;have hs:Chg (fun k=>k=G) w3 (w3.setCell ⟨G,6,none⟩ V):=Chg.setCell _ _ _ rfl;have b3:Blk w3 G 296 (cF f ak sv rg lv J):=q.get (i:=0) rfl;have s2:=q.upd (i:=0) rfl hs (fun k hk=>hk) (aF G h.gb 296 (cF f ak V rg lv J)) (b3.set 6 V) (fun k hk=>.inl hk);exact⟨⟨h.gb,h.rl,s2⟩,(h.sep.updB (i:=1) rfl hc (fun k hk=>hk) h.size).trans (hs.below (fun k hk=>by have:=h.gb;omega) (Jc h.size hc.size)),b3.c 6,b3.free (k:=6) (by simp[cF])⟩
theorem RM.setAt (h:RM bZ w G f ak st rg L W sv lv J X)(n:Int):RM bZ (w.setCell ⟨G,5,none⟩ (F n)) G f n st rg L W sv lv J X∧B_ bZ w (w.setCell ⟨G,5,none⟩ (F n)):=by
 have hs:Chg (fun k=>k=G) w (w.setCell ⟨G,5,none⟩ (F n)):=Chg.setCell _ _ _ rfl;have s2:=h.sep.upd (i:=0) rfl hs (fun k hk=>hk) (aF G h.gb 296 (cF f n sv rg lv J)) (h.blk.set 5 (F n)) (fun k hk=>.inl hk);exact⟨⟨h.gb,h.rl,s2⟩,h.sep.updB (i:=0) rfl hs (fun k hk=>hk) h.size⟩
theorem RM.pre {aa:List (Pt bZ)}(h:RM bZ w G f ak st rg L W sv lv J aa)(hX:X <+: aa):RM bZ w G f ak st rg L W sv lv J X:=by
 obtain⟨ab,rfl⟩:=hX;exact h.drop
theorem RM.top {v:RV}{ab:OA_}{n cb:Nat}(h:RM bZ w G f ak (v::st) rg L W (.slice ab n cb) lv J X):∃ g,ab=some ⟨g,0,none⟩∧n=st.length+1∧w.cell? ⟨g,st.length*3,none⟩=some (.bool v.1)∧w.cell? ⟨g,st.length*3+1,none⟩=some (F v.2.1)∧w.cell? ⟨g,st.length*3+2,none⟩=some (s_ v.2.2):=by
 obtain⟨⟨a,c,e⟩,_,_⟩:=h.slices;injection e with e1 e2 e3
 subst e1 e2 e3;obtain⟨g,rfl⟩:=h.os.at0 i_;obtain⟨a',ah,hv,aq,hc⟩:=Rec.Row.open h.os.row;injection hv with e1 e2 e3
 subst e1;obtain⟨b,aL,ha,hu⟩:=hc st.length i_;injection ha with ha
 injection ha with av aF _
 subst av aF;have hg:(v::st).reverse[st.length]' i_=v:=by simp[List.reverse_cons]
 rw[hg]at hu;have h0:=hu 0 _ rfl;have h1:=hu 1 _ rfl;have h2:=hu 2 _ rfl;rw[I9]at h0 h1 h2;exact⟨g,rfl,rfl,h0,h1,h2⟩
end
section
theorem pA {P:Program}{aM:Array Oper}{C:Z→Prop}{R:Z→Z→Prop}{am:Nat→Option (bu R)}{Q:aD→Act→Prop}{k:Nat}{S:aD}{a:Act}(h:Q S a):wpG P aM C R am Q k [] S a:=h
attribute [local irreducible] wpG
theorem fa {P:Program}{fn:Func}{p:Tmp}{ty:T_}{aE:AV_}{w:Z}{v:V_}{b:Nat}(hr:fn.results=#[.cell p ty])(hp:aE.getD p undef=p_ b)(hl:(loadVar ty ⟨b,0,none⟩).run P w=.ok v w):(results fn aE).run P w=.ok v w:=by
 simp only[Array.getD_eq_getD_getElem?]at hp⊢;simp[results,hr,Sem.run_bind,Result.andThen,hp,asAddr,hl]
theorem mV {w:Z}{b:Nat}{v0 v1 v2:V_}(h0:w.cell? ⟨b,0,none⟩=some v0)(h1:w.cell? ⟨b,1,none⟩=some v1)(h2:w.cell? ⟨b,2,none⟩=some v2):(loadVar 292 ⟨b,0,none⟩).run prog w=.ok (.agg #[v0,v1,v2]) w:=by
 go_simp
theorem pQ {w:Z}{b:Nat}{t:T_}{a0 a1 a2:V_}(hx:Blk w b t [a0,a1,a2])(v0 v1 v2:V_):Blk (((w.setCell ⟨b,0,none⟩ v0).setCell ⟨b,1,none⟩ v1).setCell ⟨b,2,none⟩ v2) b t [v0,v1,v2]∧Chg (fun x=>x=b) w (((w.setCell ⟨b,0,none⟩ v0).setCell ⟨b,1,none⟩ v1).setCell ⟨b,2,none⟩ v2) :=
 ⟨((hx.set 0 v0).set 1 v1).set 2 v2,Chg.trans (Chg.trans (Chg.setCell w ⟨b,0,none⟩ v0 rfl) (Chg.setCell _ ⟨b,1,none⟩ v1 rfl)) (Chg.setCell _ ⟨b,2,none⟩ v2 rfl)⟩
theorem DG {α:Type}(X aa ab:List α)(ap:α):X <+: (X++aa++ab).set X.length ap:=by
 rw[Jg,List.set_append_right _ _ (I6 _)];exact List.prefix_append _ _
section
variable {bZ G:Nat}{w w' w3:Z}{f:Rf}{ak:Int}{st rg:LR_}{L:List Lo}{W:LX_}{sv V lv ao J aT:V_}{X:List (Pt bZ)}
theorem bf (v:RV)(h:RM bZ w G f ak (v::st) rg L W sv lv J X)(hl:st.length≤1000):C_ 186 #[p_ G] w fun e w'=>e=.returned (rvV v)∧(∃ V,RM bZ w' G f ak st rg L W V lv J X)∧B_ bZ w w':=by
 obtain⟨⟨ab,cb,z⟩,_,_⟩:=h.slices;rw[Jq]at z;subst z;have HH:=O h;obtain⟨R,hR⟩:=H w.heap.size;obtain⟨W1,aA⟩:=H (w.alloc (.cells #[.bool false,F 0,.string ⟨#[]⟩] 292));have m:bZ≤R:=by rw[hR];exact HH.o.size
 have az:RM bZ W1 G f ak (v::st) rg L W (.slice ab (st.length+1) cb) lv J (X++[aF R m 292 [.bool false,F 0,.string ⟨#[]⟩]]):=by subst hR;rw[aA];exact HH.o.add _ _
 have a_:=O (show Bw_ w W1 by rw[aA];exact af _ _);clear h;go_enter func186,ntmps186;go_upto_region 1 with fail;rw[←aA,←hR];clear aA hR;obtain⟨g,rfl,-,e0,e1,e2⟩:=az.top;have c6:W1.cell? ⟨G,6,none⟩=some (.slice (some ⟨g,0,none⟩) (st.length+1) cb):=az.c 6;have bq:G<W1.heap.size:=az.blk.lt;have am:g<W1.heap.size:=aG e0;have be:((st.length:Int)+1)-1=(st.length:Int):=Y
 have a0:0≤(st.length:Int):=Y;have a4:(st.length:Int)<(st.length:Int)+1:=Y;have b6:(st.length:Int)≤1000:=Y;have aC:=O az;clear az;go_region;obtain⟨T,hT⟩:=H W1.heap.size;have bd:bZ≤T:=by rw[hT];exact aC.o.size
 obtain⟨W2,ae⟩:=H ((W1.alloc (.cells #[.bool v.1,F v.2.1,s_ v.2.2] 292)).drew)
 have N:RM bZ W2 G f ak (v::st) rg L W (.slice (some ⟨g,0,none⟩) (st.length+1) cb) lv J (X++[aF R m 292 [.bool false,F 0,.string ⟨#[]⟩]]++[aF T bd 292 [.bool v.1,F v.2.1,s_ v.2.2]]):=by
  subst hT;rw[ae];exact(aC.o.add [.bool v.1,F v.2.1,s_ v.2.2] 292).below (b_drew _)
 have a9:=O (show Bw_ w W2 by rw[ae];exact bt a_.o (bt (af _ _) (b_drew _)));rw[←ae,←hT];clear ae hT e0 e1 e2 c6 bq am aC;have c6:W2.cell? ⟨G,6,none⟩=some (.slice (some ⟨g,0,none⟩) (st.length+1) cb):=N.c 6;have f6:=N.free (k:=6) d_;have bq:G<W2.heap.size:=N.blk.lt;have ho:aY.Own W2 bZ (.slice (some ⟨g,0,none⟩) (v::st).reverse.length cb) (v::st).reverse:=by rw[List.length_reverse];exact N.os
 have aO:=ho.shortRun 290 underlying290 yzg st.length i_;rw[List.length_reverse,Jq]at aO
 have ac:aY.Own W2.drew bZ (.slice (some ⟨g,0,none⟩) st.length cb) st.reverse:=by
  have:=(ho.below (b_drew W2)).short st.length i_
  rwa [List.reverse_cons,List.take_append_of_le_length i_,I5 i_]at this
 have hn:=(N.below (b_drew W2)).newS (V:=.slice (some ⟨g,0,none⟩) st.length cb) (l:=st) (Chg.refl _ _) (fun k hk=>by cases hk;exact .inl rfl) ac;have HN:=O hn;clear ho ac hn N;go_wp2_with fail;go_region;obtain⟨W3,aB⟩:=H ((W2.setCell ⟨G,6,none⟩ (.slice (some ⟨g,0,none⟩) st.length cb)).drew);have ay:RM bZ W3 G f ak st rg L W (.slice (some ⟨g,0,none⟩) st.length cb) lv J (X++[aF R m 292 [.bool false,F 0,.string ⟨#[]⟩]]++[aF T bd 292 [.bool v.1,F v.2.1,s_ v.2.2]]):=by rw[aB];exact HN.o.1
 have aX:B_ bZ w W3:=by rw[aB];exact((bt a9.o (b_drew W2)).mono HH.o.size).trans HN.o.2.1
 rw[←aB];clear aB HN c6 f6 bq aO a9;have n:Blk W3 T 292 [.bool v.1,F v.2.1,s_ v.2.2]:=ay.loc (p:=aF T bd 292 [.bool v.1,F v.2.1,s_ v.2.2]) i_;have a:Blk W3 R 292 [.bool false,F 0,.string ⟨#[]⟩]:=ay.loc (p:=aF R m 292 [.bool false,F 0,.string ⟨#[]⟩]) i_;obtain⟨t0,t1,t2⟩:=cl3 n;obtain⟨Q,r1,r2⟩:=cl3 a;obtain⟨k0,k1,k2⟩:=fr3 a;obtain⟨d,aW,s⟩:=zH3 ay aX a;clear ay aX a n;go_wp2_with fail;obtain⟨hy,hc⟩:=pQ s.o (.bool v.1) (F v.2.1) (s_ v.2.2);refine bodyPost_ret (fa rfl rfl (mV (hy.c 0) (hy.c 1) (hy.c 2))) rfl ?_;obtain⟨t,bC⟩:=d.o.updX (i:=X.length) (p:=aF R m 292 [.bool false,F 0,.string ⟨#[]⟩]) i_ hc (fun k hk=>hk) (aF R m 292 [.bool v.1,F v.2.1,s_ v.2.2]) hy (fun k hk=>hk);exact⟨rfl,⟨_,t.pre (DG X _ _ _)⟩,aW.o.trans bC⟩
theorem bG (v:RV)(h:RM bZ w G f ak st rg L W sv lv J X)(hl:st.length≤1000):C_ 196 #[p_ G,rvV v] w fun e w'=>e=.returned (.tuple #[])∧(∃ V,RM bZ w' G f ak (v::st) rg L W V lv J X)∧B_ bZ w w':=by
 obtain⟨⟨ab,cb,rfl⟩,_,_⟩:=h.slices;obtain⟨W1,aA⟩:=H (w.alloc (.cells #[.bool v.1,F v.2.1,s_ v.2.2] 292));have a8:=ba_ aA;have hx:=bm_ aA;obtain⟨D,hD⟩:=H w.heap.size;rw[←hD]at hx;have HS:=O h.size;have h1:=h.below a8;have c6:=h1.c 6;obtain⟨x0,x1,x2⟩:=cl3 hx;obtain⟨a_,H1,b⟩:=zH3 (a8.mono h.size) h1 h1.os;have bR:st.reverse.length=st.length:=List.length_reverse;obtain⟨xs,i⟩:=H st.reverse;rw[←i]at b bR;rw[←bR]at c6;have j:=O i;have cY:=O bR;have a0:xs.length≤1000:=Y;clear h h1 a8 hx i bR;unfold rvV;go_enter func196,ntmps196;go_upto_region 1 with fail;rw[←aA,←hD];clear aA hD;refine gF aY xs v 11 [(4,.exact _ (.slice ab xs.length cb)),(5,kM aY W1.heap.size xs v),(6,.exact _ (.agg #[.bool v.1,F v.2.1,s_ v.2.2])),(7,jr aY W1.heap.size xs v),(8,kL aY W1.heap.size xs v)] q_ q_ ?_;simp only[Jw,JE,Ju,JF];refine cG ?_;refine gl1_ c6 ?_;refine gk_ (kM aY W1.heap.size xs v) (fun w' G hB hS hG=>?_) (fun x K hK=>?_)
 ·refine aY.grow_copy _ _ 290 rfl underlying290 W1.heap.size rfl _ xs (show aY.Row w' (.slice ab xs.length cb) xs from by rw[cY.o];exact(b.o.below hB).row) rfl (by show xs.length*32≤_;omega) hB.size (fun A C bc ho hb=>hG (A,C) bc (IP hB.size hb) (fun φ h=>by cases h;exact ho))
 obtain⟨ad,c⟩:=x;refine cO ?_;clear hK K;refine gj_ (fun w' G hB hS hG=>?_) ?_
 ·have y0:=IF hB x0
  have y1:=IF hB x1;have y2:=IF hB x2;go_simp;exact hG _ (fd.refl _)
 refine gk_ (jr aY W1.heap.size xs v) (fun w' G hB hS hG=>?_) (fun (bb:Nat) K hK=>?_)
 ·go_simp;exact kF hG rfl hB.size
 refine cO ?_;clear hK K;refine gk_ (kL aY W1.heap.size xs v) (fun w' G hB hS hG=>?_) (fun y K hK=>?_)
 ·have aw:aY.Own w' W1.heap.size (.slice ad xs.length c) xs:=at1 hS q_
  have aZ:w'.heap[bb]?=some (.cells (aY.cell v).toArray aY.e (0,0)):=at0 hS q_;exact aY.grow_app1 _ _ 290 rfl underlying290 W1.heap.size _ xs v aw rfl bb rfl aZ (by show(xs.length+1)*32≤_;omega) hB.size (fun A C bc ho hr=>hG (A,C) bc hr (fun φ h=>by cases h;exact ho))
 obtain⟨aQ,c2⟩:=y;refine cO ?_;clear hK K;refine pA ?_;intro w5 aN aF;have t:aY.Own w5 W1.heap.size (.slice aQ (xs.length+1) c2) (xs++[v]):=mn aF;have hn:=H1.o.newS (w3:=w5) (V:=.slice aQ (xs.length+1) c2) (l:=v::st) (IG aN) (fun k hk=>.inr (Rec.Own.ltV t k hk).1) (by rw[List.reverse_cons,←j.o];exact t.baseLe H1.o.size);have c6:=hn.2.2.1;have f6:=hn.2.2.2;have HN:=O hn;clear hn t aN aF x0 x1 x2;go_wp2_with fail;refine bodyPost_end (results_none rfl _ _ _) rfl ?_;exact⟨rfl,⟨_,HN.o.1⟩,a_.o.trans HN.o.2.1⟩
end
end
section
attribute [local irreducible] wpG
theorem K5 {T:Prop} (h:T:=by
 refine bodyPost_ret (fa rfl rfl (mV (hy.c 0) (hy.c 1) (hy.c 2))) rfl ?_;exact⟨rfl,af _ _⟩
):T:=h
theorem jl (n:Int)(w:Z):R_ 198 #[F n] w (rvV (false,n,[])):=by
 go_enter func198,ntmps198;go_wp2_with fail;have hy:=Blk.new w [.bool false,F n,.string ⟨#[]⟩] 292;exact K5
theorem gd (s:q)(w:Z):R_ 197 #[s_ s] w (rvV (true,0,s)):=by
 go_enter func197,ntmps197;go_wp2_with fail;have hy:=Blk.new w [.bool true,F 0,s_ s] 292;exact K5
theorem K0 {T:Prop} (h:T:=by
 refine bodyPost_ret (fa rfl rfl (mV (hy.c 0) (hy.c 1) (hy.c 2))) rfl ?_;exact⟨by rw[HV.o],HB.o.trans (hc.below (fun k hk=>by rw[show k=D from hk,HD.o];exact I6 _) HB.o.size)⟩
):T:=h
theorem qa (b:Bool)(w:Z):R_ 200 #[.bool b] w (rvV (false,bitM b)):=by
 obtain⟨W1,aA⟩:=H (w.alloc (.cells #[.bool false,F 0,.string ⟨#[]⟩] 292));have a8:=ba_ aA;obtain⟨D,hD⟩:=H w.heap.size;have hx:=bn_ hD aA;obtain⟨a_,HX,HD⟩:=zH3 a8 hx hD;obtain⟨n,hn⟩:∃ n:Int,n=if b=true then 1 else 0:=⟨_,rfl⟩
 have HV:=O (show rvV (false,bitM b)=.agg #[.bool false,F n,s_ []] by unfold rvV bitM;rw[hn]);have hN:∀ w',C_ 198 #[F n] w' fun e bc=>e=.returned (.agg #[.bool false,F n,s_ []])∧Bw_ w' bc:=fun w'=>jl n w';have HN:=O hN;clear hN a8 hx;go_enter func200,ntmps200;go_upto_region 1 with fail;rw[←aA,←hD];clear aA hD
 cases b with
 | true =>
  obtain rfl:n=1:=hn;go_wp2_with (go_at_call 198;refine(HN.o _).mono ?_;rintro e w2⟨rfl,hB⟩;have hy:=HX.o.below hB;obtain⟨y0,y1,y2⟩:=cl3 hy;obtain⟨k0,k1,k2⟩:=fr3 hy;have HY:=O hy;have HB:=O (bt a_.o hB);clear hy hB);obtain⟨hy,hc⟩:=pQ HY.o (.bool false) (F 1) (s_ []);exact K0
 | false =>
  obtain rfl:n=0:=hn;go_wp2_with (go_at_call 198;refine(HN.o _).mono ?_;rintro e w2⟨rfl,hB⟩;have hy:=HX.o.below hB;obtain⟨y0,y1,y2⟩:=cl3 hy;obtain⟨k0,k1,k2⟩:=fr3 hy;have HY:=O hy;have HB:=O (bt a_.o hB);clear hy hB);obtain⟨hy,hc⟩:=pQ HY.o (.bool false) (F 0) (s_ []);exact K0
theorem B9 (s:q)(k:Nat)(hk:k≤s.length)(n:Int):gR n (s.drop k).length=(min (max n 0) ((s.length:Int)-(k:Int))).toNat:=by
 unfold gR;rw[JG];omega
theorem A7 (s:q)(a n:Int)(w:Z)(hs:s.length≤1024)(ha:-9223372036854775808≤a∧a≤9223372036854775807)(hn:-9223372036854775808≤n∧n≤9223372036854775807):R_ 201 #[s_ s,F a,F n] w (s_ (im s a n)):=by
 obtain⟨k,hk⟩:=H (gR a s.length);have hk1:min (max a 0) (s.length:Int)=(k:Int):=by rw[hk];unfold gR;omega
 have z:(k:Int)≤s.length:=Y;have aq:=nn_ k;obtain⟨j,hj⟩:=H (gR n (s.drop k).length);have bS:min (max n 0) ((s.length:Int)-(k:Int))=(j:Int):=by rw[hj,B9 s k Y];omega
 have aG:(j:Int)≤(s.length:Int)-(k:Int):=Y;have aE:=nn_ j;have bj:(s.length:Int)≤1024:=Y;have HV:=O (show im s a n=(s.drop k).take j by unfold im;rw[←hk,←hj]);have q1:(k:Int)≤(k:Int)+(j:Int):=Y;have q2:(k:Int)+(j:Int)≤(s.length:Int):=Y;clear hk hj;go_enter func201,ntmps201;go_wp2_with fail;go_ret;rw[HV.o,show k+j-k=j by omega];exact⟨rfl,Ja _ _⟩
def pN (s:q):Int:=match Lib.atoiAll s with
 | .ok v=>v
 | .range=>Lib.atoiSat s
 | _=>0
theorem Hw (s:q):-9223372036854775808≤pN s∧pN s≤9223372036854775807:=by
 unfold pN
 cases h:Lib.atoiAll s with
 | ok v =>
  rw[←Lib.parseIntB_64]at h;have:=Lib.parseIntB_bounds h;simp only;simp at this;omega
 | range=>unfold Lib.atoiSat;simp only;split<;>simp
 | _=>simp
theorem DH (s:q):da s=if Lib.itoa (pN s)=s then pN s else 0:=by
 unfold da pN
 cases h:Lib.atoiAll s with
 | ok v=>rfl
 | range=>simp only;rw[if_neg (vR h)]
 | _=>simp only;rw[if_neg (tU h)]
theorem E8 (s:q)(hs:s.length≤1024){w:Z}(hg:dS w):C_ 210 #[s_ s,F 10,F 64] w fun e w'=>(∃ ev,e=.returned (.tuple #[F (pN s),ev]))∧Bw_ w w':=by
 obtain⟨c,pe,a⟩:=hg.syn;obtain⟨b,d,Q⟩:=hg.rng;have hl:(bs s).data.toList=s:=by simp[bs]
 unfold pN
 cases h:Lib.atoiAll s with
 | ok v =>
  refine(Tryz.strconv_ParseInt_10_at64_ok (bs s) yzs v (by rw[hl,Lib.parseIntB_64];exact h) w).mono ?_;rintro e w'⟨rfl,rfl|⟨t,rfl⟩⟩
  ·exact⟨⟨_,rfl⟩,Ja _ _⟩
  ·exact⟨⟨_,rfl⟩,kX _ _ _⟩
 | range =>
  refine(Tryz.strconv_ParseInt_10_at64_range (bs s) yzs (by rw[hl,Lib.parseIntB_64];exact h) _ w Q (.inr ⟨b,d,rfl⟩)).mono ?_;rintro e w'⟨N,rfl,-,-,hB⟩;exact⟨⟨_,by rw[hl,Lib.intSat_64]⟩,hB⟩
 | _ =>
  refine(Tryz.strconv_ParseInt_10_at64_syntax (bs s) yzs (by rw[hl,Lib.parseIntB_64];exact h) _ w a (.inr ⟨c,pe,rfl⟩)).mono ?_;rintro e w'⟨N,rfl,-,-,hB⟩;exact⟨⟨_,rfl⟩,hB⟩
theorem KZ {T:Prop} (h:T:=by
 rw[HV.o];clear cK a;go_enter func202,ntmps202;go_wp2_with (first|(go_at_call 199;refine mB_ (HF.o _ HB.o) HB fun w4 ba=>?_)|(go_at_call 210;refine HP.o.mono ?_;rintro e w3⟨⟨ev,rfl⟩,hB⟩;have HB:=O hB;clear hB));go_ret;exact⟨rfl,ba.o⟩
):T:=h
theorem xX (s:q)(w:Z)(hs:s.length≤1024)(hG:dS w):R_ 202 #[s_ s] w (F (da s)):=by
 have HP:=O (E8 s hs hG);obtain⟨n,hn⟩:=H (pN s);have N:=Hw s;have a:=DH s;rw[←hn]at N a HP;have HF:=O (fun w' (hB:Bw_ w w')=>pw N.1 N.2 (hG.below hB).tab);obtain⟨u,hu⟩:=H (Lib.itoa n);rw[←hu]at HF a;clear hn hu hG
 by_cases cK:u=s
 ·have HV:=O (show da s=n by rw[a,if_pos cK])
  have t1:(u==s)=true:=by rw[cK];simp
  have t2:(u != s)=false:=by rw[cK];simp
  exact KZ
 ·have HV:=O (show da s=0 by rw[a,if_neg cK])
  have t1:(u==s)=false:=by simpa using cK
  have t2:(u != s)=true:=by simpa using cK
  exact KZ
theorem vI (s:q)(c:U8_)(w:Z)(hs:s.length≤1024):C_ 203 #[s_ s,.int .u8 c.toNat] w fun e w'=>(∃ v,e=.returned v∧aP.Own w' w.heap.size v (cD s c))∧Bw_ w w':=by
 by_cases a:s=[]
 ·have HV:=O (show cD s c=[] by unfold cD;rw[if_pos a])
  subst a;rw[HV.o];go_enter func203,ntmps203;go_wp2_with fail;go_ret;exact⟨⟨_,rfl,Rec.Own.nil _ _⟩,Ja _ _⟩
 ·have HV:=O (show cD s c=cL c s by unfold cD;rw[if_neg a])
  have t1:(s==[])=false:=by simpa using a
  have bj:(s.length:Int)≤1024:=Y;clear a;go_enter func203,ntmps203;go_wp2_with fail
  go_loopw [5,6,7] (fun vo vf m wr=>∃ (ag:LL_) (d i:Nat) (av:OA_) (cv:Nat),vo=.slice av ag.length cv∧vf=F d∧m=F i∧Hid (lJ s c ag d i)∧Hid (aP.Own wr w.heap.size (.slice av ag.length cv) ag)∧Hid (Bw_ w wr)) (fun _ _ m _=>s.length-(intOf m).toNat)
  case atStart=>exact⟨[],0,0,none,0,rfl,rfl,rfl,lJ.start s c,Rec.Own.nil _ _,Ja _ _⟩
  case round =>
   obtain⟨ag,d,i,av,cv,rfl,rfl,rfl,HP,HO,HB⟩:=hrel;have p1:=HP.o.le;have p2:=HP.o.lt;have p3:=HP.o.len
   by_cases h0:i<s.length
   ·have i0:=nn_ i
    have i1:(i:Int)<s.length:=Y;have f0:=nn_ d;have f1:(d:Int)≤i:=Y;have f2:(i:Int)≤s.length:=Y
    by_cases hc:s[i]=c
    ·have t2:((s[i].toNat:Int)==(c.toNat:Int))=true:=by rw[hc];simp
     have HC:=O (HP.o.cut h0 hc);have aa:((ag.length:Int))≤1025:=Y;have b:ag.length≤1025:=Y;clear hc p1 p2 p3;go_wp2_with (at_builtin;go_must (refine aP.append1V _ ((s.drop d).take (i-d)) rfl _ _ 22 rfl underlying22 w.heap.size _ ag (HO.o.below (af _ _)) rfl _ rfl (Rec.Row.new (R:=aP) wr [(s.drop d).take (i-d)] _).1 (by show(ag.length+1)*16≤_;omega) (Jc HB.o.size (af _ _).size) ?_);intro g gc w6 aw b0 _;have cS:=O aw;have bn:=O (HB.o.trans ((((af wr (.cells (aP.cells [(s.drop d).take (i-d)]).toArray 9)).mono HB.o.size)).trans (b0.below (B:=w.heap.size) (fun k hk=>(Rec.Own.ltV HO.o k hk).1) (Jc HB.o.size (af _ _).size))));clear aw b0);exact⟨⟨_,i+1,i+1,some ⟨g,0,none⟩,gc,by rw[Jh];rfl,by go_num,by go_num,HC.o,by rw[Jh];exact cS.o,bn.o⟩,by simp[intOf];omega⟩
    ·have t2:((s[i].toNat:Int)==(c.toNat:Int))=false:=by
      rw[beq_eq_false_iff_ne];intro h;exact hc (UInt8.toNat_inj.1 Y)
     have HC:=O (HP.o.on h0 hc);clear hc p1 p2 p3;go_wp2_with fail;exact⟨⟨ag,d,i+1,av,cv,rfl,rfl,by go_num,HC.o,HO.o,HB.o⟩,by simp[intOf];omega⟩
   ·have HE:=O (HP.o.end h0)
    have f0:=nn_ d;have f2:(d:Int)≤s.length:=Y;obtain⟨u,hu⟩:=H (s.drop d);have r:List.drop d s=u:=hu.symm;have hq:List.take (s.length-d) u=u:=I5 (by rw[hu,JG];exact I6 _);rw[r]at HE;have b:ag.length≤1025:=Y;have i1:¬(i:Int)<s.length:=Y;clear p1 p2 p3 hu;go_wp2_with (at_builtin;go_must (refine aP.append1V _ u rfl _ _ 22 rfl underlying22 w.heap.size _ ag (HO.o.below (af _ _)) rfl _ rfl (Rec.Row.new (R:=aP) wr [u] _).1 (by show(ag.length+1)*16≤_;omega) (Jc HB.o.size (af _ _).size) ?_);intro g gc w6 aw b0 _;have cS:=O aw;have bn:=O (HB.o.trans ((((af wr (.cells (aP.cells [u]).toArray 9)).mono HB.o.size)).trans (b0.below (B:=w.heap.size) (fun k hk=>(Rec.Own.ltV HO.o k hk).1) (Jc HB.o.size (af _ _).size))));clear aw b0);go_ret;rw[HV.o,HE.o];exact⟨⟨_,rfl,cS.o⟩,bn.o⟩
end
section
attribute [local irreducible] wpG
section
variable {bZ G:Nat}{w w' w3:Z}{f:Rf}{ak:Int}{st rg:LR_}{L:List Lo}{W:LX_}{sv V lv ao J aT:V_}{X:List (Pt bZ)}
@[go_sem] theorem G4 (v0 v1 v2:V_) (w:Z):(Instr.field 292 (.agg #[v0,v1,v2]) 1).run prog w=.ok v1 w:=q_
@[go_sem] theorem G3 (v0 v1 v2:V_) (w:Z):(Instr.field 292 (.agg #[v0,v1,v2]) 2).run prog w=.ok v2 w:=q_
def aQ (v:RV):LV_:=[.bool v.1,.int .i64 v.2.1,.string (bs v.2.2)]
theorem RM.at1 {v:RV}{D:Nat}{hD:bZ≤D}(h:RM bZ w G f ak st rg L W sv lv J (X++[aF D hD 292 (aQ v)])):w.cell? ⟨D,0,none⟩=some (.bool v.1)∧w.cell? ⟨D,1,none⟩=some (F v.2.1)∧w.cell? ⟨D,2,none⟩=some (s_ v.2.2)∧D<w.heap.size:=by
 have hb:Blk w D 292 (aQ v):=h.loc (p:=aF D hD 292 (aQ v)) i_;exact⟨hb.c 0,hb.c 1,hb.c 2,hb.lt⟩
theorem rA (n:Nat)(y:U8_)(w:Z)(hn:n≠8∧n≠13∧n≠9∧n≠10∧n≠11):R_ 189 #[p_ G,.agg #[.int .u8 n,.int .u8 y.toNat]] w (.tuple #[]):=by
 have t1:((n:Int)==8)=false:=by rw[beq_eq_false_iff_ne];omega
 have t2:((n:Int)==13)=false:=by rw[beq_eq_false_iff_ne];omega
 have t3:((n:Int)==9)=false:=by rw[beq_eq_false_iff_ne];omega
 have t4:((n:Int)==10)=false:=by rw[beq_eq_false_iff_ne];omega
 have t5:((n:Int)==11)=false:=by rw[beq_eq_false_iff_ne];omega
 clear hn;go_enter func189,ntmps189;go_wp2_with fail;refine bodyPost_end (results_none rfl _ _ _) rfl ?_;exact⟨rfl,af _ _⟩
theorem AZ (y:U8_)(a:RV)(h:RM bZ w G f ak (a::st) rg L W sv lv J X)(hl:st.length≤900)(ha:vOk a.2)(hG:∀ w',B_ bZ w w'→dS w'):C_ 189 #[p_ G,.agg #[.int .u8 8,.int .u8 y.toNat]] w fun e w'=>e=.returned (.tuple #[])∧(∃ V,RM bZ w' G f ak ((true,0,Lib.itoa a.2.1)::st) rg L W V lv J X)∧B_ bZ w w':=by
 obtain⟨W1,aA⟩:=H (w.alloc (.cells #[.int .u8 8,.int .u8 y.toNat] 109));have a8:=ba_ aA;have hx:=bm_ aA;have x0:=hx.c 0;have HP:=O (bf a (h.below a8) Y);have a_:=O (a8.mono h.size);have HG:=O hG;obtain⟨v0,v1,-⟩:=ha;clear h a8 hx hG;go_enter func189,ntmps189;go_upto_region 1 with fail;rw[←aA];clear aA;go_wp2_with (first|(go_at_call 196;refine(bG (true,0,Lib.itoa a.2.1) B.o Y).mono ?_;rintro r w5⟨rfl,⟨bi,hm⟩,hB⟩;have q:=O hm;have aJ:=O (ba.o.trans hB);clear hm hB)|(go_at_call 197;refine(gd (Lib.itoa a.2.1) _).mono ?_;rintro r w4⟨rfl,hB⟩;have B:=O (d.o.below hB);have ba:=O (aW.o.trans (hB.mono d.o.size));clear hB)|(go_at_call 199;refine(pw v0 v1 (HG.o _ (a_.o.trans HB.o)).tab).mono ?_;rintro r w3⟨rfl,hB⟩;have d:=O (HM.o.below hB);have aW:=O (HB.o.trans (hB.mono HM.o.size));clear hB)|(go_at_call 186;refine HP.o.mono ?_;rintro r w2⟨rfl,⟨sv,hm⟩,hB⟩;unfold rvV;have HM:=O hm;have HB:=O hB;clear hm hB));refine bodyPost_end (results_none rfl _ _ _) rfl ?_;exact⟨rfl,⟨_,q.o⟩,a_.o.trans aJ.o⟩
theorem Dl (y:U8_)(a:RV)(h:RM bZ w G f ak (a::st) rg L W sv lv J X)(hl:st.length≤900):C_ 189 #[p_ G,.agg #[.int .u8 13,.int .u8 y.toNat]] w fun e w'=>e=.returned (.tuple #[])∧(∃ V,RM bZ w' G f ak ((false,bitM (a.2.1==0))::st) rg L W V lv J X)∧B_ bZ w w':=by
 obtain⟨W1,aA⟩:=H (w.alloc (.cells #[.int .u8 13,.int .u8 y.toNat] 109));have a8:=ba_ aA;have hx:=bm_ aA;have x0:=hx.c 0;have HP:=O (bf a (h.below a8) Y);have a_:=O (a8.mono h.size);clear h a8 hx;go_enter func189,ntmps189;go_upto_region 1 with fail;rw[←aA];clear aA;go_wp2_with (first|(go_at_call 196;refine(bG (false,bitM (a.2.1==0)) B.o Y).mono ?_;rintro r w5⟨rfl,⟨bi,hm⟩,hB⟩;have q:=O hm;have aJ:=O (ba.o.trans hB);clear hm hB)|(go_at_call 200;refine(qa (a.2.1==0) _).mono ?_;rintro r w4⟨rfl,hB⟩;have B:=O (HM.o.below hB);have ba:=O (HB.o.trans (hB.mono HM.o.size));clear hB)|(go_at_call 186;refine HP.o.mono ?_;rintro r w2⟨rfl,⟨sv,hm⟩,hB⟩;unfold rvV;have HM:=O hm;have HB:=O hB;clear hm hB));refine bodyPost_end (results_none rfl _ _ _) rfl ?_;exact⟨rfl,⟨_,q.o⟩,a_.o.trans aJ.o⟩
theorem Dv (y:U8_)(a b:RV)(h:RM bZ w G f ak (b::a::st) rg L W sv lv J X)(hl:st.length≤900):C_ 189 #[p_ G,.agg #[.int .u8 9,.int .u8 y.toNat]] w fun e w'=>e=.returned (.tuple #[])∧(∃ V,RM bZ w' G f ak ((false,wrap64 (a.2.1+b.2.1),[])::st) rg L W V lv J X)∧B_ bZ w w':=by
 obtain⟨W1,aA⟩:=H (w.alloc (.cells #[.int .u8 9,.int .u8 y.toNat] 109));have a8:=ba_ aA;have hx:=bm_ aA;have x0:=hx.c 0;have HP:=O (bf b (h.below a8) yza);have a_:=O (a8.mono h.size);clear h a8 hx;go_enter func189,ntmps189;go_upto_region 1 with fail;rw[←aA];clear aA;go_upto_region 8 with(go_at_call 186;refine HP.o.mono ?_;rintro r w2⟨rfl,⟨sv,hm⟩,hB⟩;unfold rvV;have HM:=O hm;have HB:=O (a_.o.trans hB);clear hm hB);obtain⟨D,hD⟩:=H w2.heap.size;obtain⟨W2,ae⟩:=H (w2.alloc (.cells (aQ b).toArray 292));have c:bZ≤D:=by rw[hD];exact HM.o.size
 have N:RM bZ W2 G f ak (a::st) rg L W sv lv J (X++[aF D c 292 (aQ b)]):=by subst hD;rw[ae];exact HM.o.add (aQ b) 292
 have a9:=O (show B_ bZ w W2 by rw[ae];exact HB.o.trans ((af _ _).mono HM.o.size));have I:=O (bf a N Y);have hg:w2.alloc (.cells #[.bool b.1,F b.2.1,s_ b.2.2] 292)=W2:=ae.symm;rw[hg,←hD];clear hg ae hD N HM HB;go_wp2_with (first|(go_at_call 196;refine(bG (false,wrap64 (a.2.1+b.2.1),[]) q.o.drop Y).mono ?_;rintro r w6⟨rfl,⟨aC,hm⟩,hB⟩;have i:=O hm;have bn:=O (aJ.o.trans hB);clear hm hB)|(go_at_call 198;refine(jl (wrap64 (a.2.1+b.2.1)) _).mono ?_;rintro r w5⟨rfl,hB⟩;have az:=bt (af _ _) hB;have q:=O (d.o.below az);have aJ:=O (aW.o.trans (az.mono d.o.size));clear hB az)|(go_at_call 186;refine I.o.mono ?_;rintro r w3⟨rfl,⟨m,hm⟩,hB⟩;unfold rvV;obtain⟨d0,d1,d2,u⟩:=hm.at1;have d:=O hm;have aW:=O (a9.o.trans hB);clear hm hB));refine bodyPost_end (results_none rfl _ _ _) rfl ?_;exact⟨rfl,⟨_,i.o⟩,bn.o⟩
theorem Dm (y:U8_)(a b:RV)(h:RM bZ w G f ak (b::a::st) rg L W sv lv J X)(hl:st.length≤900):C_ 189 #[p_ G,.agg #[.int .u8 10,.int .u8 y.toNat]] w fun e w'=>e=.returned (.tuple #[])∧(∃ V,RM bZ w' G f ak ((false,wrap64 (a.2.1*b.2.1),[])::st) rg L W V lv J X)∧B_ bZ w w':=by
 obtain⟨W1,aA⟩:=H (w.alloc (.cells #[.int .u8 10,.int .u8 y.toNat] 109));have a8:=ba_ aA;have hx:=bm_ aA;have x0:=hx.c 0;have HP:=O (bf b (h.below a8) yza);have a_:=O (a8.mono h.size);clear h a8 hx;go_enter func189,ntmps189;go_upto_region 1 with fail;rw[←aA];clear aA;go_upto_region 12 with(go_at_call 186;refine HP.o.mono ?_;rintro r w2⟨rfl,⟨sv,hm⟩,hB⟩;unfold rvV;have HM:=O hm;have HB:=O (a_.o.trans hB);clear hm hB);obtain⟨D,hD⟩:=H w2.heap.size;obtain⟨W2,ae⟩:=H (w2.alloc (.cells (aQ b).toArray 292));have c:bZ≤D:=by rw[hD];exact HM.o.size
 have N:RM bZ W2 G f ak (a::st) rg L W sv lv J (X++[aF D c 292 (aQ b)]):=by subst hD;rw[ae];exact HM.o.add (aQ b) 292
 have a9:=O (show B_ bZ w W2 by rw[ae];exact HB.o.trans ((af _ _).mono HM.o.size));have I:=O (bf a N Y);have hg:w2.alloc (.cells #[.bool b.1,F b.2.1,s_ b.2.2] 292)=W2:=ae.symm;rw[hg,←hD];clear hg ae hD N HM HB;go_wp2_with (first|(go_at_call 196;refine(bG (false,wrap64 (a.2.1*b.2.1),[]) q.o.drop Y).mono ?_;rintro r w6⟨rfl,⟨aC,hm⟩,hB⟩;have i:=O hm;have bn:=O (aJ.o.trans hB);clear hm hB)|(go_at_call 198;refine(jl (wrap64 (a.2.1*b.2.1)) _).mono ?_;rintro r w5⟨rfl,hB⟩;have az:=bt (af _ _) hB;have q:=O (d.o.below az);have aJ:=O (aW.o.trans (az.mono d.o.size));clear hB az)|(go_at_call 186;refine I.o.mono ?_;rintro r w3⟨rfl,⟨m,hm⟩,hB⟩;unfold rvV;obtain⟨d0,d1,d2,u⟩:=hm.at1;have d:=O hm;have aW:=O (a9.o.trans hB);clear hm hB));refine bodyPost_end (results_none rfl _ _ _) rfl ?_;exact⟨rfl,⟨_,i.o⟩,bn.o⟩
theorem Bc (y:U8_)(a b:RV)(h:RM bZ w G f ak (b::a::st) rg L W sv lv J X)(hl:st.length≤900):C_ 189 #[p_ G,.agg #[.int .u8 11,.int .u8 y.toNat]] w fun e w'=>e=.returned (.tuple #[])∧(∃ V,RM bZ w' G f ak ((false,bitM (decide (a.2.1<b.2.1)))::st) rg L W V lv J X)∧B_ bZ w w':=by
 obtain⟨W1,aA⟩:=H (w.alloc (.cells #[.int .u8 11,.int .u8 y.toNat] 109));have a8:=ba_ aA;have hx:=bm_ aA;have x0:=hx.c 0;have HP:=O (bf b (h.below a8) yza);have a_:=O (a8.mono h.size);clear h a8 hx;go_enter func189,ntmps189;go_upto_region 1 with fail;rw[←aA];clear aA;go_upto_region 16 with(go_at_call 186;refine HP.o.mono ?_;rintro r w2⟨rfl,⟨sv,hm⟩,hB⟩;unfold rvV;have HM:=O hm;have HB:=O (a_.o.trans hB);clear hm hB);obtain⟨D,hD⟩:=H w2.heap.size;obtain⟨W2,ae⟩:=H (w2.alloc (.cells (aQ b).toArray 292));have c:bZ≤D:=by rw[hD];exact HM.o.size
 have N:RM bZ W2 G f ak (a::st) rg L W sv lv J (X++[aF D c 292 (aQ b)]):=by subst hD;rw[ae];exact HM.o.add (aQ b) 292
 have a9:=O (show B_ bZ w W2 by rw[ae];exact HB.o.trans ((af _ _).mono HM.o.size));have I:=O (bf a N Y);have hg:w2.alloc (.cells #[.bool b.1,F b.2.1,s_ b.2.2] 292)=W2:=ae.symm;rw[hg,←hD];clear hg ae hD N HM HB;go_wp2_with (first|(go_at_call 196;refine(bG (false,bitM (decide (a.2.1<b.2.1))) q.o.drop Y).mono ?_;rintro r w6⟨rfl,⟨aC,hm⟩,hB⟩;have i:=O hm;have bn:=O (aJ.o.trans hB);clear hm hB)|(go_at_call 200;refine(qa (decide (a.2.1<b.2.1)) _).mono ?_;rintro r w5⟨rfl,hB⟩;have az:=bt (af _ _) hB;have q:=O (d.o.below az);have aJ:=O (aW.o.trans (az.mono d.o.size));clear hB az)|(go_at_call 186;refine I.o.mono ?_;rintro r w3⟨rfl,⟨m,hm⟩,hB⟩;unfold rvV;obtain⟨d0,d1,d2,u⟩:=hm.at1;have d:=O hm;have aW:=O (a9.o.trans hB);clear hm hB));refine bodyPost_end (results_none rfl _ _ _) rfl ?_;exact⟨rfl,⟨_,i.o⟩,bn.o⟩
end
end
section
attribute [local irreducible] wpG
section
variable {bZ G:Nat}{w w' w3:Z}{f:Rf}{ak:Int}{st rg:LR_}{L:List Lo}{W:LX_}{sv V lv ao J aT:V_}{X:List (Pt bZ)}
theorem RM.atB {v:RV}{D:Nat}{hD:bZ≤D}(h:RM bZ w G f ak st rg L W sv lv J X)(hm:aF D hD 292 (aQ v)∈X):w.cell? ⟨D,0,none⟩=some (.bool v.1)∧w.cell? ⟨D,1,none⟩=some (F v.2.1)∧w.cell? ⟨D,2,none⟩=some (s_ v.2.2)∧D<w.heap.size:=by
 have hb:Blk w D 292 (aQ v):=h.loc hm;exact⟨hb.c 0,hb.c 1,hb.c 2,hb.lt⟩
theorem RM.newP (h:RM bZ w G f ak st rg L W sv lv J X){l:LX_}(hc:Chg (fun k=>J.ownBlock=some k) w w3)(hg:∀ k,aT.ownBlock=some k→J.ownBlock=some k∨w.heap.size≤k)(ho:recKq.Own w3 bZ aT l):RM bZ (w3.setCell ⟨G,32,none⟩ aT) G f ak st rg L l sv lv aT X∧B_ bZ w (w3.setCell ⟨G,32,none⟩ aT)∧w3.frozen? ⟨G,32,none⟩=false∧w3.cell? ⟨G,32,none⟩=some J:=by
 have q:=h.sep.upd (i:=4) rfl hc (fun k hk=>hk) (ownPt recKq aT l) ho hg;have hs:Chg (fun k=>k=G) w3 (w3.setCell ⟨G,32,none⟩ aT):=Chg.setCell _ _ _ rfl;have b3:Blk w3 G 296 (cF f ak sv rg lv J):=q.get (i:=0) rfl
 have aR:(cF f ak sv rg lv J).set 32 aT=cF f ak sv rg lv aT:=by
  obtain⟨a,b,c,d,e,K,g,j,hr⟩:=gP h.rl;rw[hr];rfl
 have hb:=b3.set 32 aT;rw[aR]at hb;have s2:=q.upd (i:=0) rfl hs (fun k hk=>hk) (aF G h.gb 296 (cF f ak sv rg lv aT)) hb (fun k hk=>.inl hk);exact⟨⟨h.gb,h.rl,s2⟩,(h.sep.updB (i:=4) rfl hc (fun k hk=>hk) h.size).trans (hs.below (fun k hk=>by have:=h.gb;omega) (Jc h.size hc.size)),by obtain⟨a,b,c,d,e,K,g,j,hr⟩:=gP h.rl;rw[hr]at b3;exact b3.free (k:=32) (by show 32<33;decide),by obtain⟨a,b,c,d,e,K,g,j,hr⟩:=gP h.rl;rw[hr]at b3;exact b3.c 32⟩
theorem u5 (n:Nat)(y:U8_)(w:Z)(hn:n≠4∧n≠5∧n≠6∧n≠7∧n≠12∧n≠23):R_ 190 #[p_ G,.agg #[.int .u8 n,.int .u8 y.toNat]] w (F 0):=by
 have t1:((n:Int)==4)=false:=by rw[beq_eq_false_iff_ne];omega
 have t2:((n:Int)==5)=false:=by rw[beq_eq_false_iff_ne];omega
 have t3:((n:Int)==6)=false:=by rw[beq_eq_false_iff_ne];omega
 have t4:((n:Int)==7)=false:=by rw[beq_eq_false_iff_ne];omega
 have t5:((n:Int)==12)=false:=by rw[beq_eq_false_iff_ne];omega
 have t6:((n:Int)==23)=false:=by rw[beq_eq_false_iff_ne];omega
 clear hn;go_enter func190,ntmps190;go_wp2_with fail;go_ret;exact⟨rfl,af _ _⟩
theorem Dn (y:U8_)(a:RV)(h:RM bZ w G f ak (a::st) rg L W sv lv J X)(hl:st.length≤900)(ha:a.2.2.length≤1024):C_ 190 #[p_ G,.agg #[.int .u8 5,.int .u8 y.toNat]] w fun e w'=>e=.returned (F 0)∧(∃ V,RM bZ w' G f ak ((false,(a.2.2.length:Int),[])::st) rg L W V lv J X)∧B_ bZ w w':=by
 obtain⟨W1,aA⟩:=H (w.alloc (.cells #[.int .u8 5,.int .u8 y.toNat] 109));have a8:=ba_ aA;have hx:=bm_ aA;have x0:=hx.c 0;have HP:=O (bf a (h.below a8) Y);have a_:=O (a8.mono h.size);have aF:(a.2.2.length:Int)≤1024:=Y;clear h a8 hx;go_enter func190,ntmps190;go_upto_region 1 with fail;rw[←aA];clear aA;go_wp2_with (first|(go_at_call 196;refine(bG (false,(a.2.2.length:Int),[]) B.o Y).mono ?_;rintro r w5⟨rfl,⟨bi,hm⟩,hB⟩;have q:=O hm;have aJ:=O (ba.o.trans hB);clear hm hB)|(go_at_call 198;refine(jl (a.2.2.length:Int) _).mono ?_;rintro r w4⟨rfl,hB⟩;have B:=O (HM.o.below hB);have ba:=O (HB.o.trans (hB.mono HM.o.size));clear hB)|(go_at_call 186;refine HP.o.mono ?_;rintro r w2⟨rfl,⟨sv,hm⟩,hB⟩;unfold rvV;have HM:=O hm;have HB:=O hB;clear hm hB));go_ret;exact⟨rfl,⟨_,q.o⟩,a_.o.trans aJ.o⟩
theorem tL (y:U8_)(a:RV)(h:RM bZ w G f ak (a::st) rg L W sv lv J X)(hl:st.length≤900)(ha:a.2.2.length≤1024)(hG:∀ w',B_ bZ w w'→dS w'):C_ 190 #[p_ G,.agg #[.int .u8 7,.int .u8 y.toNat]] w fun e w'=>e=.returned (F 0)∧(∃ V,RM bZ w' G f ak ((false,da a.2.2,[])::st) rg L W V lv J X)∧B_ bZ w w':=by
 obtain⟨W1,aA⟩:=H (w.alloc (.cells #[.int .u8 7,.int .u8 y.toNat] 109));have a8:=ba_ aA;have hx:=bm_ aA;have x0:=hx.c 0;have HP:=O (bf a (h.below a8) Y);have a_:=O (a8.mono h.size);have HG:=O hG;clear h a8 hx hG;go_enter func190,ntmps190;go_upto_region 1 with fail;rw[←aA];clear aA;go_wp2_with (first|(go_at_call 196;refine(bG (false,da a.2.2,[]) B.o Y).mono ?_;rintro r w5⟨rfl,⟨bi,hm⟩,hB⟩;have q:=O hm;have aJ:=O (ba.o.trans hB);clear hm hB)|(go_at_call 198;refine(jl (da a.2.2) _).mono ?_;rintro r w4⟨rfl,hB⟩;have B:=O (d.o.below hB);have ba:=O (aW.o.trans (hB.mono d.o.size));clear hB)|(go_at_call 202;refine(xX a.2.2 _ ha (HG.o _ (a_.o.trans HB.o))).mono ?_;rintro r w3⟨rfl,hB⟩;have d:=O (HM.o.below hB);have aW:=O (HB.o.trans (hB.mono HM.o.size));clear hB)|(go_at_call 186;refine HP.o.mono ?_;rintro r w2⟨rfl,⟨sv,hm⟩,hB⟩;unfold rvV;have HM:=O hm;have HB:=O hB;clear hm hB));go_ret;exact⟨rfl,⟨_,q.o⟩,a_.o.trans aJ.o⟩
theorem A4 (y:U8_)(a b:RV)(h:RM bZ w G f ak (b::a::st) rg L W sv lv J X)(hl:st.length≤900):C_ 190 #[p_ G,.agg #[.int .u8 12,.int .u8 y.toNat]] w fun e w'=>e=.returned (F 0)∧(∃ V,RM bZ w' G f ak ((false,bitM (a.2.2==b.2.2))::st) rg L W V lv J X)∧B_ bZ w w':=by
 obtain⟨W1,aA⟩:=H (w.alloc (.cells #[.int .u8 12,.int .u8 y.toNat] 109));have a8:=ba_ aA;have hx:=bm_ aA;have x0:=hx.c 0;have HP:=O (bf b (h.below a8) yza);have a_:=O (a8.mono h.size);clear h a8 hx;go_enter func190,ntmps190;go_upto_region 1 with fail;rw[←aA];clear aA;go_upto_region 18 with(go_at_call 186;refine HP.o.mono ?_;rintro r w2⟨rfl,⟨sv,hm⟩,hB⟩;unfold rvV;have HM:=O hm;have HB:=O (a_.o.trans hB);clear hm hB);obtain⟨D,hD⟩:=H w2.heap.size;obtain⟨W2,ae⟩:=H (w2.alloc (.cells (aQ b).toArray 292));have c:bZ≤D:=by rw[hD];exact HM.o.size
 have N:RM bZ W2 G f ak (a::st) rg L W sv lv J (X++[aF D c 292 (aQ b)]):=by subst hD;rw[ae];exact HM.o.add (aQ b) 292
 have a9:=O (show B_ bZ w W2 by rw[ae];exact HB.o.trans ((af _ _).mono HM.o.size));have I:=O (bf a N Y);have hg:w2.alloc (.cells #[.bool b.1,F b.2.1,s_ b.2.2] 292)=W2:=ae.symm;rw[hg,←hD];clear hg ae hD N HM HB;go_wp2_with (first|(go_at_call 196;refine(bG (false,bitM (a.2.2==b.2.2)) q.o.drop Y).mono ?_;rintro r w6⟨rfl,⟨aC,hm⟩,hB⟩;have i:=O hm;have bn:=O (aJ.o.trans hB);clear hm hB)|(go_at_call 200;refine(qa (a.2.2==b.2.2) _).mono ?_;rintro r w5⟨rfl,hB⟩;have az:=bt (af _ _) hB;have q:=O (d.o.below az);have aJ:=O (aW.o.trans (az.mono d.o.size));clear hB az)|(go_at_call 186;refine I.o.mono ?_;rintro r w3⟨rfl,⟨m,hm⟩,hB⟩;unfold rvV;obtain⟨d0,d1,d2,u⟩:=hm.at1;have d:=O hm;have aW:=O (a9.o.trans hB);clear hm hB));go_ret;exact⟨rfl,⟨_,i.o⟩,bn.o⟩
theorem Du (y:U8_)(a b:RV)(h:RM bZ w G f ak (b::a::st) rg L W sv lv J X)(hl:st.length≤900)(ha:a.2.2.length≤1024)(hb:b.2.2.length≤1024)(s:¬1024<a.2.2.length+b.2.2.length):C_ 190 #[p_ G,.agg #[.int .u8 4,.int .u8 y.toNat]] w fun e w'=>e=.returned (F 0)∧(∃ V,RM bZ w' G f ak ((true,0,a.2.2++b.2.2)::st) rg L W V lv J X)∧B_ bZ w w':=by
 obtain⟨W1,aA⟩:=H (w.alloc (.cells #[.int .u8 4,.int .u8 y.toNat] 109));have a8:=ba_ aA;have hx:=bm_ aA;have x0:=hx.c 0;have HP:=O (bf b (h.below a8) yza);have a_:=O (a8.mono h.size);have q1:¬(1024:Int)<(a.2.2.length:Int)+(b.2.2.length:Int):=Y;have q2:(a.2.2.length:Int)≤1024:=Y;have q3:(b.2.2.length:Int)≤1024:=Y;clear h a8 hx;go_enter func190,ntmps190;go_upto_region 1 with fail;rw[←aA];clear aA;go_upto_region 4 with(go_at_call 186;refine HP.o.mono ?_;rintro r w2⟨rfl,⟨sv,hm⟩,hB⟩;unfold rvV;have HM:=O hm;have HB:=O (a_.o.trans hB);clear hm hB);obtain⟨D,hD⟩:=H w2.heap.size;obtain⟨W2,ae⟩:=H (w2.alloc (.cells (aQ b).toArray 292));have c:bZ≤D:=by rw[hD];exact HM.o.size
 have N:RM bZ W2 G f ak (a::st) rg L W sv lv J (X++[aF D c 292 (aQ b)]):=by subst hD;rw[ae];exact HM.o.add (aQ b) 292
 have a9:=O (show B_ bZ w W2 by rw[ae];exact HB.o.trans ((af _ _).mono HM.o.size));have I:=O (bf a N Y);have hg:w2.alloc (.cells #[.bool b.1,F b.2.1,s_ b.2.2] 292)=W2:=ae.symm;rw[hg,←hD];clear hg ae hD N HM HB;go_wp2_with (first|(go_at_call 196;refine(bG (true,0,a.2.2++b.2.2) q.o.drop Y).mono ?_;rintro r w6⟨rfl,⟨aC,hm⟩,hB⟩;have i:=O hm;have bn:=O (aJ.o.trans hB);clear hm hB)|(go_at_call 197;refine(gd (a.2.2++b.2.2) _).mono ?_;rintro r w5⟨rfl,hB⟩;have az:=bt (af _ _) hB;have q:=O (d.o.below az);have aJ:=O (aW.o.trans (az.mono d.o.size));clear hB az)|(go_at_call 186;refine I.o.mono ?_;rintro r w3⟨rfl,⟨m,hm⟩,hB⟩;unfold rvV;obtain⟨d0,d1,d2,u⟩:=hm.at1;have d:=O hm;have aW:=O (a9.o.trans hB);clear hm hB));go_ret;exact⟨rfl,⟨_,i.o⟩,bn.o⟩
theorem Bg (y:U8_)(a b:RV)(h:RM bZ w G f ak (b::a::st) rg L W sv lv J X)(hl:st.length≤900)(ha:a.2.2.length≤1024)(hb:b.2.2.length≤1024)(s:1024<a.2.2.length+b.2.2.length):C_ 190 #[p_ G,.agg #[.int .u8 4,.int .u8 y.toNat]] w fun e w'=>e=.returned (F 5)∧B_ bZ w w':=by
 obtain⟨W1,aA⟩:=H (w.alloc (.cells #[.int .u8 4,.int .u8 y.toNat] 109));have a8:=ba_ aA;have hx:=bm_ aA;have x0:=hx.c 0;have HP:=O (bf b (h.below a8) yza);have a_:=O (a8.mono h.size);have q1:(1024:Int)<(a.2.2.length:Int)+(b.2.2.length:Int):=Y;have q2:(a.2.2.length:Int)≤1024:=Y;have q3:(b.2.2.length:Int)≤1024:=Y;clear h a8 hx;go_enter func190,ntmps190;go_upto_region 1 with fail;rw[←aA];clear aA;go_upto_region 4 with(go_at_call 186;refine HP.o.mono ?_;rintro r w2⟨rfl,⟨sv,hm⟩,hB⟩;unfold rvV;have HM:=O hm;have HB:=O (a_.o.trans hB);clear hm hB);obtain⟨D,hD⟩:=H w2.heap.size;obtain⟨W2,ae⟩:=H (w2.alloc (.cells (aQ b).toArray 292));have c:bZ≤D:=by rw[hD];exact HM.o.size
 have N:RM bZ W2 G f ak (a::st) rg L W sv lv J (X++[aF D c 292 (aQ b)]):=by subst hD;rw[ae];exact HM.o.add (aQ b) 292
 have a9:=O (show B_ bZ w W2 by rw[ae];exact HB.o.trans ((af _ _).mono HM.o.size));have I:=O (bf a N Y);have hg:w2.alloc (.cells #[.bool b.1,F b.2.1,s_ b.2.2] 292)=W2:=ae.symm;rw[hg,←hD];clear hg ae hD N HM HB;go_wp2_with (go_at_call 186;refine I.o.mono ?_;rintro r w3⟨rfl,⟨m,hm⟩,hB⟩;unfold rvV;obtain⟨d0,d1,d2,u⟩:=hm.at1;have d:=O hm;have aW:=O (a9.o.trans hB);clear hm hB);go_ret;exact⟨rfl,aW.o.trans ((af _ _).mono d.o.size)⟩
end
end
section
attribute [local irreducible] wpG
theorem zw (a:Addr)(n:Nat):(a.add n).block=a.block:=by unfold Addr.add;split<;>rfl
theorem pJ {w:Z}{a:OA_}{ah:Nat}{l:LL_}(h:aP.Row w (.slice a l.length ah) l)(k:Nat)(hk:k≤l.length):∃ A C,(∀ wx,(Instr.slice 22 (.slice a l.length ah) (some (F k)) none none).run prog wx=.ok (.slice A (l.length-k) C) wx)∧aP.Row w (.slice A (l.length-k) C) (l.drop k)∧(∀ b,(Value.slice A (l.length-k) C).ownBlock=some b→(Value.slice a l.length ah).ownBlock=some b):=by
 obtain⟨_,a',aK,hv,aq⟩:=id h;injection hv with _ _ h3
 subst h3;refine⟨_,_,fun wx=>?_,h.cut k hk,?_⟩
 ·rw[run_slice_l wx 22 a l.length ah q_ .i64 k Y Y]
  have he:(sizeOf (prog.elem 22)).run prog wx=.ok 1 wx:=q_;rw[he];have h1:k*aP.n=k:=Nat.mul_one k;simp[Result.andThen,sliced,h1]
 ·intro b hA
  split at hA
  ·cases a with
   | none=>cases hA
   | some ad=>exact hA
  ·cases a with
   | none=>cases hA
   | some ad =>
    have:(ad.add (k*aP.n)).block=b:=by simpa[Value.ownBlock] using hA
    rw[zw]at this;show some ad.block=some b;rw[this]
section
variable {bZ G:Nat}{w w' w3:Z}{f:Rf}{ak:Int}{st rg:LR_}{L l:List Lo}{e:Lo}{W:LX_}{tv cv iv ev ow sv V lv ao J aT:V_}{X:List (Pt bZ)}{ap:Pt bZ}
theorem Sep.split {A B:List (Pt bZ)}{p:Pt bZ}(h:Sep bZ w (A++p::B))(p1 p2:Pt bZ)(h1:p1.P w)(h2:p2.P w)(bb:∀ k,p1.fp k→p.fp k)(n:∀ k,p2.fp k→p.fp k)(hd:∀ k,p1.fp k→¬p2.fp k):Sep bZ w (A++p1::B++[p2]):=by
 obtain⟨hP,hS⟩:=h;obtain⟨hA,d,c⟩:=List.pairwise_append.1 hS;obtain⟨hp,hB⟩:=List.pairwise_cons.1 d;refine⟨fun x hx=>?_,?_⟩
 ·rcases Jt.1 hx with hx|hx
  ·rcases Jt.1 hx with hx|hx
   ·exact hP x yzn
   ·rcases JK.1 hx with rfl|hx
    ·exact h1
    ·exact hP x yzn
  ·rw[Jp]at hx;subst hx;exact h2
 ·refine List.pairwise_append.2 ⟨List.pairwise_append.2 ⟨hA,List.pairwise_cons.2 ⟨fun b hb k hk=>hp b hb k (bb k hk),hB⟩,fun a ha b hb k hk H=>?_⟩,List.pairwise_singleton _ _,fun a ha b hb k hk H=>?_⟩
  ·rcases JK.1 hb with rfl|hb
   ·exact c a ha p i_ k hk (bb k H)
   ·exact c a ha b (by simp[hb]) k hk H
  ·rw[Jp]at hb
   subst hb;rcases Jt.1 ha with ha|ha
   ·exact c a ha p i_ k hk (n k H)
   ·rcases JK.1 ha with rfl|ha
    ·exact hd k hk H
    ·exact hp a ha k (n k H) hk
theorem RM.cell31 (h:RM bZ w G f ak st rg L W sv lv J X):(cF f ak sv rg lv J).set 31 ao=cF f ak sv rg ao J:=by
 obtain⟨a,b,c,d,e,K,g,j,hr⟩:=gP h.rl;rw[hr];rfl
theorem RM.newL (h:RM bZ w G f ak st rg L W sv lv J (X++[ap]))(hc:Chg (fun k=>lv.ownBlock=some k) w w3)(hg:∀ k,ao.ownBlock=some k→lv.ownBlock=some k∨w.heap.size≤k)(ho:cd.Own w3 bZ ao (L++[e]))(he:ap.P w3→aP.Row w3 (loV e) e.ps)(hb:∀ k,(loV e).ownBlock=some k→ap.fp k):RM bZ (w3.setCell ⟨G,31,none⟩ ao) G f ak st rg (L++[e]) W sv ao J X∧B_ bZ w (w3.setCell ⟨G,31,none⟩ ao)∧w3.frozen? ⟨G,31,none⟩=false∧w3.cell? ⟨G,31,none⟩=some lv:=by
 have q:=h.sep.upd (i:=2) rfl hc (fun k hk=>hk) (ownPt cd ao (L++[e])) ho hg;have aa:=q.get (i:=3) (p:=ir L) rfl;have hq:ap.P w3:=q.1 ap i_
 have r:∀ k,(ir (bZ:=bZ) L).fp k→¬ap.fp k:=by
  have hl:(aF G h.gb 296 (cF f ak sv rg lv J)::ownPt aY sv st.reverse::ownPt cd ao (L++[e])::ir L::ownPt recKq J W::(X++[ap]))[5+X.length]?=some ap:=by
   rw[Nat.add_comm];show(X++[ap])[X.length]?=_;simp
  exact q.apart (i:=3) (j:=5+X.length) (p:=ir L) rfl hl Y
 have hP:(ir (bZ:=bZ) (L++[e])).P w3:=by
  refine⟨fun x hx=>?_,List.pairwise_append.2 ⟨aa.2,List.pairwise_singleton _ _,fun a ha b m k hk H=>?_⟩⟩
  ·rcases Jt.1 hx with hx|hx
   ·exact aa.1 x hx
   ·rw[Jp]at hx
    subst hx;exact⟨he hq,fun k hk=>ap.lt hq k (hb k hk)⟩
  ·rw[Jp]at m
   subst m;exact r k ⟨a,ha,hk⟩ (hb k H)
 have n:Sep bZ w3 ([aF G h.gb 296 (cF f ak sv rg lv J),ownPt aY sv st.reverse,ownPt cd ao (L++[e])]++ir (L++[e])::(ownPt recKq J W::X)):=by
  refine Sep.merge (p:=ir L) (ap:=ap) q (ir (L++[e])) hP (fun k hk=>?_);obtain⟨x,hx,hk⟩:=hk;rcases Jt.1 hx with hx|hx
  ·exact .inl ⟨x,hx,hk⟩
  ·rw[Jp]at hx
   subst hx;exact .inr (hb k hk)
 have hs:Chg (fun k=>k=G) w3 (w3.setCell ⟨G,31,none⟩ ao):=Chg.setCell _ _ _ rfl;have b3:Blk w3 G 296 (cF f ak sv rg lv J):=n.get (i:=0) rfl;have u:=b3.set 31 ao;rw[h.cell31]at u;have s2:=n.upd (i:=0) rfl hs (fun k hk=>hk) (aF G h.gb 296 (cF f ak sv rg ao J)) u (fun k hk=>.inl hk);exact⟨⟨h.gb,h.rl,s2⟩,(h.sep.updB (i:=2) rfl hc (fun k hk=>hk) h.size).trans (hs.below (fun k hk=>by have:=h.gb;omega) (Jc h.size hc.size)),by obtain⟨a,b,c,d,e,K,g,j,hr⟩:=gP h.rl;rw[hr]at b3;exact b3.free (k:=31) (by show 31<33;decide),by obtain⟨a,b,c,d,e,K,g,j,hr⟩:=gP h.rl;rw[hr]at b3;exact b3.c 31⟩
theorem RM.popL (h:RM bZ w G f ak st rg (l++[e]) W sv lv J X)(hg:∀ k,ao.ownBlock=some k→lv.ownBlock=some k)(ho:cd.Own w bZ ao l):RM bZ (w.setCell ⟨G,31,none⟩ ao) G f ak st rg l W sv ao J (X++[ir [e]])∧B_ bZ w (w.setCell ⟨G,31,none⟩ ao):=by
 have q:=h.sep.same (i:=2) rfl (ownPt cd ao l) ho hg;have aa:=h.ow;have a:=(List.pairwise_append.1 aa.2).2.2
 have n:Sep bZ w ([aF G h.gb 296 (cF f ak sv rg lv J),ownPt aY sv st.reverse,ownPt cd ao l]++ir l::(ownPt recKq J W::X)++[ir [e]]):=by
  refine Sep.split (p:=ir (l++[e])) q (ir l) (ir [e]) ⟨fun x hx=>aa.1 x yzn,(List.pairwise_append.1 aa.2).1⟩ ⟨fun x hx=>aa.1 x (by rw[Jp]at hx;simp[hx]),List.pairwise_singleton _ _⟩ ?_ ?_ ?_
  ·rintro k⟨x,hx,hk⟩
   exact⟨x,by simp[hx],hk⟩
  ·rintro k⟨x,hx,hk⟩
   rw[Jp]at hx;exact⟨x,by simp[hx],hk⟩
  ·rintro k⟨x,hx,hk⟩ ⟨d,b,H⟩
   exact a x hx d b k hk H
 have hs:Chg (fun k=>k=G) w (w.setCell ⟨G,31,none⟩ ao):=Chg.setCell _ _ _ rfl;have u:=h.blk.set 31 ao;rw[h.cell31]at u;have s2:=n.upd (i:=0) rfl hs (fun k hk=>hk) (aF G h.gb 296 (cF f ak sv rg ao J)) u (fun k hk=>.inl hk);exact⟨⟨h.gb,h.rl,s2⟩,h.sep.updB (i:=0) rfl hs (fun k hk=>hk) h.size⟩
end
end
section
attribute [local irreducible] wpG
section
variable {bZ G:Nat}{w w' w3:Z}{f:Rf}{ak:Int}{st rg:LR_}{L:List Lo}{W:LX_}{tv cv iv ev ow sv V lv ao J aT:V_}{X:List (Pt bZ)}
theorem tR (n:Nat)(y:U8_)(h:RM bZ w G f ak st rg L W sv lv J X)(hn:n≠19∧n≠20∧n≠22∧n≠21):R_ 191 #[p_ G,.agg #[.int .u8 n,.int .u8 y.toNat]] w (.tuple #[]):=by
 have t1:((n:Int)==19)=false:=by rw[beq_eq_false_iff_ne];omega
 have t2:((n:Int)==20)=false:=by rw[beq_eq_false_iff_ne];omega
 have t3:((n:Int)==22)=false:=by rw[beq_eq_false_iff_ne];omega
 have t4:((n:Int)==21)=false:=by rw[beq_eq_false_iff_ne];omega
 have c5:=h.c 5;have bq:=h.blk.lt;clear hn h;go_enter func191,ntmps191;go_wp2_with fail;refine bodyPost_end (results_none rfl _ _ _) rfl ?_;exact⟨rfl,af _ _⟩
theorem vt (y:U8_)(pc:Nat)(h:RM bZ w G ⟨tv,cv,iv,ev,ow⟩ (pc:Int) st rg L W sv lv J X){l:LI_}(ht:bD.Row w ev l)(hp:pc<l.length)(a0:l.length≤1000)(hv:-1000≤l[pc]∧l[pc]≤1000):C_ 191 #[p_ G,.agg #[.int .u8 20,.int .u8 y.toNat]] w fun e w'=>e=.returned (.tuple #[])∧RM bZ w' G ⟨tv,cv,iv,ev,ow⟩ (l[pc]-1) st rg L W sv lv J X∧B_ bZ w w':=by
 obtain⟨W1,aA⟩:=H (w.alloc (.cells #[.int .u8 20,.int .u8 y.toNat] 109));have a8:=ba_ aA;obtain⟨D1,s⟩:=H w.heap.size;have hx:=bn_ s aA;have x0:=hx.c 0;have h1:=h.below a8;obtain⟨a',n,aV,hc⟩:=eb (ht.below a8);obtain⟨b,aL,rfl,d0⟩:=hc pc hp;subst aV;obtain⟨v,a2⟩:∃ v,v=l[pc]:=⟨_,rfl⟩
 rw[←a2]at d0 hv⊢;obtain⟨j0,j1⟩:=hv;have i0:=nn_ pc;have i1:(pc:Int)<l.length:=Y;have i2:(l.length:Int)≤1000:=Y;have c3:=h1.c 3;have c5:=h1.c 5;have f5:=h1.free (k:=5) d_;have a_:=O (a8.mono h.size);have H1:=O h1;clear h h1 a8 hx hc a2 ht;go_enter func191,ntmps191;go_upto_region 1 with fail;rw[←aA,←s];clear aA s;go_wp2_with fail;refine bodyPost_end (results_none rfl _ _ _) rfl ?_;obtain⟨m5,b5⟩:=H1.o.setAt (v-1);exact⟨rfl,m5,a_.o.trans b5⟩
theorem Bd (y:U8_)(a:RV)(pc:Nat)(h:RM bZ w G ⟨tv,cv,iv,ev,ow⟩ (pc:Int) (a::st) rg L W sv lv J X)(hl:st.length≤900){l:LI_}(ht:∀ w',B_ bZ w w'→bD.Row w' ev l)(hp:pc<l.length)(a0:l.length≤1000):C_ 191 #[p_ G,.agg #[.int .u8 19,.int .u8 y.toNat]] w fun e w'=>e=.returned (.tuple #[])∧(∃ V,RM bZ w' G ⟨tv,cv,iv,ev,ow⟩ (if a.2.1=0 then l[pc] else (pc:Int)) st rg L W V lv J X)∧B_ bZ w w':=by
 obtain⟨W1,aA⟩:=H (w.alloc (.cells #[.int .u8 19,.int .u8 y.toNat] 109));have a8:=ba_ aA;obtain⟨D1,s⟩:=H w.heap.size;have hx:=bn_ s aA;have x0:=hx.c 0;have h1:=h.below a8;have c5:=h1.c 5;have HP:=O (bf a h1 Y);have a_:=O (a8.mono h.size);have HT:=O ht;have i0:=nn_ pc;have i1:(pc:Int)<l.length:=Y;have i2:(l.length:Int)≤1000:=Y;clear h h1 a8 hx ht
 by_cases ha:a.2.1=0
 ·rw[if_pos ha]
  have t0:(a.2.1==0)=true:=by simp[ha]
  clear ha;go_enter func191,ntmps191;go_upto_region 1 with fail;rw[←aA,←s];clear aA s;go_upto_region 5 with(go_at_call 186;refine HP.o.mono ?_;rintro e w2⟨rfl,⟨sv,hm⟩,hB⟩;unfold rvV;have HM:=O hm;have HB:=O (a_.o.trans hB);clear hm hB);obtain⟨a',n,aV,hc⟩:=eb (HT.o _ HB.o);obtain⟨b,aL,rfl,d0⟩:=hc pc hp;subst aV;obtain⟨v,a2⟩:∃ v,v=l[pc]:=⟨_,rfl⟩
  rw[←a2]at d0;have HV:=O a2;have c3:=HM.o.c 3;have c5:=HM.o.c 5;have f5:=HM.o.free (k:=5) d_;clear hc a2;go_wp2_with fail;refine bodyPost_end (results_none rfl _ _ _) rfl ?_;obtain⟨m5,b5⟩:=HM.o.setAt v;exact⟨rfl,⟨_,by rw[←HV.o];exact m5⟩,HB.o.trans b5⟩
 ·rw[if_neg ha]
  have t0:(a.2.1==0)=false:=by rw[beq_eq_false_iff_ne];exact ha
  clear ha;go_enter func191,ntmps191;go_upto_region 1 with fail;rw[←aA,←s];clear aA s;go_wp2_with (go_at_call 186;refine HP.o.mono ?_;rintro e w2⟨rfl,⟨sv,hm⟩,hB⟩;unfold rvV;have HM:=O hm;have HB:=O (a_.o.trans hB);clear hm hB);refine bodyPost_end (results_none rfl _ _ _) rfl ?_;exact⟨rfl,⟨_,HM.o⟩,HB.o⟩
end
end
section
attribute [local irreducible] wpG
section
variable {bZ G:Nat}{w w' w3:Z}{f:Rf}{ak:Int}{st rg:LR_}{L:List Lo}{W:LX_}{tv cv iv ev ow sv V lv ao J aT:V_}{X:List (Pt bZ)}
theorem RM.addOwn {v:V_}{l:LL_}(h:RM bZ w G f ak st rg L W sv lv J X)(hB:Bw_ w w')(ho:aP.Own w' w.heap.size v l):RM bZ w' G f ak st rg L W sv lv J (X++[ownPt aP v l]) :=
 ⟨h.gb,h.rl,h.sep.snoc hB (ownPt aP v l) (ho.baseLe h.size) (fun k hk=>(Rec.Own.ltV ho k hk).1)⟩
theorem oD (y:U8_)(a:RV)(pc:Nat)(h:RM bZ w G ⟨tv,cv,iv,ev,ow⟩ (pc:Int) (a::st) rg L W sv lv J X)(hl:st.length≤900)(aa:L.length≤900)(ha:a.2.2.length≤1024){l:LI_}(ht:∀ w',B_ bZ w w'→bD.Row w' ev l)(hp:pc<l.length)(a0:l.length≤1000):C_ 191 #[p_ G,.agg #[.int .u8 22,.int .u8 y.toNat]] w fun r w'=>r=.returned (.tuple #[]) ∧((cD a.2.2 y=[]∧∃ V,RM bZ w' G ⟨tv,cv,iv,ev,ow⟩ l[pc] st rg L W V lv J X) ∨ (∃ p ps,cD a.2.2 y=p::ps∧∃ V ao e',e'.at_=pc∧e'.ps=ps∧RM bZ w' G ⟨tv,cv,iv,ev,ow⟩ (pc:Int) ((true,0,p)::st) rg (L++[e']) W V ao J X))∧B_ bZ w w':=by
 obtain⟨W1,aA⟩:=H (w.alloc (.cells #[.int .u8 22,.int .u8 y.toNat] 109));have a8:=ba_ aA;obtain⟨D1,s⟩:=H w.heap.size;have hx:=bn_ s aA;have M:bZ≤D1:=by rw[s];exact h.size
 obtain⟨x0,x1⟩:=cl2 hx;have az:RM bZ W1 G ⟨tv,cv,iv,ev,ow⟩ (pc:Int) (a::st) rg L W sv lv J (X++[aF D1 M 109 [.int .u8 22,.int .u8 y.toNat]]):=by subst s;rw[aA];exact h.add _ _
 have c5:=az.c 5;have aC:=O az;have HP:=O (bf a (az.below (b_drew W1)) Y);have a_:=O (a8.mono h.size);have HT:=O ht;obtain⟨aB,U⟩:=H (cD a.2.2 y);have i:=O (fun w'=>vI a.2.2 y w' ha);rw[←U]at i⊢;have I:aB.length≤1025:=by rw[U];exact(ql ha y).1
 have ai:=O I;clear h az a8 hx ht U I;go_enter func191,ntmps191;go_upto_region 1 with fail;rw[←aA,←s];clear aA s;go_upto_region 9 with fail
 go_cut [5] (fun t wx=>∃ av cp N,t=.slice av aB.length cp∧Hid (RM bZ wx G ⟨tv,cv,iv,ev,ow⟩ (pc:Int) st rg L W N lv J ((X++[aF D1 M 109 [.int .u8 22,.int .u8 y.toNat]])++[ownPt aP (.slice av aB.length cp) aB]))∧Hid (B_ bZ w wx))
 case first =>
  go_region_law (first|(refine aN rfl 203 #[s_ a.2.2,.int .u8 y.toNat] yzc (i.o w2) ?_;rintro r w4⟨⟨pv,rfl,ho⟩,hB⟩;obtain⟨av,cp,rfl⟩:=ay ho;have B:=O (HM.o.addOwn hB ho);have ba:=O (HB.o.trans (hB.mono HM.o.size));clear hB ho)|(refine aN rfl 186 #[p_ G] yzc HP.o ?_;rintro r w2⟨rfl,⟨N,hm⟩,hB⟩;unfold rvV;have ac:Blk w2 D1 109 [.int .u8 22,.int .u8 y.toNat]:=hm.loc (p:=aF D1 M 109 [.int .u8 22,.int .u8 y.toNat]) i_;have bQ:=ac.c 1;clear ac;have HM:=O hm;have HB:=O ((a_.o.trans ((b_drew W1).mono aC.o.size)).trans hB);clear hm hB))
  all_goals
   (try simp only[JM,Jd,Jm])
   (try go_frame)
   go_wp2_with fail
   go_meet
   case rel=>exact⟨_,_,_,rfl,B.o,ba.o⟩
 case rest =>
  obtain⟨av,cp,N,rfl,HM,HB⟩:=hcut;clear x0 x1 c5;have i0:=nn_ pc;have i1:(pc:Int)<l.length:=Y;have i2:(l.length:Int)≤1000:=Y
  cases aB with
  | nil =>
   obtain⟨a',n,aV,hc⟩:=eb (HT.o _ HB.o);obtain⟨b,aL,rfl,d0⟩:=hc pc hp;subst aV;obtain⟨v,a2⟩:∃ v,v=l[pc]:=⟨_,rfl⟩
   rw[←a2]at d0;have HV:=O a2;have c3:=HM.o.c 3;have c5:=HM.o.c 5;have f5:=HM.o.free (k:=5) d_;clear hc a2;go_wp2_with fail;obtain⟨m5,b5⟩:=HM.o.setAt v;refine bodyPost_ret (results_none rfl _ _ _) rfl ?_
   first
    | exact⟨rfl,⟨_,by rw[←HV.o];exact m5.drop.drop⟩,HB.o.trans b5⟩
    | exact⟨rfl,.inl ⟨rfl,_,by rw[←HV.o];exact m5.drop.drop⟩,HB.o.trans b5⟩
  | cons p ps =>
   simp only[Jq]at HM ai⊢;obtain⟨n1,bL⟩:=H (ps.length+1);rw[←bL]at HM ai⊢;have aw:aP.Own wc bZ (.slice av n1 cp) (p::ps):=HM.o.loc (p:=ownPt aP (.slice av n1 cp) (p::ps)) i_;have j:aP.Row wc (.slice av (p::ps).length cp) (p::ps):=by rw[Jq,←bL];exact aw.row
   obtain⟨bN,bR,bJ,-,bm⟩:=au aw.row;obtain⟨b,aL,rfl,d0⟩:=bm 0 i_;injection bJ with e1 e2 e3
   subst e1 e3;clear e2;have d0:wc.cell? ⟨b,aL,none⟩=some (s_ p):=d0;have i3:((n1:Int)==0)=false:=by rw[beq_eq_false_iff_ne];omega
   have i4:0<(n1:Int):=Y;have i5:(n1:Int)≤1025:=by have:=ai.o;omega
   have cF:=O bL;have bO:=O j;have bo:=aG d0;clear aw bm j bL;go_upto_region 13 with(first|(go_at_call 196;refine(bG (true,0,p) (HM.o.below da.o) Y).mono ?_;rintro r w5⟨rfl,⟨bi,hm⟩,hB⟩;have q:=O hm;have aJ:=O ((HB.o.trans (da.o.mono HM.o.size)).trans hB);clear hm hB)|(go_at_call 197;refine(gd p _).mono ?_;rintro r w4⟨rfl,hB⟩;have da:=O hB;clear hB));have d:aP.Own w5 bZ (.slice (some ⟨b,aL,none⟩) n1 cp) (p::ps):=q.o.loc (p:=ownPt aP (.slice (some ⟨b,aL,none⟩) n1 cp) (p::ps)) i_;obtain⟨A,C,u,D,E⟩:=pJ (l:=p::ps) (a:=some ⟨b,aL,none⟩) (ah:=cp) (by rw[Jq,←cF.o];exact d.row) 1 i_;have a5:(p::ps).length-1=ps.length:=by simp
   rw[a5]at u D E
   have aO:∀ wx,(Instr.slice 22 (.slice (some ⟨b,aL,none⟩) n1 cp) (some (F 1)) none none).run prog wx=.ok (.slice A ps.length C) wx:=fun wx=>by
    have:=u wx;rw[Jq,←cF.o]at this;exact this
   have D:aP.Row w5 (.slice A ps.length C) ps:=D
   have E:∀ k,(Value.slice A ps.length C).ownBlock=some k→(Value.slice (some ⟨b,aL,none⟩) n1 cp).ownBlock=some k:=fun k hk=>by
    have:=E k hk;rw[Jq,←cF.o]at this;exact this
   obtain⟨av,aE⟩:∃ av:OA_,av=some ⟨b,aL,none⟩:=⟨_,rfl⟩
   have bL:=cF.o;subst bL;rw[←aE]at aO E q⊢;have cJ:=O aE;clear aE;obtain⟨e,he⟩:∃ e:Lo,e=⟨pc,A,ps.length,C,ps⟩:=⟨_,rfl⟩
   have bk:=O (show cd.cell e=[F pc,.slice A ps.length C] by rw[he];rfl);have bg:=O (show loV e=.slice A ps.length C by rw[he];rfl);have a6:=O (show e.at_=pc∧e.ps=ps by rw[he];exact⟨rfl,rfl⟩);have aR:=O D;have bh:=O E;obtain⟨_,⟨al,cl,rfl⟩,_⟩:=q.o.slices;have ag:w5.cell? ⟨G,31,none⟩=some (.slice al L.length cl):=q.o.cellR (k:=0) rfl;have a3:=O q.o.ol;have m:(L.length:Int)≤900:=Y;clear d u a5 D E he d0 bo bO i3 i4 i5 cF ai;refine gF cd L e 14 [(4,.exact _ (.slice al L.length cl)),(5,kM cd w5.heap.size L e),(8,.exact _ (.slice A ps.length C)),(10,jr cd w5.heap.size L e),(11,kL cd w5.heap.size L e)] q_ q_ ?_;simp only[Jw,JE,Ju,JF];refine cG ?_;refine gl1_ ag ?_;refine gk_ (kM cd w5.heap.size L e) (fun w' G hB hS hG=>?_) (fun x K hK=>?_)
   ·refine cd.grow_copy _ _ 294 rfl underlying294 w5.heap.size rfl _ L (a3.o.below hB).row rfl (by show L.length*32≤_;omega) hB.size (fun A C bc ho hb=>hG (A,C) bc (IP hB.size hb) (fun φ h=>by cases h;exact ho))
   obtain⟨ad,c⟩:=x;refine cO ?_;clear hK K;refine gj_ (fun w' G hB hS hG=>?_) ?_
   ·go_simp;exact hG _ (fd.refl _)
   refine gk_ (jr cd w5.heap.size L e) (fun w' G hB hS hG=>?_) (fun (bb:Nat) K hK=>?_)
   ·go_simp;exact kF hG (by rw[bk.o]) hB.size
   refine cO ?_;clear hK K;refine gk_ (kL cd w5.heap.size L e) (fun w' G hB hS hG=>?_) (fun y K hK=>?_)
   ·have aw:cd.Own w' w5.heap.size (.slice ad L.length c) L:=at1 hS q_
    have aZ:w'.heap[bb]?=some (.cells (cd.cell e).toArray cd.e (0,0)):=at0 hS q_;exact cd.grow_app1 _ _ 294 rfl underlying294 w5.heap.size _ L e aw rfl bb rfl aZ (by show(L.length+1)*32≤_;omega) hB.size (fun A C bc ho hr=>hG (A,C) bc hr (fun φ h=>by cases h;exact ho))
   obtain⟨aQ,c2⟩:=y;refine cO ?_;clear hK K;refine pA ?_;intro w6 bx bd;have ab:cd.Own w6 w5.heap.size (.slice aQ (L.length+1) c2) (L++[e]):=mn bd;have hn:=q.o.newL (w3:=w6) (ao:=.slice aQ (L.length+1) c2) (e:=e) (IG bx) (fun k hk=>.inr (Rec.Own.ltV ab k hk).1) (ab.baseLe q.o.size) (fun _=>by rw[bg.o,a6.o.2];exact aR.o.below bx) (fun k hk=>bh.o k (by rw[←bg.o];exact hk));have bF:=hn.2.2.2;have f31:=hn.2.2.1;have HN:=O hn;clear hn ab bx bd ag;go_wp2_with fail;refine bodyPost_end (results_none rfl _ _ _) rfl ?_;exact⟨rfl,.inr ⟨p,ps,rfl,_,_,e,a6.o.1,a6.o.2,HN.o.1.drop⟩,aJ.o.trans HN.o.2.1⟩
end
end
section
attribute [local irreducible] wpG
section
variable {bZ G:Nat}{w w' w3:Z}{f:Rf}{ak:Int}{st rg:LR_}{L l:List Lo}{e:Lo}{W:LX_}{tv cv iv ev ow sv V lv ao J aT:V_}{X:List (Pt bZ)}
theorem yd (y:U8_)(pc o:Nat)(h:RM bZ w G ⟨tv,cv,iv,ev,ow⟩ (pc:Int) st rg L W sv lv J X){own:LI_}{I:LJ_}(cL:bD.Row w ow own)(bB:bH.Row w cv I)(hp:pc<own.length)(b4:own.length≤1000)(bx:I.length≤1000)(ho:own[pc]=(o:Int))(az:o<I.length)(aI:I[o].1≠22):C_ 191 #[p_ G,.agg #[.int .u8 21,.int .u8 y.toNat]] w fun r w'=>r=.returned (.tuple #[])∧Bw_ w w':=by
 obtain⟨W1,aA⟩:=H (w.alloc (.cells #[.int .u8 21,.int .u8 y.toNat] 109));have a8:=ba_ aA;have hx:=bm_ aA;have x0:=hx.c 0;have h1:=h.below a8;obtain⟨a1,n1,aa,ab⟩:=eb (cL.below a8);obtain⟨b1,M,rfl,d0⟩:=ab pc hp;subst aa;rw[ho]at d0;obtain⟨a2,n2,ai,-,bm⟩:=aj (bB.below a8);obtain⟨b2,cP,rfl,d1,-⟩:=bm o az;subst ai;obtain⟨ap,hq⟩:=H (I[o].1);rw[←hq]at d1 aI
 have t9:((ap.toNat:Int) != 22)=true:=by
  rw[bne_iff_ne];intro hh;exact aI (UInt8.toNat_inj.1 (by show ap.toNat=22;omega))
 have c1:W1.cell? ⟨G,1,none⟩=some (.slice (some ⟨b2,cP,none⟩) I.length n2):=h1.c 1;have c4:W1.cell? ⟨G,4,none⟩=some (.slice (some ⟨b1,M,none⟩) own.length n1):=h1.c 4;have c5:W1.cell? ⟨G,5,none⟩=some (F pc):=h1.c 5;have i0:=nn_ pc;have i1:(pc:Int)<own.length:=Y;have i2:(own.length:Int)≤1000:=Y;have i3:=nn_ o;have i4:(o:Int)<I.length:=Y;have i5:(I.length:Int)≤1000:=Y;have a_:=O a8;clear h h1 a8 hx ab bm ho hq aI cL bB;go_enter func191,ntmps191;go_upto_region 1 with fail;rw[←aA];clear aA;go_wp2_with fail;go_quiet (fail);go_wp2_with fail;refine bodyPost_ret (results_none rfl _ _ _) rfl ?_;exact⟨rfl,bt a_.o (II _ _)⟩
theorem oB (y:U8_)(pc o:Nat)(h:RM bZ w G ⟨tv,cv,iv,ev,ow⟩ (pc:Int) st rg (l++[e]) W sv lv J X)(hl:st.length≤900)(dc:l.length≤900)(aK:e.ps.length≤2000){own:LI_}{I:LJ_}(cL:bD.Row w ow own)(bB:bH.Row w cv I)(hp:pc<own.length)(b4:own.length≤1000)(bx:I.length≤1000)(ho:own[pc]=(o:Int))(az:o<I.length)(aI:I[o].1=22):C_ 191 #[p_ G,.agg #[.int .u8 21,.int .u8 y.toNat]] w fun r w'=>r=.returned (.tuple #[]) ∧((e.ps=[]∧∃ ao,RM bZ w' G ⟨tv,cv,iv,ev,ow⟩ (pc:Int) st rg l W sv ao J X) ∨ (∃ p ps,e.ps=p::ps∧∃ V ao e',e'.at_=e.at_∧e'.ps=ps∧RM bZ w' G ⟨tv,cv,iv,ev,ow⟩ (e.at_:Int) ((true,0,p)::st) rg (l++[e']) W V ao J X))∧B_ bZ w w':=by
 obtain⟨W1,aA⟩:=H (w.alloc (.cells #[.int .u8 21,.int .u8 y.toNat] 109));have a8:=ba_ aA;have hx:=bm_ aA;have x0:=hx.c 0;have h1:=h.below a8;obtain⟨a1,n1,aa,ab⟩:=eb (cL.below a8);obtain⟨b1,M,rfl,d0⟩:=ab pc hp;subst aa;rw[ho]at d0;obtain⟨a2,n2,ai,-,bm⟩:=aj (bB.below a8);obtain⟨b2,cP,rfl,d1,-⟩:=bm o az;subst ai;obtain⟨ap,hq⟩:=H (I[o].1);rw[←hq]at d1 aI;have t9:((ap.toNat:Int) != 22)=false:=by rw[aI];rfl
 have c1:W1.cell? ⟨G,1,none⟩=some (.slice (some ⟨b2,cP,none⟩) I.length n2):=h1.c 1;have c4:W1.cell? ⟨G,4,none⟩=some (.slice (some ⟨b1,M,none⟩) own.length n1):=h1.c 4;have c5:W1.cell? ⟨G,5,none⟩=some (F pc):=h1.c 5;have i0:=nn_ pc;have i1:(pc:Int)<own.length:=Y;have i2:(own.length:Int)≤1000:=Y;have i3:=nn_ o;have i4:(o:Int)<I.length:=Y;have i5:(I.length:Int)≤1000:=Y;have a_:=O (a8.mono h.size);obtain⟨_,⟨oa,oc,ax⟩,_⟩:=h1.slices;rw[Jh,JJ]at ax;subst ax;have H1:=O h1;clear h h1 a8 hx ab bm ho hq aI cL bB;go_enter func191,ntmps191;go_upto_region 1 with fail;rw[←aA];clear aA;go_wp2_with fail;go_quiet (fail);go_upto_region 16 with fail;obtain⟨W2,ae⟩:=H (W1.drewN nq);have aY:Bw_ W1 W2:=by rw[ae];exact II _ _
 rw[←ae];have N:=H1.o.below aY;have a9:=O (a_.o.trans (aY.mono H1.o.size));clear ae aY c1 c4 c5 d0 d1 i1 i2 i3 i4 i5 t9 x0 H1;have ag:W2.cell? ⟨G,31,none⟩=some (.slice oa (l.length+1) oc):=N.cellR (k:=0) rfl;obtain⟨a',ah,hv,-,bm⟩:=Rec.Row.open N.ol.row;obtain⟨b,aL,ha,hu⟩:=bm l.length i_;rw[Jh,JJ]at hv;injection hv with e1 e2 e3
 subst e1 e3 ha;clear e2;have hg:(l++[e])[l.length]' i_=e:=by simp
 rw[hg]at hu;have d0:=hu 0 _ rfl;have d1:=hu 1 _ rfl
 change W2.cell? ⟨b,aL+l.length*2,none⟩=_ at d0
 change W2.cell? ⟨b,aL+l.length*2+1,none⟩=_ at d1
 obtain⟨er,-⟩:=N.ow.1 e i_;obtain⟨ea,s,ar,-,-⟩:=au er;have bi:e.n=e.ps.length:=by unfold loV at ar;injection ar
 rw[bi]at d1;have bq:G<W2.heap.size:=N.blk.lt;have bo:b<W2.heap.size:=aG d0;have be:((l.length:Int)+1)-1=(l.length:Int):=Y;have a0:0≤(l.length:Int):=Y;have a4:(l.length:Int)<(l.length:Int)+1:=Y;have b6:(l.length:Int)≤900:=Y;have j:=O N;have bf:=O bi;clear N hu bm hg er ar bi;go_region;obtain⟨T,hT⟩:=H W2.heap.size;have bd:bZ≤T:=by rw[hT];exact j.o.size
 obtain⟨W3,aB⟩:=H ((W2.alloc (.cells #[F e.at_,.slice e.ad e.ps.length e.c] 313)).drew)
 have ay:RM bZ W3 G ⟨tv,.slice (some ⟨b2,cP,none⟩) I.length n2,iv,ev,.slice (some ⟨b1,M,none⟩) own.length n1⟩ (pc:Int) st rg (l++[e]) W sv (.slice (some ⟨b,aL,none⟩) (l.length+1) oc) J (X++[aF T bd 313 [F e.at_,.slice e.ad e.ps.length e.c]]):=by
  subst hT;rw[aB];exact(j.o.add [F e.at_,.slice e.ad e.ps.length e.c] 313).below (b_drew _)
 have aW:=O (show B_ bZ w W3 by rw[aB];exact a9.o.trans ((bt (af _ _) (b_drew _)).mono j.o.size));rw[←aB,←hT];clear aB hT j a9 d0 d1 ag bq bo;obtain⟨g,aV⟩:=ay.ol.at0 i_;obtain rfl:aL=0:=by injection aV with h1;injection h1
 clear aV;have ag:W3.cell? ⟨G,31,none⟩=some (.slice (some ⟨b,0,none⟩) (l.length+1) oc):=ay.cellR (k:=0) rfl;have f31:=ay.free (k:=31) d_;have bq:G<W3.heap.size:=ay.blk.lt;have ho:cd.Own W3 bZ (.slice (some ⟨b,0,none⟩) (l++[e]).length oc) (l++[e]):=by rw[Jh,JJ];exact ay.ol
 have aO:=ho.shortRun 294 underlying294 yzg l.length i_;rw[Jh,JJ]at aO
 have ac:cd.Own W3.drew bZ (.slice (some ⟨b,0,none⟩) l.length oc) l:=by
  have:=(ho.below (b_drew W3)).short l.length i_
  rwa [List.take_append_of_le_length i_,I5 i_]at this
 have hn:=(ay.below (b_drew W3)).popL (ao:=.slice (some ⟨b,0,none⟩) l.length oc) (fun k hk=>hk) ac;have HN:=O hn;have d:=O ay;clear ho ac hn ay;go_wp2_with fail;go_region;obtain⟨t,bC⟩:=HN.o;obtain⟨W4,bw⟩:=H ((W3.setCell ⟨G,31,none⟩ (.slice (some ⟨b,0,none⟩) l.length oc)).drew);have t:RM bZ W4 G ⟨tv,.slice (some ⟨b2,cP,none⟩) I.length n2,iv,ev,.slice (some ⟨b1,M,none⟩) own.length n1⟩ (pc:Int) st rg l W sv (.slice (some ⟨b,0,none⟩) l.length oc) J ((X++[aF T bd 313 [F e.at_,.slice e.ad e.ps.length e.c]])++[ir [e]]):=by rw[bw];exact t
 have ba:=O (show B_ bZ w W4 by rw[bw];exact(aW.o.trans ((b_drew W3).mono d.o.size)).trans bC);rw[←bw];clear bw bC HN d aW ag f31 bq aO;have n:Blk W4 T 313 [F e.at_,.slice e.ad e.ps.length e.c]:=t.loc (p:=aF T bd 313 [F e.at_,.slice e.ad e.ps.length e.c]) i_;have aN:(ir (bZ:=bZ) [e]).P W4:=t.loc (p:=ir [e]) i_;obtain⟨t0,t1⟩:=cl2 n
 have bv:aP.Row W4 (.slice e.ad e.ps.length e.c) e.ps:=by
  have:=(aN.1 e i_).1;unfold loV at this
  rwa [bf.o]at this
 have B:=O t;have bA:=O bv;clear t n aN bv
 cases U:e.ps with
 | nil =>
  rw[U]at t1;have bE:=O U;clear U;go_wp2_with fail;refine bodyPost_end (results_none rfl _ _ _) rfl ?_
  first
   | exact⟨rfl,.inl ⟨bE.o,_,B.o.drop.drop⟩,ba.o⟩
   | exact⟨rfl,.inl ⟨rfl,_,B.o.drop.drop⟩,ba.o⟩
 | cons p ps =>
  have m:=bA.o;rw[U]at t1 m aK;have bK:ps.length+1≤2000:=by simpa using aK
  have bE:=O U;obtain⟨bN,bR,bJ,-,bm⟩:=au m;obtain⟨b3,bL,aX,d3⟩:=bm 0 i_;injection bJ with e1 e2 e3
  rw[←e1]at aX;clear e1 e2 e3;have d3:W4.cell? ⟨b3,bL,none⟩=some (s_ p):=d3;rw[aX,Jq]at t1;have bQ:=O aX;have i6:(0:Int)<(ps.length:Int)+1:=Y;have i7:(ps.length:Int)+1≤2000:=Y;clear bm m U aK bK aX;go_upto_region 20 with(first|(go_at_call 196;refine(bG (true,0,p) (B.o.below bP.o) Y).mono ?_;rintro r w6⟨rfl,⟨aC,hm⟩,hB⟩;have i:=O hm;have bn:=O ((ba.o.trans (bP.o.mono B.o.size)).trans hB);clear hm hB)|(go_at_call 197;refine(gd p _).mono ?_;rintro r w5⟨rfl,hB⟩;have bP:=O hB;clear hB));clear d3 t0 t1;have aN:(ir (bZ:=bZ) [e]).P w6:=i.o.loc (p:=ir [e]) i_;have n:Blk w6 T 313 [F e.at_,.slice e.ad e.ps.length e.c]:=i.o.loc (p:=aF T bd 313 [F e.at_,.slice e.ad e.ps.length e.c]) i_;have q:=(aN.1 e i_).1;have bl:=O (show(loV e).ownBlock=(Value.slice e.ad e.ps.length e.c).ownBlock by unfold loV;rw[bf.o]);unfold loV at q;rw[bf.o]at q;obtain⟨av,aE⟩:=H e.ad;obtain⟨cp,bM⟩:=H e.c;rw[←aE,←bM]at q n bl;rw[bE.o]at q n bl;have t0:=n.c 0;have t1:w6.cell? ⟨T,1,none⟩=some (.slice av (ps.length+1) cp):=n.c 1;obtain⟨A,C,u,D,E⟩:=pJ (l:=p::ps) (a:=av) (ah:=cp) q 1 i_;have a5:(p::ps).length-1=ps.length:=by simp
  rw[a5]at u D E;have aO:∀ wx,(Instr.slice 22 (.slice av (ps.length+1) cp) (some (F 1)) none none).run prog wx=.ok (.slice A ps.length C) wx:=fun wx=>u wx;have D:aP.Row w6 (.slice A ps.length C) ps:=D;obtain⟨e',aJ⟩:∃ e':Lo,e'=⟨e.at_,A,ps.length,C,ps⟩:=⟨_,rfl⟩
  have bk:=O (show cd.cell e'=[F e.at_,.slice A ps.length C] by rw[aJ];rfl);have bg:=O (show loV e'=.slice A ps.length C by rw[aJ];rfl);have a6:=O (show e'.at_=e.at_∧e'.ps=ps by rw[aJ];exact⟨rfl,rfl⟩);have aR:=O D;have bh:=O (show ∀ k,(Value.slice A ps.length C).ownBlock=some k→(ir (bZ:=bZ) [e]).fp k from fun k hk=>⟨e,by simp,by rw[bl.o];exact E k hk⟩);obtain⟨_,⟨al,cl,bj⟩,_⟩:=i.o.slices;have ag:w6.cell? ⟨G,31,none⟩=some (.slice (some ⟨b,0,none⟩) l.length oc):=i.o.cellR (k:=0) rfl;have a3:=O i.o.ol;obtain⟨cF,bz⟩:∃ cF:OA_,cF=some ⟨b,0,none⟩:=⟨_,rfl⟩
  rw[←bz]at ag a3;have bI:=O bz;clear aN n q aE bM u a5 D E aJ bj bz i6 i7;refine gF cd l e' 16 [(4,.exact _ (.slice cF l.length oc)),(5,kM cd w6.heap.size l e'),(7,.exact _ (F e.at_)),(9,.exact _ (.slice av (ps.length+1) cp)),(10,.exact _ (.slice A ps.length C)),(12,jr cd w6.heap.size l e'),(13,kL cd w6.heap.size l e')] q_ q_ ?_;simp only[Jw,JE,Ju,JF];refine cG ?_;refine gl1_ ag ?_;refine gk_ (kM cd w6.heap.size l e') (fun w' G hB hS hG=>?_) (fun x K hK=>?_)
  ·refine cd.grow_copy _ _ 294 rfl underlying294 w6.heap.size rfl _ l (a3.o.below hB).row rfl (by show l.length*32≤_;omega) hB.size (fun A C bc ho hb=>hG (A,C) bc (IP hB.size hb) (fun φ h=>by cases h;exact ho))
  obtain⟨ad,c⟩:=x;refine cO ?_;clear hK K;refine gl1_ t0 ?_;refine gl1_ t1 ?_;refine gj_ (fun w' G hB hS hG=>?_) ?_
  ·go_simp;exact hG _ (fd.refl _)
  refine gk_ (jr cd w6.heap.size l e') (fun w' G hB hS hG=>?_) (fun (bb:Nat) K hK=>?_)
  ·go_simp;exact kF hG (by rw[bk.o]) hB.size
  refine cO ?_;clear hK K;refine gk_ (kL cd w6.heap.size l e') (fun w' G hB hS hG=>?_) (fun y K hK=>?_)
  ·have aw:cd.Own w' w6.heap.size (.slice ad l.length c) l:=at1 hS q_
   have aZ:w'.heap[bb]?=some (.cells (cd.cell e').toArray cd.e (0,0)):=at0 hS q_;exact cd.grow_app1 _ _ 294 rfl underlying294 w6.heap.size _ l e' aw rfl bb rfl aZ (by show(l.length+1)*32≤_;omega) hB.size (fun A C bc ho hr=>hG (A,C) bc hr (fun φ h=>by cases h;exact ho))
  obtain⟨aQ,c2⟩:=y;refine cO ?_;clear hK K;refine pA ?_;intro w7 aH bp;have a7:cd.Own w7 w6.heap.size (.slice aQ (l.length+1) c2) (l++[e']):=mn bp;have hn:=i.o.newL (w3:=w7) (ao:=.slice aQ (l.length+1) c2) (e:=e') (IG aH) (fun k hk=>.inr (Rec.Own.ltV a7 k hk).1) (a7.baseLe i.o.size) (fun _=>by rw[bg.o,a6.o.2];exact aR.o.below aH) (fun k hk=>bh.o k (by rw[←bg.o];exact hk));have bF:=hn.2.2.2;have f31:=hn.2.2.1;have HN:=O hn;clear hn a7 aH bp ag t0 t1;go_upto_region 21 with fail;obtain⟨W8,br⟩:=H (w7.setCell ⟨G,31,none⟩ (.slice aQ (l.length+1) c2));rw[←br];have db:=HN.o.1;rw[←br]at db;have aU:=O (show B_ bZ w W8 by rw[br];exact bn.o.trans HN.o.2.1);have n:Blk W8 T 313 [F e.at_,.slice e.ad e.ps.length e.c]:=db.loc (p:=aF T bd 313 [F e.at_,.slice e.ad e.ps.length e.c]) i_;have t0:=n.c 0;have c5:=db.c 5;have f5:=db.free (k:=5) d_;have bO:=O db;clear db n br HN bF f31;go_wp2_with fail;refine bodyPost_end (results_none rfl _ _ _) rfl ?_;obtain⟨m9,b9⟩:=bO.o.setAt (e.at_:Int)
  first
   | exact⟨rfl,.inr ⟨p,ps,bE.o,_,_,e',a6.o.1,a6.o.2,m9.drop⟩,aU.o.trans b9⟩
   | exact⟨rfl,.inr ⟨p,ps,rfl,_,_,e',a6.o.1,a6.o.2,m9.drop⟩,aU.o.trans b9⟩
end
end
section
attribute [local irreducible] wpG
section
variable {bZ G:Nat}{w w' w3:Z}{f:Rf}{ak:Int}{st rg:LR_}{L:List Lo}{W:LX_}{sv V lv ao J aT:V_}{X:List (Pt bZ)}
theorem ye (y:U8_)(h:RM bZ w G f ak st rg L W sv lv J X)(hp:256≤W.length)(au:W.length≤256):C_ 190 #[p_ G,.agg #[.int .u8 23,.int .u8 y.toNat]] w fun e w'=>e=.returned (F 4)∧B_ bZ w w':=by
 obtain⟨_,_,P,pc,rfl⟩:=h.slices;obtain⟨W1,aA⟩:=H (w.alloc (.cells #[.int .u8 23,.int .u8 y.toNat] 109));have a8:=ba_ aA;have hx:=bm_ aA;have x0:=hx.c 0;have aa:W1.cell? ⟨G,32,none⟩=some (.slice P W.length pc):=(h.below a8).cellR (k:=1) rfl;have a_:=O (a8.mono h.size);have t1:256≤(W.length:Int):=Y;have t2:(W.length:Int)≤256:=Y;clear h a8 hx;go_enter func190,ntmps190;go_upto_region 1 with fail;rw[←aA];clear aA;go_wp2_with fail;go_ret;exact⟨rfl,a_.o⟩
theorem Be (y:U8_)(a b:RV)(h:RM bZ w G f ak (b::a::st) rg L W sv lv J X)(hl:st.length≤900)(hp:¬256≤W.length):C_ 190 #[p_ G,.agg #[.int .u8 23,.int .u8 y.toNat]] w fun e w'=>e=.returned (F 0)∧(∃ V aT,RM bZ w' G f ak st rg L (W++[(a.2.2,b.2.2)]) V lv aT X)∧B_ bZ w w':=by
 obtain⟨_,_,P,pc,rfl⟩:=h.slices;obtain⟨W1,aA⟩:=H (w.alloc (.cells #[.int .u8 23,.int .u8 y.toNat] 109));have a8:=ba_ aA;have hx:=bm_ aA;have x0:=hx.c 0;have aa:W1.cell? ⟨G,32,none⟩=some (.slice P W.length pc):=(h.below a8).cellR (k:=1) rfl;have HP:=O (bf b (h.below a8) yza);have a_:=O (a8.mono h.size);have t1:¬256≤(W.length:Int):=Y;have t2:(W.length:Int)≤256:=Y;clear h a8 hx;go_enter func190,ntmps190;go_upto_region 1 with fail;rw[←aA];clear aA;go_upto_region 24 with(go_at_call 186;refine HP.o.mono ?_;rintro r w2⟨rfl,⟨sv,hm⟩,hB⟩;unfold rvV;have HM:=O hm;have HB:=O (a_.o.trans hB);clear hm hB);obtain⟨D,hD⟩:=H w2.heap.size;obtain⟨W2,ae⟩:=H (w2.alloc (.cells (aQ b).toArray 292));have c:bZ≤D:=by rw[hD];exact HM.o.size
 have N:RM bZ W2 G f ak (a::st) rg L W sv lv (.slice P W.length pc) (X++[aF D c 292 (aQ b)]):=by subst hD;rw[ae];exact HM.o.add (aQ b) 292
 have a9:=O (show B_ bZ w W2 by rw[ae];exact HB.o.trans ((af _ _).mono HM.o.size));have I:=O (bf a N Y);have hg:w2.alloc (.cells #[.bool b.1,F b.2.1,s_ b.2.2] 292)=W2:=ae.symm;rw[hg,←hD];clear hg ae hD N HM HB aa x0;go_upto_region 25 with(go_at_call 186;refine I.o.mono ?_;rintro r w3⟨rfl,⟨m,hm⟩,hB⟩;unfold rvV;have d:=O hm;have aW:=O (a9.o.trans hB);clear hm hB);obtain⟨x,n⟩:=H w3.heap.size;obtain⟨W3,aB⟩:=H (w3.alloc (.cells (aQ a).toArray 292));have j:bZ≤x:=by rw[n];exact d.o.size
 have ay:RM bZ W3 G f ak st rg L W m lv (.slice P W.length pc) ((X++[aF D c 292 (aQ b)])++[aF x j 292 (aQ a)]):=by subst n;rw[aB];exact d.o.add (aQ a) 292
 have ba:=O (show B_ bZ w W3 by rw[aB];exact aW.o.trans ((af _ _).mono d.o.size));have hg:w3.alloc (.cells #[.bool a.1,F a.2.1,s_ a.2.2] 292)=W3:=aB.symm;rw[hg,←n];clear hg aB n d aW;obtain⟨d0,d1,d2,u⟩:=ay.atB (D:=D) (hD:=c) (v:=b) i_;obtain⟨e0,e1,e2,le⟩:=ay.atB (D:=x) (hD:=j) (v:=a) i_;have aa:W3.cell? ⟨G,32,none⟩=some (.slice P W.length pc):=ay.cellR (k:=1) rfl;have bq:G<W3.heap.size:=ay.blk.lt;have o:=ay.below (b_drew W3);have bB:bZ≤W3.drew.heap.size:=o.size;have aS:(W.length+1)*32≤140737488355328:=Y;have aE:=o.op;have q:=O o;have d:=O ay;clear o ay;go_region_law (refine recKq.step_append1V W3.drew (a.2.2,b.2.2) rfl _ _ 29 rfl underlying29 bZ (.slice P W.length pc) W rfl aE _ rfl _ rfl _ rfl aS bB ?_;intro g gc w4 aw hc hg;have hn:=q.o.newP (aT:=.slice (some ⟨g,0,none⟩) (W.length+1) gc) (l:=W++[(a.2.2,b.2.2)]) hc (fun k hk=>by cases hk;exact hg) aw;have f32:=hn.2.2.1;have i:=hn.2.2.2;have HN:=O hn;clear hn aw hc hg)
 all_goals
  (try simp only[JM,Jd,Jm])
  (try go_frame)
  go_wp2_with fail;go_ret;exact⟨rfl,⟨_,_,HN.o.1.drop.drop⟩,(ba.o.trans ((b_drew W3).mono d.o.size)).trans HN.o.2.1⟩
end
end
section
attribute [local irreducible] wpG
section
variable {bZ G:Nat}{w w' w3:Z}{f:Rf}{ak:Int}{st rg:LR_}{L:List Lo}{W:LX_}{sv V lv ao J aT:V_}{X:List (Pt bZ)}
theorem vd (y:U8_)(b a t:RV)(h:RM bZ w G f ak (b::a::t::st) rg L W sv lv J X)(hl:st.length≤900)(hb:vOk b.2)(ha:vOk a.2)(ht:vOk t.2):C_ 190 #[p_ G,.agg #[.int .u8 6,.int .u8 y.toNat]] w fun e w'=>e=.returned (F 0)∧(∃ V,RM bZ w' G f ak ((true,0,im t.2.2 a.2.1 b.2.1)::st) rg L W V lv J X)∧B_ bZ w w':=by
 obtain⟨W1,aA⟩:=H (w.alloc (.cells #[.int .u8 6,.int .u8 y.toNat] 109));have a8:=ba_ aA;have hx:=bm_ aA;have x0:=hx.c 0;have HP:=O (bf b (h.below a8) yza);have a_:=O (a8.mono h.size);clear h a8 hx;go_enter func190,ntmps190;go_upto_region 1 with fail;rw[←aA];clear aA;go_upto_region 12 with(go_at_call 186;refine HP.o.mono ?_;rintro r w2⟨rfl,⟨sv,hm⟩,hB⟩;unfold rvV;have HM:=O hm;have HB:=O (a_.o.trans hB);clear hm hB);obtain⟨D,hD⟩:=H w2.heap.size;obtain⟨W2,ae⟩:=H (w2.alloc (.cells (aQ b).toArray 292));have c:bZ≤D:=by rw[hD];exact HM.o.size
 have N:RM bZ W2 G f ak (a::t::st) rg L W sv lv J (X++[aF D c 292 (aQ b)]):=by subst hD;rw[ae];exact HM.o.add (aQ b) 292
 have a9:=O (show B_ bZ w W2 by rw[ae];exact HB.o.trans ((af _ _).mono HM.o.size));have I:=O (bf a N yza);have hg:w2.alloc (.cells #[.bool b.1,F b.2.1,s_ b.2.2] 292)=W2:=ae.symm;rw[hg,←hD];clear hg ae hD N HM HB x0;go_upto_region 13 with(go_at_call 186;refine I.o.mono ?_;rintro r w3⟨rfl,⟨m,hm⟩,hB⟩;unfold rvV;have d:=O hm;have aW:=O (a9.o.trans hB);clear hm hB);obtain⟨x,n⟩:=H w3.heap.size;obtain⟨W3,aB⟩:=H (w3.alloc (.cells (aQ a).toArray 292));have j:bZ≤x:=by rw[n];exact d.o.size
 have ay:RM bZ W3 G f ak (t::st) rg L W m lv J ((X++[aF D c 292 (aQ b)])++[aF x j 292 (aQ a)]):=by subst n;rw[aB];exact d.o.add (aQ a) 292
 have ba:=O (show B_ bZ w W3 by rw[aB];exact aW.o.trans ((af _ _).mono d.o.size));have hg:w3.alloc (.cells #[.bool a.1,F a.2.1,s_ a.2.2] 292)=W3:=aB.symm;rw[hg,←n];clear hg aB n d aW;obtain⟨d0,d1,d2,u⟩:=ay.atB (D:=D) (hD:=c) (v:=b) i_;obtain⟨e0,e1,e2,le⟩:=ay.atB (D:=x) (hD:=j) (v:=a) i_;have d:=O ay;have z:=O (bf t (ay.below (b_drew W3)) Y);have bE:=O (fun w'=>A7 t.2.2 a.2.1 b.2.1 w' ht.2.2 ⟨ha.1,ha.2.1⟩ ⟨hb.1,hb.2.1⟩);obtain⟨ap,hq⟩:=H (im t.2.2 a.2.1 b.2.1);rw[←hq]at bE;have HQ:=O hq;clear ay hq hb ha ht
 go_region_law (first
  | (refine aN rfl 196 #[p_ G,rvV (true,0,ap)] yzc (bG (true,0,ap) i.o Y) ?_;rintro r w7⟨rfl,⟨a7,hm⟩,hB⟩;have aZ:=O hm;have aK:=O (bn.o.trans hB);clear hm hB)
  | (refine aN rfl 197 #[s_ ap] yzc (gd ap w5) ?_;rintro r w6⟨rfl,hB⟩;have i:=O (B.o.below (bt bP.o hB));obtain⟨d0,d1,d2,u⟩:=i.o.atB (D:=D) (hD:=c) (v:=b) i_;obtain⟨e0,e1,e2,le⟩:=i.o.atB (D:=x) (hD:=j) (v:=a) i_;have bn:=O (aJ.o.trans ((bt bP.o hB).mono B.o.size));clear hB)
  | (refine aN rfl 201 #[s_ t.2.2,F a.2.1,F b.2.1] yzc (bE.o w4) ?_;rintro r w5⟨rfl,hB⟩;have bP:=O hB;clear hB)
  | (refine aN rfl 186 #[p_ G] yzc z.o ?_;rintro r w4⟨rfl,⟨o,hm⟩,hB⟩;unfold rvV;obtain⟨d0,d1,d2,u⟩:=hm.atB (D:=D) (hD:=c) (v:=b) i_;obtain⟨e0,e1,e2,le⟩:=hm.atB (D:=x) (hD:=j) (v:=a) i_;have B:=O hm;have aJ:=O ((ba.o.trans ((b_drew W3).mono d.o.size)).trans hB);clear hm hB))
 all_goals
  (try simp only[JM,Jd,Jm])
  (try go_frame)
  go_wp2_with fail;go_ret;rw[←HQ.o];exact⟨rfl,⟨_,aZ.o.drop.drop⟩,aK.o⟩
end
end
section
attribute [local irreducible] wpG
section
variable {bZ G:Nat}{w w' w3:Z}{f:Rf}{ak:Int}{st rg:LR_}{L:List Lo}{W:LX_}{tv cv iv ev ow sv V lv ao J aT:V_}{X:List (Pt bZ)}
theorem Bh (n:Nat)(y:U8_)(w:Z)(hn:n≠1∧n≠2∧n≠3∧n≠14∧n≠15∧n≠16∧n≠17∧n≠18):R_ 188 #[p_ G,.agg #[.int .u8 n,.int .u8 y.toNat]] w (.tuple #[]):=by
 have t1:((n:Int)==1)=false:=by rw[beq_eq_false_iff_ne];omega
 have t2:((n:Int)==2)=false:=by rw[beq_eq_false_iff_ne];omega
 have t3:((n:Int)==3)=false:=by rw[beq_eq_false_iff_ne];omega
 have t4:((n:Int)==14)=false:=by rw[beq_eq_false_iff_ne];omega
 have t5:((n:Int)==15)=false:=by rw[beq_eq_false_iff_ne];omega
 have t6:((n:Int)==16)=false:=by rw[beq_eq_false_iff_ne];omega
 have t7:((n:Int)==17)=false:=by rw[beq_eq_false_iff_ne];omega
 have t8:((n:Int)==18)=false:=by rw[beq_eq_false_iff_ne];omega
 clear hn;go_enter func188,ntmps188;go_wp2_with fail;refine bodyPost_end (results_none rfl _ _ _) rfl ?_;exact⟨rfl,af _ _⟩
theorem K7 {T:Prop} (h:T:=by
 go_wp2_with fail;refine bodyPost_end (results_none rfl _ _ _) rfl ?_;rw[HG.o];exact⟨rfl,⟨_,q.o⟩,aJ.o⟩
):T:=h
theorem u6 (y:U8_)(h:RM bZ w G ⟨tv,cv,iv,ev,ow⟩ ak st rg L W sv lv J X)(hl:st.length≤900){l:LL_}(ht:aP.Row w tv l)(hy:y.toNat<l.length)(a0:l.length≤1000):C_ 188 #[p_ G,.agg #[.int .u8 1,.int .u8 y.toNat]] w fun e w'=>e=.returned (.tuple #[])∧(∃ V,RM bZ w' G ⟨tv,cv,iv,ev,ow⟩ ak ((true,0,l.getD y.toNat [])::st) rg L W V lv J X)∧B_ bZ w w':=by
 obtain⟨W1,aA⟩:=H (w.alloc (.cells #[.int .u8 1,.int .u8 y.toNat] 109));have a8:=ba_ aA;obtain⟨D,hD⟩:=H w.heap.size;have hx:=bn_ hD aA;obtain⟨x0,x1⟩:=cl2 hx;obtain⟨a,n,rfl,-,hc⟩:=au (ht.below a8);obtain⟨b,aL,rfl,d0⟩:=hc y.toNat hy;have hg:l.getD y.toNat []=l[y.toNat]:=by rw[List.getD_eq_getElem?_getD,List.getElem?_eq_getElem hy];rfl
 obtain⟨u,hu⟩:=H (l[y.toNat]);rw[←hu]at d0 hg;have h1:=h.below a8;have c0:W1.cell? ⟨G,0,none⟩=some (.slice (some ⟨b,aL,none⟩) l.length n):=h1.c 0;have i0:0≤(y.toNat:Int):=Y;have i1:(y.toNat:Int)<l.length:=Y;have i2:(l.length:Int)≤1000:=Y;obtain⟨HG,H1,a_,HS⟩:=zH4 hg h1 (a8.mono h.size) h.size;clear h h1 hg ht hc hu a8 hx;go_enter func188,ntmps188;go_upto_region 1 with fail;rw[←aA,←hD];clear aA hD;go_wp2_with fail;go_region_law (first|(refine aN rfl 196 #[p_ G,rvV (true,0,u)] yzc (bG (true,0,u) (H1.o.below ba.o) Y) ?_;rintro r w5⟨rfl,⟨bi,hm⟩,hB⟩;have q:=O hm;have aJ:=O ((a_.o.trans (ba.o.mono H1.o.size)).trans hB);clear hm hB)|(refine aN rfl 197 #[s_ u] yzc (gd u W1.drew) ?_;rintro r w4⟨rfl,hB⟩;have ba:=O (bt (b_drew W1) hB);clear hB))
 all_goals
  (try simp only[JM,Jd,Jm])
  (try go_frame)
  exact K7
theorem tP (y:U8_)(h:RM bZ w G ⟨tv,cv,iv,ev,ow⟩ ak st rg L W sv lv J X)(hl:st.length≤900){l:LL_}(ht:aP.Row w iv l)(hy:y.toNat<l.length)(a0:l.length≤1000):C_ 188 #[p_ G,.agg #[.int .u8 3,.int .u8 y.toNat]] w fun e w'=>e=.returned (.tuple #[])∧(∃ V,RM bZ w' G ⟨tv,cv,iv,ev,ow⟩ ak ((true,0,l.getD y.toNat [])::st) rg L W V lv J X)∧B_ bZ w w':=by
 obtain⟨W1,aA⟩:=H (w.alloc (.cells #[.int .u8 3,.int .u8 y.toNat] 109));have a8:=ba_ aA;obtain⟨D,hD⟩:=H w.heap.size;have hx:=bn_ hD aA;obtain⟨x0,x1⟩:=cl2 hx;obtain⟨a,n,rfl,-,hc⟩:=au (ht.below a8);obtain⟨b,aL,rfl,d0⟩:=hc y.toNat hy;have hg:l.getD y.toNat []=l[y.toNat]:=by rw[List.getD_eq_getElem?_getD,List.getElem?_eq_getElem hy];rfl
 obtain⟨u,hu⟩:=H (l[y.toNat]);rw[←hu]at d0 hg;have h1:=h.below a8;have c0:W1.cell? ⟨G,2,none⟩=some (.slice (some ⟨b,aL,none⟩) l.length n):=h1.c 2;have i0:0≤(y.toNat:Int):=Y;have i1:(y.toNat:Int)<l.length:=Y;have i2:(l.length:Int)≤1000:=Y;obtain⟨HG,H1,a_,HS⟩:=zH4 hg h1 (a8.mono h.size) h.size;clear h h1 hg ht hc hu a8 hx;go_enter func188,ntmps188;go_upto_region 1 with fail;rw[←aA,←hD];clear aA hD;go_wp2_with fail;go_region_law (first|(refine aN rfl 196 #[p_ G,rvV (true,0,u)] yzc (bG (true,0,u) (H1.o.below ba.o) Y) ?_;rintro r w5⟨rfl,⟨bi,hm⟩,hB⟩;have q:=O hm;have aJ:=O ((a_.o.trans (ba.o.mono H1.o.size)).trans hB);clear hm hB)|(refine aN rfl 197 #[s_ u] yzc (gd u W1.drew) ?_;rintro r w4⟨rfl,hB⟩;have ba:=O (bt (b_drew W1) hB);clear hB))
 all_goals
  (try simp only[JM,Jd,Jm])
  (try go_frame)
  exact K7
theorem xZ (y:U8_)(h:RM bZ w G f ak st rg L W sv lv J X)(hl:st.length≤900):C_ 188 #[p_ G,.agg #[.int .u8 2,.int .u8 y.toNat]] w fun e w'=>e=.returned (.tuple #[])∧(∃ V,RM bZ w' G f ak ((false,(y.toNat:Int),[])::st) rg L W V lv J X)∧B_ bZ w w':=by
 obtain⟨W1,aA⟩:=H (w.alloc (.cells #[.int .u8 2,.int .u8 y.toNat] 109));have a8:=ba_ aA;obtain⟨D1,s⟩:=H w.heap.size;have hx:=bn_ s aA;obtain⟨x0,x1⟩:=cl2 hx;have a_:=O (a8.mono h.size);have H1:=O (h.below a8);have cw:wrap64 (y.toNat:Int)=(y.toNat:Int):=by have:=y.toNat_lt;unfold wrap64;omega
 have bO:=O cw;clear h a8 hx;go_enter func188,ntmps188;go_upto_region 1 with fail;rw[←aA,←s];clear aA s;go_wp2_with (first|(go_at_call 196;refine(bG (false,(y.toNat:Int),[]) B.o Y).mono ?_;rintro r w5⟨rfl,⟨bi,hm⟩,hB⟩;have q:=O hm;have aJ:=O (ba.o.trans hB);clear hm hB)|(go_at_call 198;refine(jl (y.toNat:Int) _).mono ?_;rintro r w4⟨rfl,hB⟩;have B:=O (H1.o.below hB);have ba:=O (a_.o.trans (hB.mono H1.o.size));clear hB));refine bodyPost_end (results_none rfl _ _ _) rfl ?_;exact⟨rfl,⟨_,q.o⟩,aJ.o⟩
theorem vB (y:U8_)(a:RV)(h:RM bZ w G f ak (a::st) rg L W sv lv J X)(hl:st.length≤900):C_ 188 #[p_ G,.agg #[.int .u8 14,.int .u8 y.toNat]] w fun e w'=>e=.returned (.tuple #[])∧(∃ V,RM bZ w' G f ak st rg L W V lv J X)∧B_ bZ w w':=by
 obtain⟨W1,aA⟩:=H (w.alloc (.cells #[.int .u8 14,.int .u8 y.toNat] 109));have a8:=ba_ aA;obtain⟨D1,s⟩:=H w.heap.size;have hx:=bn_ s aA;obtain⟨x0,x1⟩:=cl2 hx;have a_:=O (a8.mono h.size);have HP:=O (bf a (h.below a8) Y);clear h a8 hx;go_enter func188,ntmps188;go_upto_region 1 with fail;rw[←aA,←s];clear aA s;go_wp2_with (go_at_call 186;refine HP.o.mono ?_;rintro r w2⟨rfl,⟨sv,hm⟩,hB⟩;unfold rvV;have HM:=O hm;have HB:=O hB;clear hm hB);refine bodyPost_end (results_none rfl _ _ _) rfl ?_;exact⟨rfl,⟨_,HM.o⟩,a_.o.trans HB.o⟩
theorem yh (y:U8_)(a:RV)(h:RM bZ w G f ak (a::st) rg L W sv lv J X)(hl:st.length≤900):C_ 188 #[p_ G,.agg #[.int .u8 15,.int .u8 y.toNat]] w fun e w'=>e=.returned (.tuple #[])∧(∃ V,RM bZ w' G f ak (a::a::st) rg L W V lv J X)∧B_ bZ w w':=by
 obtain⟨W1,aA⟩:=H (w.alloc (.cells #[.int .u8 15,.int .u8 y.toNat] 109));have a8:=ba_ aA;obtain⟨D1,s⟩:=H w.heap.size;have hx:=bn_ s aA;obtain⟨x0,x1⟩:=cl2 hx;have a_:=O (a8.mono h.size);have HP:=O (bf a (h.below a8) Y);clear h a8 hx;go_enter func188,ntmps188;go_upto_region 1 with fail;rw[←aA,←s];clear aA s;go_upto_region 12 with(go_at_call 186;refine HP.o.mono ?_;rintro r w2⟨rfl,⟨sv,hm⟩,hB⟩;unfold rvV;have HM:=O hm;have HB:=O (a_.o.trans hB);clear hm hB);obtain⟨D,hD⟩:=H w2.heap.size;obtain⟨W2,ae⟩:=H (w2.alloc (.cells (aQ a).toArray 292));have c:bZ≤D:=by rw[hD];exact HM.o.size
 have N:RM bZ W2 G f ak (st) rg L W sv lv J (X++[aF D c 292 (aQ a)]):=by subst hD;rw[ae];exact HM.o.add (aQ a) 292
 have a9:=O (show B_ bZ w W2 by rw[ae];exact HB.o.trans ((af _ _).mono HM.o.size));have hg:w2.alloc (.cells #[.bool a.1,F a.2.1,s_ a.2.2] 292)=W2:=ae.symm;rw[hg,←hD];clear hg ae hD HM HB;obtain⟨d0,d1,d2,u⟩:=N.atB (D:=D) (hD:=c) (v:=a) i_;have j:=O N;clear N;go_upto_region 13 with(go_at_call 196;refine(bG a j.o Y).mono ?_;rintro r w3⟨rfl,⟨m,hm⟩,hB⟩;have d:=O hm;have aW:=O (a9.o.trans hB);clear hm hB);clear d0 d1 d2 u;obtain⟨d0,d1,d2,u⟩:=d.o.atB (D:=D) (hD:=c) (v:=a) i_;go_wp2_with (go_at_call 196;refine(bG a d.o yza).mono ?_;rintro r w4⟨rfl,⟨o,hm⟩,hB⟩;have B:=O hm;have ba:=O (aW.o.trans hB);clear hm hB);refine bodyPost_end (results_none rfl _ _ _) rfl ?_;exact⟨rfl,⟨_,B.o.drop⟩,ba.o⟩
theorem u9 (y:U8_)(a b:RV)(h:RM bZ w G f ak (b::a::st) rg L W sv lv J X)(hl:st.length≤900):C_ 188 #[p_ G,.agg #[.int .u8 16,.int .u8 y.toNat]] w fun e w'=>e=.returned (.tuple #[])∧(∃ V,RM bZ w' G f ak (a::b::st) rg L W V lv J X)∧B_ bZ w w':=by
 obtain⟨W1,aA⟩:=H (w.alloc (.cells #[.int .u8 16,.int .u8 y.toNat] 109));have a8:=ba_ aA;obtain⟨D1,s⟩:=H w.heap.size;have hx:=bn_ s aA;obtain⟨x0,x1⟩:=cl2 hx;have a_:=O (a8.mono h.size);have HP:=O (bf b (h.below a8) yza);clear h a8 hx;go_enter func188,ntmps188;go_upto_region 1 with fail;rw[←aA,←s];clear aA s;go_upto_region 16 with(go_at_call 186;refine HP.o.mono ?_;rintro r w2⟨rfl,⟨sv,hm⟩,hB⟩;unfold rvV;have HM:=O hm;have HB:=O (a_.o.trans hB);clear hm hB);obtain⟨D,hD⟩:=H w2.heap.size;obtain⟨W2,ae⟩:=H (w2.alloc (.cells (aQ b).toArray 292));have c:bZ≤D:=by rw[hD];exact HM.o.size
 have N:RM bZ W2 G f ak (a::st) rg L W sv lv J (X++[aF D c 292 (aQ b)]):=by subst hD;rw[ae];exact HM.o.add (aQ b) 292
 have a9:=O (show B_ bZ w W2 by rw[ae];exact HB.o.trans ((af _ _).mono HM.o.size));have hg:w2.alloc (.cells #[.bool b.1,F b.2.1,s_ b.2.2] 292)=W2:=ae.symm;rw[hg,←hD];clear hg ae hD HM HB;have I:=O (bf a N Y);clear N;go_upto_region 17 with(go_at_call 186;refine I.o.mono ?_;rintro r w3⟨rfl,⟨m,hm⟩,hB⟩;unfold rvV;have d:=O hm;have aW:=O (a9.o.trans hB);clear hm hB);obtain⟨x,n⟩:=H w3.heap.size;obtain⟨W3,aB⟩:=H (w3.alloc (.cells (aQ a).toArray 292));have j:bZ≤x:=by rw[n];exact d.o.size
 have ay:RM bZ W3 G f ak st rg L W m lv J ((X++[aF D c 292 (aQ b)])++[aF x j 292 (aQ a)]):=by subst n;rw[aB];exact d.o.add (aQ a) 292
 have ba:=O (show B_ bZ w W3 by rw[aB];exact aW.o.trans ((af _ _).mono d.o.size));have hg:w3.alloc (.cells #[.bool a.1,F a.2.1,s_ a.2.2] 292)=W3:=aB.symm;rw[hg,←n];clear hg aB n d aW;obtain⟨d0,d1,d2,u⟩:=ay.atB (D:=D) (hD:=c) (v:=b) i_;have d:=O ay;clear ay;go_upto_region 18 with(go_at_call 196;refine(bG b d.o Y).mono ?_;rintro r w5⟨rfl,⟨bi,hm⟩,hB⟩;have q:=O hm;have aJ:=O (ba.o.trans hB);clear hm hB);clear d0 d1 d2 u;obtain⟨e0,e1,e2,le⟩:=q.o.atB (D:=x) (hD:=j) (v:=a) i_;go_wp2_with (go_at_call 196;refine(bG a q.o yza).mono ?_;rintro r w6⟨rfl,⟨aC,hm⟩,hB⟩;have i:=O hm;have bn:=O (aJ.o.trans hB);clear hm hB);refine bodyPost_end (results_none rfl _ _ _) rfl ?_;exact⟨rfl,⟨_,i.o.drop.drop⟩,bn.o⟩
theorem yc (y:U8_)(hy:y.toNat<8)(h:RM bZ w G f ak st rg L W sv lv J X)(hl:st.length≤900):C_ 188 #[p_ G,.agg #[.int .u8 17,.int .u8 y.toNat]] w fun e w'=>e=.returned (.tuple #[])∧(∃ V,RM bZ w' G f ak (rg.getD y.toNat (false,0,[])::st) rg L W V lv J X)∧B_ bZ w w':=by
 obtain⟨W1,aA⟩:=H (w.alloc (.cells #[.int .u8 17,.int .u8 y.toNat] 109));have a8:=ba_ aA;obtain⟨D1,s⟩:=H w.heap.size;have hx:=bn_ s aA;obtain⟨x0,x1⟩:=cl2 hx;have a_:=O (a8.mono h.size);have H1:=O (h.below a8);obtain⟨q0,q1,q2⟩:=H1.o.reg hy;have bq:G<W1.heap.size:=H1.o.blk.lt;have i0:0≤(y.toNat:Int):=Y;have i1:(y.toNat:Int)<8:=Y;obtain⟨v,hv⟩:=H (rg.getD y.toNat (false,0,[]));rw[←hv]at q0 q1 q2;have HV:=O hv;clear h a8 hx hv;go_enter func188,ntmps188;go_upto_region 1 with fail;rw[←aA,←s];clear aA s;go_wp2_with fail;go_region_law (refine aN rfl 196 #[p_ G,rvV v] (by go_simp;rfl) (bG v (H1.o.below (b_drew W1)) Y) ?_;rintro r w5⟨rfl,⟨bi,hm⟩,hB⟩;have q:=O hm;have aJ:=O ((a_.o.trans ((b_drew W1).mono H1.o.size)).trans hB);clear hm hB)
 all_goals
  (try simp only[JM,Jd,Jm])
  (try go_frame)
  go_wp2_with fail;refine bodyPost_end (results_none rfl _ _ _) rfl ?_;rw[←HV.o];exact⟨rfl,⟨_,q.o⟩,aJ.o⟩
end
end
section
attribute [local irreducible] wpG
theorem zp {P:Program}{aM:Array Oper}{rest:LO_}{op:Oper}{a:Act}{w:Z}{Q:Exit→Act→Z→Prop}(b:Nat)(cs g:LV_){t:T_}(h:Blk w b t cs)(av:op.guard=none)(ty:T_)(x y:Operand)(ho:op.op=.store ty x y)(hx:a.eval x=p_ b)(hy:a.eval y=.agg g.toArray)(hi:(P.info? ty).map (·.size)=some g.length)(hl:cs.length=g.length)(h1:g.toArray.all (·.oneCell')=true)(k:∀ w',Hid (w.setRow b g.toArray=w')→wpList P aM Q rest (a.put op.dst undef) w'):wpList P aM Q (op::rest) a w :=
 jw b cs g h av ty x y ho hx hy hi hl h1 (k _ rfl)
def setL:LV_→Nat→LV_→LV_
 | cs,_,[]=>cs
 | cs,o,v::r=>setL (cs.set o v) (o+1) r
theorem Blk.setCells {b:Nat}{t:T_}:∀ (vs:LV_) (o:Nat) (w:Z) (cs:LV_),Blk w b t cs→Blk (w.setCells b o vs) b t (setL cs o vs)
 | [],_,_,_,h=>h
 | v::r,o,w,cs,h=>Blk.setCells r (o+1) (w.setCell ⟨b,o,none⟩ v) (cs.set o v) (h.set o v)
theorem Chg.setCells {b:Nat}:∀ (vs:LV_) (o:Nat) (w:Z),Chg (fun k=>k=b) w (w.setCells b o vs)
 | [],_,_=>Chg.refl _ _
 | v::r,o,w=>by
  have h1:Chg (fun k=>k=b) w (w.setCell ⟨b,o,none⟩ v):=Chg.setCell w ⟨b,o,none⟩ v rfl;exact h1.trans (Chg.setCells r (o+1) _)
theorem AU {f:Rf}{ak:Int}{sv lv J:V_}{rg an:LR_}(h:rg.length=8)(h':an.length=8):setL (cF f ak sv rg lv J) 7 (aY.cells an)=cF f ak sv an lv J:=by
 obtain⟨a,b,c,d,e,g,i,j,rfl⟩:=gP h;obtain⟨a',b',c',m,e',D,u,j',rfl⟩:=gP h'
 kernel_rfl
theorem ik {rg:LR_}(h:rg.length=8):(aY.cells rg).length=24:=by rw[Rec.cells_length,h];rfl
theorem vw (rg:LR_):(aY.cells rg).toArray.all (·.oneCell')=true:=all_oneCell_toArray (aY.cells_one rg)
def xy:LV_:=[.bool false,.int .i64 0,.string ⟨#[]⟩,.bool false,.int .i64 0,.string ⟨#[]⟩,.bool false,.int .i64 0,.string ⟨#[]⟩,.bool false,.int .i64 0,.string ⟨#[]⟩,.bool false,.int .i64 0,.string ⟨#[]⟩,.bool false,.int .i64 0,.string ⟨#[]⟩,.bool false,.int .i64 0,.string ⟨#[]⟩,.bool false,.int .i64 0,.string ⟨#[]⟩]
theorem lj {rg:LR_}(h:rg.length=8):(prog.info? 293).map (·.size)=some (aY.cells rg).length:=by rw[ik h];kernel_rfl
theorem C9 {rg:LR_}{i:Nat}(hi:i<rg.length)(v:RV):(((aY.cells rg).set (i*3) (.bool v.1)).set (i*3+1) (F v.2.1)).set (i*3+2) (s_ v.2.2)=aY.cells (rg.set i v):=by
 induction rg generalizing i with
 | nil=>simp at hi
 | cons x rg H =>
  cases i with
  | zero=>rfl
  | succ i =>
   have e0:(i+1)*3=i*3+3:=Y;have:=H (i:=i) yzm;rw[e0];show(((_::_::_::aY.cells rg).set (i*3+3) _).set (i*3+3+1) _).set (i*3+3+2) _=_::_::_::aY.cells (rg.set i v);rw[←this]
   rfl
theorem mv3 {w:Z}{T:Nat}{t:T_}{rg:LR_}(hb:Blk w T t (aY.cells rg))(i:Nat)(v:RV)(hi:i<rg.length):Blk (((w.setCell ⟨T,i*3,none⟩ (.bool v.1)).setCell ⟨T,i*3+1,none⟩ (F v.2.1)).setCell ⟨T,i*3+2,none⟩ (s_ v.2.2)) T t (aY.cells (rg.set i v)) ∧Chg (fun k=>k=T) w (((w.setCell ⟨T,i*3,none⟩ (.bool v.1)).setCell ⟨T,i*3+1,none⟩ (F v.2.1)).setCell ⟨T,i*3+2,none⟩ (s_ v.2.2)):=by
 refine⟨?_,Chg.trans (Chg.trans (Chg.setCell w ⟨T,i*3,none⟩ _ rfl) (Chg.setCell _ ⟨T,i*3+1,none⟩ _ rfl)) (Chg.setCell _ ⟨T,i*3+2,none⟩ _ rfl)⟩;have:=((hb.set (i*3) (.bool v.1)).set (i*3+1) (F v.2.1)).set (i*3+2) (s_ v.2.2);rw[C9 hi v]at this;exact this
section
variable {bZ G:Nat}{w w' w3:Z}{f:Rf}{ak:Int}{st rg an:LR_}{L:List Lo}{W:LX_}{tv cv iv ev ow sv V lv ao J aT:V_}{X:List (Pt bZ)}
theorem RM.regRange (h:RM bZ w G f ak st rg L W sv lv J X):w.rangeAt G 7 (aY.cells rg):=by
 intro j v hv;refine h.blk.cell (k:=7+j) ?_;unfold cF;rw[List.getElem?_append_right i_];rw[List.getElem?_append_left (by have:=(List.getElem?_eq_some_iff.1 hv).1;simp;omega)];rw[←hv];congr 1;simp
theorem RM.regThere (h:RM bZ w G f ak st rg L W sv lv J X)(n:Nat)(hn:n≤24):w.there G 7 n:=by
 intro j hj;have hr:=h.regRange;have hl:=ik h.rl;refine⟨?_,h.free Y⟩;rw[hr j _ (List.getElem?_eq_getElem Y)]
 rfl
theorem RM.newR (h:RM bZ w G f ak st rg L W sv lv J X)(q:an.length=8):RM bZ (w.setCells G 7 (aY.cells an)) G f ak st an L W sv lv J X∧B_ bZ w (w.setCells G 7 (aY.cells an)):=by
 have hs:=Chg.setCells (b:=G) (aY.cells an) 7 w;have hb:=Blk.setCells (aY.cells an) 7 w _ h.blk;rw[AU h.rl q]at hb;have s2:=h.sep.upd (i:=0) rfl hs (fun k hk=>hk) (aF G h.gb 296 (cF f ak sv an lv J)) hb (fun k hk=>.inl hk);exact⟨⟨h.gb,q,s2⟩,h.sep.updB (i:=0) rfl hs (fun k hk=>hk) h.size⟩
theorem xU (y:U8_)(hy:y.toNat<8)(a:RV)(h:RM bZ w G f ak (a::st) rg L W sv lv J X)(hl:st.length≤900):C_ 188 #[p_ G,.agg #[.int .u8 18,.int .u8 y.toNat]] w fun e w'=>e=.returned (.tuple #[])∧(∃ V,RM bZ w' G f ak st (rg.set y.toNat a) L W V lv J X)∧B_ bZ w w':=by
 obtain⟨W1,aA⟩:=H (w.alloc (.cells #[.int .u8 18,.int .u8 y.toNat] 109));have a8:=ba_ aA;obtain⟨D1,s⟩:=H w.heap.size;have hx:=bn_ s aA;have M:bZ≤D1:=by rw[s];exact h.size
 have x0:=hx.c 0;have a_:=O (a8.mono h.size);have az:RM bZ W1 G f ak (a::st) rg L W sv lv J (X++[aF D1 M 109 [.int .u8 18,.int .u8 y.toNat]]):=by subst s;rw[aA];exact h.add _ _
 have ag:=O h.rl;have aC:=O az;obtain⟨T,hT⟩:=H W1.heap.size;have bd:bZ≤T:=by rw[hT];exact az.size
 obtain⟨W2,ae⟩:=H (W1.alloc (.cells xy.toArray 293));have hz:Blk W2 T 293 xy:=by rw[hT,ae];exact Blk.new W1 _ _
 have N:RM bZ W2 G f ak (a::st) rg L W sv lv J ((X++[aF D1 M 109 [.int .u8 18,.int .u8 y.toNat]])++[aF T bd 293 xy]):=by subst hT;rw[ae];exact az.add xy _
 have ax:B_ bZ W1 W2:=by rw[ae];exact(af _ _).mono az.size
 obtain⟨HZ,j,a9,HT,bm⟩:=zH5 hz N ax hT ae;clear h a8 hx az hz N ax hT ae;go_enter func188,ntmps188;go_upto_region 1 with fail;rw[←aA,←s];clear aA s;go_upto_region 23 with(first|(refine wpList_load_mid rfl _ _ rfl G 7 rfl (aY.cells rg) (.array 8 292) aC.o.regRange underlying293 rfl (lj ag.o) ?_)|(refine zp W1.heap.size xy (aY.cells rg) (by have h:=HZ.o;rw[bm.o,HT.o]at h;exact h) rfl _ _ _ rfl rfl rfl (lj ag.o) (ik ag.o).symm (vw rg) ?_;intro W3 n))
 have m:Blk W3 T 293 (aY.cells rg):=by
  have h1:=HZ.o.row (aY.cells rg);rw[bm.o,HT.o]at h1;rw[HT.o,←n.o];exact h1
 have aI:Chg (fun k=>k=T) W2 W3:=by
  have h1:=qW (X:=fun k=>k=T) W2 T (aY.cells rg).toArray rfl;rw[HT.o]at h1⊢;rw[bm.o]at h1⊢;rw[←n.o];exact h1
 obtain⟨ay,aX⟩:=j.o.updX (i:=X.length+1) (p:=aF T bd 293 xy) i_ aI (fun k hk=>hk) (aF T bd 293 (aY.cells rg)) m (fun k hk=>hk)
 have t:((X++[aF D1 M 109 [.int .u8 18,.int .u8 y.toNat]])++[aF T bd 293 xy]).set (X.length+1) (aF T bd 293 (aY.cells rg))=(X++[aF D1 M 109 [.int .u8 18,.int .u8 y.toNat]])++[aF T bd 293 (aY.cells rg)]:=by
  rw[List.set_append_right _ _ i_];simp
 rw[t]at ay;have aW:=O ((a_.o.trans a9.o).trans aX);have hD:Blk W3 D1 109 [.int .u8 18,.int .u8 y.toNat]:=ay.loc (p:=aF D1 M 109 [.int .u8 18,.int .u8 y.toNat]) i_;have x1:=hD.c 1;have d:=O ay;have HP:=O (bf a (ay.below (b_drew W3)) Y);rw[←HT.o];clear m aI aX t hD ay n bm HT HZ j a9 x0;have i0:0≤(y.toNat:Int):=Y;have i1:(y.toNat:Int)<8:=Y;have g:y.toNat<rg.length:=by rw[ag.o];exact hy
 obtain⟨i,hi⟩:=H y.toNat;have HI:=O hi;rw[←hi]at x1 i0 i1 g;have b:=O g;clear hi g
 (try go_frame)
 go_region_law (refine aN rfl 186 #[p_ G] yzc HP.o ?_;rintro r w4⟨rfl,⟨o,hm⟩,hB⟩;unfold rvV;have ac:Blk w4 D1 109 [.int .u8 18,.int .u8 y.toNat]:=hm.loc (p:=aF D1 M 109 [.int .u8 18,.int .u8 y.toNat]) i_;have bQ:w4.cell? ⟨D1,1,none⟩=some (.int .u8 i):=(by rw[HI.o];exact ac.c 1);clear ac;have hb:Blk w4 T 293 (aY.cells rg):=hm.loc (p:=aF T bd 293 (aY.cells rg)) i_;have y0:∃ u,w4.cell? ⟨T,i*3,none⟩=some u:=⟨_,hb.cell (aY.cells_at rg i b.o 0 _ rfl)⟩;obtain⟨u0,y0⟩:=y0;have y1:∃ u,w4.cell? ⟨T,i*3+1,none⟩=some u:=⟨_,hb.cell (aY.cells_at rg i b.o 1 _ rfl)⟩;obtain⟨u1,y1⟩:=y1;have y2:∃ u,w4.cell? ⟨T,i*3+2,none⟩=some u:=⟨_,hb.cell (aY.cells_at rg i b.o 2 _ rfl)⟩;obtain⟨u2,y2⟩:=y2;have k0:=hb.free (k:=i*3) (by rw[ik ag.o];have:=b.o;have:=ag.o;omega);have k1:=hb.free (k:=i*3+1) (by rw[ik ag.o];have:=b.o;have:=ag.o;omega);have k2:=hb.free (k:=i*3+2) (by rw[ik ag.o];have:=b.o;have:=ag.o;omega);have B:=O hm;have ba:=O ((aW.o.trans ((b_drew W3).mono d.o.size)).trans hB);have cd:=O hb;clear hm hB hb)
 all_goals
  (try simp only[JM,Jd,Jm])
  (try go_frame)
  have HQ:=mv3 cd.o i a b.o;obtain⟨W5,aE⟩:=H (((w4.setCell ⟨T,i*3,none⟩ (.bool a.1)).setCell ⟨T,i*3+1,none⟩ (F a.2.1)).setCell ⟨T,i*3+2,none⟩ (s_ a.2.2));rw[←aE]at HQ⊢;obtain⟨aL,v⟩:=HQ;obtain⟨av,z⟩:=B.o.updX (i:=X.length+1) (p:=aF T bd 293 (aY.cells rg)) i_ v (fun k hk=>hk) (aF T bd 293 (aY.cells (rg.set i a))) aL (fun k hk=>hk)
  have t:((X++[aF D1 M 109 [.int .u8 18,.int .u8 y.toNat]])++[aF T bd 293 (aY.cells rg)]).set (X.length+1) (aF T bd 293 (aY.cells (rg.set i a)))=(X++[aF D1 M 109 [.int .u8 18,.int .u8 y.toNat]])++[aF T bd 293 (aY.cells (rg.set i a))]:=by
   rw[List.set_append_right _ _ i_];simp
  rw[t]at av;have ad:(rg.set i a).length=8:=by rw[JN];exact ag.o
  obtain⟨q,x,aJ,c⟩:=zH4 av aL (ba.o.trans z) ad;have D:=O (av.regThere (aY.cells (rg.set i a)).length (by rw[ik ad];exact I6 _));clear av aL z ad t v aE y0 y1 y2 k0 k1 k2 bQ;go_wp2_with (first|(refine nw T (aY.cells (rg.set i a)) x.o (.array 8 292) rfl _ _ rfl rfl underlying293 rfl (lj c.o) ?_)|(refine wpList_store_mid rfl _ _ _ rfl G 7 (aY.cells (rg.set i a)).toArray rfl rfl (by simpa using D.o) (by simpa using lj c.o) (vw _) ?_));obtain⟨aB,aV⟩:=q.o.newR c.o;refine bodyPost_end (results_none rfl _ _ _) rfl ?_;rw[←HI.o];exact⟨rfl,⟨_,aB.drop.drop⟩,aJ.o.trans aV⟩
end
end
section
attribute [local irreducible] wpG
abbrev StR:=Int→LR_→LR_→List Lo→LX_→Prop
section
variable {bZ G:Nat}{w w':Z}{f:Rf}{X:List (Pt bZ)}
def RS (bZ:Nat)(w:Z)(G:Nat)(f:Rf)(X:List (Pt bZ))(φ:StR):Prop:=∃ ak st rg L W sv lv J,RM bZ w G f ak st rg L W sv lv J X∧φ ak st rg L W
def eqS (a:Int)(s r:LR_)(l:List Lo)(p:LX_):StR:=fun a' s' r' l' p'=>a'=a∧s'=s∧r'=r∧l'=l∧p'=p
theorem RS.below {φ:StR}(h:RS bZ w G f X φ)(hB:Bw_ w w'):RS bZ w' G f X φ:=by
 obtain⟨a,s,r,l,p,sv,lv,J,h1,h2⟩:=h;exact⟨a,s,r,l,p,sv,lv,J,h1.below hB,h2⟩
theorem RS.size {φ:StR}(h:RS bZ w G f X φ):bZ≤w.heap.size:=by
 obtain⟨a,s,r,l,p,sv,lv,J,h1,-⟩:=h;exact h1.size
theorem RS.blk {φ:StR}{D:Nat}{hD:bZ≤D}{t:T_}{cs:LV_}(h:RS bZ w G f X φ)(hm:aF D hD t cs∈X):Blk w D t cs:=by
 obtain⟨a,s,r,l,p,sv,lv,J,h1,-⟩:=h;exact h1.loc (p:=aF D hD t cs) hm
def Cp (bZ G:Nat)(f:Rf)(am:FuncId)(n:Nat)(y:U8_)(w0:Z)(φ ψ:StR):Prop :=
 ∀ (w1:Z) (X:List (Pt bZ)),B_ bZ w0 w1→RS bZ w1 G f X φ→C_ am #[p_ G,.agg #[.int .u8 n,.int .u8 y.toNat]] w1 fun r w'=>r=.returned (.tuple #[])∧RS bZ w' G f X ψ∧B_ bZ w1 w'
theorem Bj (pc n:Nat)(y:U8_)(c:Nat){tv iv ev ow cv:V_}{I:LJ_}{st rg:LR_}{L:List Lo}{W:LX_}{sv lv J:V_}{φ1 φ2 φ3 φ4:StR}(hm:RM bZ w G ⟨tv,cv,iv,ev,ow⟩ (pc:Int) st rg L W sv lv J X)(bB:bH.Row w cv I)(u:pc<I.length)(bx:I.length≤1000)(hn:n=I[pc].1.toNat)(hy:y=I[pc].2)(HA:Cp bZ G ⟨tv,cv,iv,ev,ow⟩ 188 n y w (eqS (pc:Int) st rg L W) φ1)(HN:Cp bZ G ⟨tv,cv,iv,ev,ow⟩ 189 n y w φ1 φ2)(HT:∀ (w1:Z) (X:List (Pt bZ)),B_ bZ w w1→RS bZ w1 G ⟨tv,cv,iv,ev,ow⟩ X φ2→C_ 190 #[p_ G,.agg #[.int .u8 n,.int .u8 y.toNat]] w1 fun r w'=>r=.returned (F c)∧(c=0→RS bZ w' G ⟨tv,cv,iv,ev,ow⟩ X φ3)∧B_ bZ w1 w')(x:c=0→Cp bZ G ⟨tv,cv,iv,ev,ow⟩ 191 n y w φ3 φ4)(i:∀ a s r l p,φ4 a s r l p→-1≤a∧a≤1000):C_ 185 #[p_ G] w fun r w'=>r=.returned (F c)∧(c=0→RS bZ w' G ⟨tv,cv,iv,ev,ow⟩ X (fun a s r l p=>φ4 (a-1) s r l p))∧B_ bZ w w':=by
 obtain⟨ac,nc,rfl,-,bm⟩:=aj bB;obtain⟨b,aL,rfl,d0,d1⟩:=bm pc u;rw[←hn]at d0;rw[←hy]at d1;have c1:w.cell? ⟨G,1,none⟩=some (.slice (some ⟨b,aL,none⟩) I.length nc):=hm.c 1;have c5:w.cell? ⟨G,5,none⟩=some (F pc):=hm.c 5;have i0:=nn_ pc;have i1:(pc:Int)<I.length:=Y;have i2:(I.length:Int)≤1000:=Y;have bq:G<w.heap.size:=hm.blk.lt;have bo:b<w.heap.size:=aG d0;obtain⟨HM,HA,HN,HT,HK,HF⟩:=zH6 hm HA HN HT x i;clear hm bB bm hn hy x i;go_enter func185,ntmps185;go_wp2_with fail;go_region;obtain⟨T,hT⟩:=H w.heap.size;have bd:bZ≤T:=by rw[hT];exact HM.o.size
 obtain⟨W1,aA⟩:=H ((w.alloc (.cells #[.int .u8 n,.int .u8 y.toNat] 109)).drew);have a8:Bw_ w W1:=by rw[aA];exact bt (af _ _) (b_drew _)
 have az:RS bZ W1 G ⟨tv,.slice (some ⟨b,aL,none⟩) I.length nc,iv,ev,ow⟩ (X++[aF T bd 109 [.int .u8 n,.int .u8 y.toNat]]) (eqS (pc:Int) st rg L W):=by
  subst hT;rw[aA];exact⟨_,_,_,_,_,_,_,_,(HM.o.add [.int .u8 n,.int .u8 y.toNat] 109).below (b_drew _),rfl,rfl,rfl,rfl,rfl⟩
 have a_:=O (a8.mono HM.o.size);rw[←aA,←hT];have hx:=az.blk (D:=T) (hD:=bd) (t:=109) (cs:=[.int .u8 n,.int .u8 y.toNat]) i_;obtain⟨x0,x1⟩:=cl2 hx;have aC:=O az;clear aA hT a8 az hx d0 d1 c1 c5 bq bo;go_upto_region 3 with(go_at_call 188;refine(HA.o _ _ a_.o aC.o).mono ?_;rintro r w2⟨rfl,hm,hB⟩;have j:=O hm;have a9:=O (a_.o.trans hB);clear hm hB);clear x0 x1;have hx:=j.o.blk (D:=T) (hD:=bd) (t:=109) (cs:=[.int .u8 n,.int .u8 y.toNat]) i_;obtain⟨x0,x1⟩:=cl2 hx;clear hx;go_upto_region 4 with(go_at_call 189;refine(HN.o _ _ a9.o j.o).mono ?_;rintro r w3⟨rfl,hm,hB⟩;have d:=O hm;have aW:=O (a9.o.trans hB);clear hm hB);clear x0 x1;have hx:=d.o.blk (D:=T) (hD:=bd) (t:=109) (cs:=[.int .u8 n,.int .u8 y.toNat]) i_;obtain⟨x0,x1⟩:=cl2 hx;clear hx
 by_cases hc:c=0
 ·have t1:((c:Int)==0)=true:=by rw[hc];rfl
  have ag:=O (HK.o hc);have HC:=O hc;clear hc;go_upto_region 6 with(go_at_call 190;refine(HT.o _ _ aW.o d.o).mono ?_;rintro r w4⟨rfl,hm,hB⟩;have B:=O (hm HC.o);have ba:=O (aW.o.trans hB);clear hm hB);clear x0 x1;have hx:=B.o.blk (D:=T) (hD:=bd) (t:=109) (cs:=[.int .u8 n,.int .u8 y.toNat]) i_;obtain⟨x0,x1⟩:=cl2 hx;clear hx;go_upto_region 7 with(go_at_call 191;refine(ag.o _ _ ba.o B.o).mono ?_;rintro r w5⟨rfl,hm,hB⟩;have q:=O hm;have aJ:=O (ba.o.trans hB);clear hm hB);clear x0 x1;obtain⟨a,s,r,l,p,bi,fF,m,av,g⟩:=q.o;have c5:=av.c 5;have f5:=av.free (k:=5) d_;obtain⟨a0,a1⟩:=HF.o _ _ _ _ _ g;have cw:=O av;have o:=O g;clear av g;go_wp2_with fail;go_ret;obtain⟨v,b6⟩:=cw.o.setAt (a+1);refine⟨rfl,fun _=>⟨_,s,r,l,p,bi,fF,m,RM.drop (X:=X) v,?_⟩,aJ.o.trans b6⟩;show φ4 (a+1-1) s r l p;rw[show a+1-1=a by omega];exact o.o
 ·have t1:((c:Int)==0)=false:=by rw[beq_eq_false_iff_ne];omega
  have HC:=O hc;clear hc;go_wp2_with (go_at_call 190;refine(HT.o _ _ aW.o d.o).mono ?_;rintro r w4⟨rfl,-,hB⟩;have ba:=O (aW.o.trans hB);clear hB);go_ret;exact⟨rfl,fun h=>absurd h HC.o,ba.o⟩
end
end
