/- Lemmas for MapperTells: walks, plain laws. -/
import Derived.Laws.EntriesVeiled
import Derived.Maps.OwnIn
import Derived.Test.YtckhfapcmjlmbaaGreatDoorMapperTellsK3
set_option linter.unusedSimpArgs false
set_option linter.unusedVariables false
set_option maxRecDepth 100000
set_option maxHeartbeats 16000000
namespace Go.Proofs.YtckhfapcmjlmbaaGreatDoor
open Go.RowKit Oct
section
abbrev VI:=UInt8×UInt8
def io (op:UInt8):Bool:=op==1||op==2||op==3||op==17||op==18||op==22
def aZ (x:VI):Bool:=decide (1≤x.1.toNat)&&decide (x.1.toNat≤23)&&(x.2==0||io x.1)
def cK (texts:LL_)(code:List VI):Bool:=decide (texts.length≤16)&&decide (code.length≤256)&&texts.all (fun s=>decide (s.length≤64))&&code.all aZ
def dj:List (LU_×LU_) :=
 [([],[]),([],[84]),([],[78]),([],[84]),([84,84],[84]),([84],[78]),([84,78,78],[84]),([84],[78]),([78],[84]),([78,78],[78]),([78,78],[78]),([78,78],[78]),([84,84],[78]),([78],[78]),
  ([63],[]),([63],[49,49]),([63,63],[50,49]),([],[82]),([82],[]),([78],[]),([],[]),([],[]),([84],[]),([84,84],[])]
def gC (arg:UInt8):LU_:=if 4≤arg.toNat then [84] else [78]
def dX (s r:LU_):LU_:=if s=[82] then r else s
def bG (x:VI):LU_×LU_:=(dX (dj.getD x.1.toNat ([],[])).1 (gC x.2),dX (dj.getD x.1.toNat ([],[])).2 (gC x.2))
structure Vb where
 op:UInt8
 want:LU_
 opn:LU_
 at_:Nat
 did:Bool
deriving DecidableEq
structure Vs where
 kinds:LU_
 blocks:List Vb
 seen:LL_
 ends : List Int
 deep:Nat
deriving DecidableEq
def cQ:Option Vb→Bool
 | none=>true
 | some b=>b.op != 19||b.did
def thereV (nt inp:Nat)(role:UInt8)(blocks:List Vb)(x:VI):Nat :=
 if (x.1=1∧nt≤x.2.toNat)∨(x.1=3∧inp≤x.2.toNat)∨((x.1=17∨x.1=18)∧8≤x.2.toNat) then 3
 else if x.1=23∧role≠1 then 133
 else if x.1=20∧cQ blocks.getLast?=true then 132
 else if x.1=21∧blocks=[] then 132
 else if (x.1=19∨x.1=22)∧8≤blocks.length then 132 else 0
def mb:LU_→LU_→Bool
 | [],_=>true
 | _::_,[]=>false
 | a::t,b::u=>(a==63||a==b)&&mb t u
def bw (top:LU_)(g:LU_):LU_:=g.flatMap fun c=>if c=49 then top.take 1 else if c=50 then (top.drop 1).take 1 else [c]
def aF (kinds:LU_)(x:VI):Nat×LU_ :=
 if kinds.length<(bG x).1.length then (130,kinds)
 else if mb (bG x).1 (kinds.drop (kinds.length-(bG x).1.length))=false then (131,kinds)
 else if (x.1=22∧16≤(kinds.take (kinds.length-(bG x).1.length)++bw (kinds.drop (kinds.length-(bG x).1.length)) (bG x).2).length)∨16<(kinds.take (kinds.length-(bG x).1.length)++bw (kinds.drop (kinds.length-(bG x).1.length)) (bG x).2).length then (130,kinds)
 else (0,kinds.take (kinds.length-(bG x).1.length)++bw (kinds.drop (kinds.length-(bG x).1.length)) (bG x).2)
def turnsV (i:Nat)(x:VI)(s:Vs):Nat×Vs :=
 if x.1=19 then (0,{ s with blocks:=s.blocks++[⟨19,s.kinds,s.kinds,i,false⟩] })
 else if x.1=22 then (0,{ s with blocks:=s.blocks++[⟨22,s.kinds,s.kinds,i,false⟩],kinds:=s.kinds++[84] })
 else if x.1=20 then
  match s.blocks.getLast? with
  | none=>(0,s)
  | some b=>(0,{ s with ends:=s.ends.set b.at_ (i:Int),blocks:=s.blocks.dropLast++[{ b with want:=s.kinds,at_:=i,did:=true }],kinds:=b.opn })
 else if x.1=21 then
  match s.blocks.getLast? with
  | none=>(0,s)
  | some b=>if s.kinds=b.want then (0,{ s with ends:=s.ends.set b.at_ (i:Int),blocks:=s.blocks.dropLast }) else (132,s)
 else (0,s)
def bI (nt inp:Nat)(role:UInt8)(i:Nat)(x:VI)(s:Vs):Nat×Vs :=
 if thereV nt inp role s.blocks x≠0 then (thereV nt inp role s.blocks x,{ s with seen:=s.seen++[s.kinds] })
 else if (aF s.kinds x).1≠0 then ((aF s.kinds x).1,{ s with seen:=s.seen++[s.kinds] })
 else
  let r:=turnsV i x { s with seen:=s.seen++[s.kinds],kinds:=(aF s.kinds x).2 }
  (r.1,{ r.2 with deep:=max s.deep r.2.kinds.length })
def eY (role:UInt8):LU_:=if role=1 then [] else [84]
def overV (role:UInt8)(s:Vs):Nat:=if 0<s.blocks.length then 132 else if s.kinds.length≠(eY role).length then 130 else if s.kinds≠eY role then 131 else 0
def ep (nt inp:Nat)(role:UInt8):Nat→List VI→Vs→Nat×Nat×Vs
 | i,[],s=>(i,overV role s,s)
 | i,x::r,s=>if (bI nt inp role i x s).1=0 then ep nt inp role (i+1) r (bI nt inp role i x s).2 else (i,(bI nt inp role i x s).1,(bI nt inp role i x s).2)
def aS (n:Nat):Vs:=⟨[],[],[],List.replicate n 0,0⟩
def inputsV (role:UInt8):Nat:=if role=1 then 1 else 2
def cY (role:UInt8):Bool:=decide (1≤role.toNat)&&decide (role.toNat≤3)
def aq (texts:LL_)(code:List VI)(role:UInt8):Nat×Nat×Vs :=
 if (cK texts code&&cY role)=true then
  if (ep texts.length (inputsV role) role 0 code (aS code.length)).2.1=0 then (0,0,(ep texts.length (inputsV role) role 0 code (aS code.length)).2.2)
  else ep texts.length (inputsV role) role 0 code (aS code.length)
 else (0,2,aS code.length)
end
section
theorem nJ (s:LU_)(w:World):Calls Tryz.prog 244 #[.string (bs s),.string (bs [82])] w fun e w'=>e=.returned (.int .i64 (Lib.countByte s 82))∧w'=w:=by
 have:=Tryz.strings_Count_one (bs s) 82 w
 rwa [it]at this
theorem ui (s:LU_)(w:World):Calls Tryz.prog 246 #[.string (bs s),.string (bs [82])] w fun e w'=>e=.returned (.int .i64 (Lib.indexByte s 82))∧w'=w:=by
 have:=Tryz.strings_Index_one (bs s) 82 w
 rwa [it]at this
theorem xo (B b:Nat)(w:World)(hB:B≤b)(hbk:w.heap[b]?=some (.cells #[.pointer none,.slice none 0 0] 134 (0,0)))(hBw:B≤w.heap.size):Calls Tryz.prog 245 #[.pointer (some ⟨b,0,none⟩),.int .i64 1] w fun e w'=>e=.returned (.tuple #[])∧Bld B b [] w'∧Below B w w':=by
 refine(Tryz.Builder_Grow_fresh B b 1 w hB hbk hBw (by decide)).mono ?_;rintro e w' ⟨rfl,h1,h2⟩;exact⟨rfl,⟨DG hBw h2.size,.inr h1⟩,h2⟩
theorem Eh {T:Prop} (h:T:=by
 go_enter Tryz.func241,Tryz.ntmps241;go_wp2_with fail;refine HC.o.mono ?_;rintro e w1 ⟨rfl,rfl⟩;go_wp2_with fail;go_ret;exact⟨rfl,DF _ _⟩
):T:=h
theorem uF (s r:LU_)(w:World)(h0:Lib.countByte s 82=0)(hr:r=[84]∨r=[78]):Calls Tryz.prog 241 #[.string (bs s),.string (bs [82]),.string (bs r),.int .i64 (-1)] w fun e w'=>e=.returned (.string (bs s))∧Bw_ w w':=by
 have HC:=zH (nJ s w);rw[h0]at HC;clear h0;rcases hr with rfl|rfl
 ·exact Eh
 ·exact Eh
theorem sO (r:LU_)(w:World)(hr:r=[84]∨r=[78]):Calls Tryz.prog 241 #[.string (bs [82]),.string (bs [82]),.string (bs r),.int .i64 (-1)] w fun e w'=>e=.returned (.string (bs r))∧Bw_ w w':=by
 have HC:=zH (nJ [82] w);rw[show Lib.countByte [82] 82=1 from rfl]at HC;have HI:=zH (fun w=>ui [82] w);have hl:r.length=1:=by rcases hr with rfl|rfl<;>rfl
 have hne:((82:UInt8)::[]==r)=false:=by rcases hr with rfl|rfl<;>rfl
 have hl1:(r.length:Int)=1:=by omega
 clear hr;go_enter Tryz.func241,Tryz.ntmps241;go_wp2_with fail;refine HC.o.mono ?_;rintro e w1 ⟨rfl,rfl⟩;go_wp2_with fail;refine(xo w1.heap.size w1.heap.size _ (DC _) (World.alloc_heap_new w1 _) (by simp)).mono ?_;rintro e w2 ⟨rfl,hb2,hB2⟩;have HB2:=zH hb2;have HW2:=zH ((af w1 _).trans hB2);clear hb2 hB2;have hs0:∀ wx,(Instr.slice 9 (.string (bs [82])) (some (.int .i64 0)) none none).run Tryz.prog wx=.ok (.string (bs [82])) wx:=by intro wx;kernel_rfl
 have hs1:∀ wx,(Instr.slice 9 (.string (bs [82])) (some (.int .i64 0)) (some (.int .i64 0)) none).run Tryz.prog wx=.ok (.string (bs [])) wx:=by intro wx;kernel_rfl
 have hs2:∀ wx,(Instr.slice 9 (.string (bs [82])) (some (.int .i64 1)) none none).run Tryz.prog wx=.ok (.string (bs [])) wx:=by intro wx;kernel_rfl
 have H0:=zH hs0;have H1:=zH hs1;have H2:=zH hs2;clear hs0 hs1 hs2;go_wp2
 go_loopw [11,53] (fun t11 t53 wr=>(t11=.int .i64 0∧t53=.int .i64 0∧Hid (Bld w1.heap.size w1.heap.size [] wr)∧Hid (Below w1.heap.size w1 wr))∨(t11=.int .i64 1∧t53=.int .i64 1∧Hid (Bld w1.heap.size w1.heap.size r wr)∧Hid (Below w1.heap.size w1 wr))) (fun _ t53 _=>1-(intOf t53).toNat)
 case atStart=>exact .inl ⟨rfl,rfl,HB2.o,HW2.o⟩
 case round =>
  rcases hrel with ⟨rfl,rfl,HB,HW⟩|⟨rfl,rfl,HB,HW⟩
  ·have hs0:=H0.o
   go_wp2_with fail;refine(HI.o _).mono ?_;rw[show Lib.indexByte [82] 82=0 from rfl];rintro e w3 ⟨rfl,rfl⟩;have hs1:=H1.o;clear hs0;go_wp2_with fail;refine(cy _ _ [] [] _ HB.o (by decide)).mono ?_;rintro e w4 ⟨rfl,hb4,hB4⟩;have HB4:=zH hb4;have HW4:=zH (HW.o.trans hB4);clear hb4 hB4 hs1;go_wp2_with fail;refine(cy _ _ [] r _ HB4.o (by simp;omega)).mono ?_;rintro e w5 ⟨rfl,hb5,hB5⟩;have HB5:=zH hb5;have HW5:=zH (HW4.o.trans hB5);clear hb5 hB5;go_wp2;exact⟨.inr ⟨rfl,rfl,HB5.o,HW5.o⟩,by simp[intOf]⟩
  ·have hs2:=H2.o
   go_wp2_with fail;refine(cy _ _ r [] _ HB.o (by simp;omega)).mono ?_;rintro e w4 ⟨rfl,hb4,hB4⟩;rw[DR]at hb4;have HB4:=zH hb4;have HW4:=zH (HW.o.trans hB4);clear hb4 hB4 hs2;go_wp2_with fail;refine(gx _ _ r _ HB4.o).mono ?_;rintro e w5 ⟨rfl,hB5⟩;go_wp2_with fail;go_ret;exact⟨rfl,HW4.o.trans hB5⟩
theorem jd (s r:LU_)(w:World)(hs:Lib.countByte s 82=0∨s=[82])(hr:r=[84]∨r=[78]):Calls Tryz.prog 230 #[.string (bs s),.string (bs [82]),.string (bs r)] w fun e w'=>e=.returned (.string (bs (dX s r)))∧Bw_ w w':=by
 rcases hs with hs|rfl
 ·have hne:s≠[82]:=by rintro rfl;exact absurd hs (by decide)
  have HR:=zH (uF s r w hs hr);have HE:=zH (show dX s r=s by unfold dX;rw[if_neg hne]);clear hs hr hne;go_enter Tryz.func230,Tryz.ntmps230;go_wp2_with fail;refine HR.o.mono ?_;rintro e w1 ⟨rfl,hB⟩;go_wp2_with fail;go_ret;exact⟨by rw[HE.o];rfl,hB⟩
 ·have HR:=zH (sO r w hr)
  clear hr;go_enter Tryz.func230,Tryz.ntmps230;go_wp2_with fail;refine HR.o.mono ?_;rintro e w1 ⟨rfl,hB⟩;go_wp2_with fail;go_ret;exact⟨rfl,hB⟩
end
section
def bp:Rec VI where
 cell x:=[.int .u8 (x.1.toNat:Int),.int .u8 (x.2.toNat:Int)]
 e:=127
 n:=2
 bytes:=2
 z:=.agg #[.int .u8 0,.int .u8 0]
 len:=fun _=>rfl
 one:=by intro x u h;simp at h;rcases h with rfl|rfl<;>rfl
 info:=by kernel_rfl
 zs:=rfl
 pos:=by decide
 bpos:=by decide
def bf:Rec Int where
 cell x:=[.int .i64 x]
 e:=3
 n:=1
 bytes:=8
 z:=.int .i64 0
 len:=fun _=>rfl
 one:=by intro x u h;simp at h;subst h;rfl
 info:=by kernel_rfl
 zs:=rfl
 pos:=by decide
 bpos:=by decide
def kj:Rec Vb where
 cell b:=[.int .u8 (b.op.toNat:Int),.string (bs b.want),.string (bs b.opn),.int .i64 (b.at_:Int),.bool b.did]
 e:=315
 n:=5
 bytes:=56
 z:=.agg #[.int .u8 0,.string ByteArray.empty,.string ByteArray.empty,.int .i64 0,.bool false]
 len:=fun _=>rfl
 one:=by intro x u h;simp at h;rcases h with rfl|rfl|rfl|rfl|rfl<;>rfl
 info:=by kernel_rfl
 zs:=rfl
 pos:=by decide
 bpos:=by decide
section
variable {α:Type}{R:Rec α}
theorem Dq (R:Rec α){j:Nat}(hj:j<R.n){u:Value}{y:α}:∀ (l:List α) (k:Nat) (hk:k<l.length),R.cell y=(R.cell l[k]).set j u→(R.cells l).set (k*R.n+j) u=R.cells (l.set k y)
 | x::l,0,_,hy=>by
  simp only[Rec.cells,Nat.zero_mul,DE,List.set_cons_zero];rw[List.set_append_left _ _ (by rw[R.len];exact hj)];rw[show R.cell y=(R.cell x).set j u from hy]
 | x::l,k+1,hk,hy=>by
  simp only[Rec.cells,List.set_cons_succ];have hge:R.n≤(k+1)*R.n:=Nat.le_mul_of_pos_left R.n (Nat.succ_pos k);rw[List.set_append_right _ _ (by rw[R.len];omega),R.len];rw[show(k+1)*R.n+j-R.n=k*R.n+j by rw[Nat.add_mul];omega];rw[Dq R hj l k (by simpa using hk) hy]
theorem Rec.Own.setCell {w:World}{bZ g n c:Nat}{l:List α}(h:R.Own w bZ (.slice (some ⟨g,0,none⟩) n c) l){k:Nat}(hk:k<l.length){y:α}{j:Nat}(hj:j<R.n){u:Value}(hy:R.cell y=(R.cell l[k]).set j u):R.Own (w.setCell ⟨g,k*R.n+j,none⟩ u) bZ (.slice (some ⟨g,0,none⟩) n c) (l.set k y):=by
 obtain⟨h1,h2⟩:=h;refine⟨by rw[Rec.cells_length],?_⟩;rcases h2 with ⟨hv,_⟩|⟨g',cap,cur,hv,hb,hh,r1,r2,r3,r4⟩
 ·cases hv
 ·cases hv
  have hb2:Blk w g R.e cur.toList:=by unfold Blk;rw[hh]
  have hs:=hb2.set (k*R.n+j) u;refine .inr ⟨g,c,(cur.toList.set (k*R.n+j) u).toArray,by rw[DT],hb,hs,by rw[DT];exact r1,r2,by simpa using r3,?_⟩;rw[DT];simp only[List.toList_toArray];rw[List.take_set,r4];exact Dq R hj l k hk hy
theorem Rec.Own.short {w:World}{bZ n c:Nat}{a:Option Addr}{l:List α}(h:R.Own w bZ (.slice a n c) l)(m:Nat)(hm:m≤l.length):R.Own w bZ (.slice a m c) (l.take m):=by
 obtain⟨h1,h2⟩:=h;have hl:(l.take m).length=m:=by rw[DU];omega
 refine⟨by rw[Rec.cells_length],?_⟩;rcases h2 with ⟨hv,h0⟩|⟨g',cap,cur,hv,hb,hh,r1,r2,r3,r4⟩
 ·have hz:l.length=0:=h0
  obtain rfl:m=0:=by omega
  cases hv
  exact .inl ⟨rfl,hl⟩
 ·cases hv
  refine .inr ⟨g',c,cur,by rw[hl],hb,hh,by rw[hl];omega,r2,r3,?_⟩;rw[hl,←R.cells_take,←r4,List.take_take,Nat.min_eq_left (DV _ hm)]
end
structure VG (w:World) (bZ G:Nat) (tv cv:Value) (inp:Nat) (role:UInt8) (s:Vs) (bv sv ev:Value):Prop where
 blk:Blk w G 281 [tv,cv,.int .i64 (inp:Int),.int .u8 (role.toNat:Int),.string (bs s.kinds),bv,sv,ev,.int .i64 (s.deep:Int)]
 ob:kj.Own w bZ bv s.blocks
 os:aK.Own w bZ sv s.seen
 oe:bf.Own w bZ ev s.ends
 gb:bZ≤G
 a1:∀ b,bv.ownBlock=some b→b≠G∧sv.ownBlock≠some b∧ev.ownBlock≠some b
 a2:∀ b,sv.ownBlock=some b→b≠G∧ev.ownBlock≠some b
 a3:∀ b,ev.ownBlock=some b→b≠G
section
variable {w w':World}{bZ G:Nat}{tv cv bv sv ev:Value}{inp:Nat}{role:UInt8}{s:Vs}
theorem VG.below (h:VG w bZ G tv cv inp role s bv sv ev)(hB:Below w.heap.size w w'):VG w' bZ G tv cv inp role s bv sv ev :=
 ⟨h.blk.below hB,h.ob.below hB,h.os.below hB,h.oe.below hB,h.gb,h.a1,h.a2,h.a3⟩
theorem VG.cell (h:VG w bZ G tv cv inp role s bv sv ev){k:Nat}{v:Value}(hv:[tv,cv,.int .i64 (inp:Int),.int .u8 (role.toNat:Int),.string (bs s.kinds),bv,sv,ev,.int .i64 (s.deep:Int)][k]?=some v):w.cell? ⟨G,k,none⟩=some v:=h.blk.cell hv
theorem VG.free (h:VG w bZ G tv cv inp role s bv sv ev){k:Nat}(hk:k<9):w.frozen? ⟨G,k,none⟩=false:=h.blk.free hk
theorem Gl {T:Prop} (h:T:=by
 obtain⟨h1,h2⟩:=ho;refine⟨h1,?_⟩;rcases h2 with h2|⟨g,cap,cur,rfl,hg,hh,r⟩
 ·exact .inl h2
 ·exact .inr ⟨g,cap,cur,rfl,hg,hc.at hh (hn g rfl),r⟩
):T:=h
theorem VG.setG (h:VG w bZ G tv cv inp role s bv sv ev)(k:Nat)(v:Value){kinds:LU_}{deep:Nat}(hs:[tv,cv,.int .i64 (inp:Int),.int .u8 (role.toNat:Int),.string (bs s.kinds),bv,sv,ev,.int .i64 (s.deep:Int)].set k v=[tv,cv,.int .i64 (inp:Int),.int .u8 (role.toNat:Int),.string (bs kinds),bv,sv,ev,.int .i64 (deep:Int)]):VG (w.setCell ⟨G,k,none⟩ v) bZ G tv cv inp role { s with kinds:=kinds,deep:=deep } bv sv ev∧Below bZ w (w.setCell ⟨G,k,none⟩ v):=by
 have hc:Chg (fun x=>x=G) w (w.setCell ⟨G,k,none⟩ v):=Chg.setCell _ _ _ rfl
 have key:∀ {β:Type} (R:Rec β) (x:Value) (l:List β),R.Own w bZ x l→(∀ b,x.ownBlock=some b→b≠G)→R.Own (w.setCell ⟨G,k,none⟩ v) bZ x l:=fun R x l ho hn=>by
  exact Gl
 have hb:=h.blk.set k v;rw[hs]at hb;exact⟨⟨hb,key _ _ _ h.ob (fun b hb=>(h.a1 b hb).1),key _ _ _ h.os (fun b hb=>(h.a2 b hb).1),key _ _ _ h.oe h.a3,h.gb,h.a1,h.a2,h.a3⟩,hc.below (fun x hx=>by have:=h.gb;omega) (DG h.gb (DA h.blk.lt))⟩
theorem VG.kinds (h:VG w bZ G tv cv inp role s bv sv ev)(k:LU_):VG (w.setCell ⟨G,4,none⟩ (.string (bs k))) bZ G tv cv inp role { s with kinds:=k } bv sv ev∧Below bZ w (w.setCell ⟨G,4,none⟩ (.string (bs k))):=h.setG 4 _ rfl
theorem VG.deep (h:VG w bZ G tv cv inp role s bv sv ev)(d:Nat):VG (w.setCell ⟨G,8,none⟩ (.int .i64 (d:Int))) bZ G tv cv inp role { s with deep:=d } bv sv ev∧Below bZ w (w.setCell ⟨G,8,none⟩ (.int .i64 (d:Int))):=h.setG 8 _ rfl
end
end
section
theorem aI {P:Program}{ops:Array Oper}{C:World→Prop}{R:World→World→Prop}{F:Nat→Option (bn R)}{Q:aB→Act→Prop}{k:Nat}{S:aB}{a:Act}(h:Q S a):wpG P ops C R F Q k [] S a:=h
attribute [local irreducible] wpG
section
variable {α:Type}{R:Rec α}
theorem Rec.Own.chgV {X:Nat→Prop}{w w':World}{bZ:Nat}{v:Value}{l:List α}(h:R.Own w bZ v l)(hc:Chg X w w')(hX:∀ k,v.ownBlock=some k→¬X k):R.Own w' bZ v l:=by
 obtain⟨h1,h2⟩:=h;refine⟨h1,?_⟩;rcases h2 with h2|⟨g,cap,cur,rfl,hg,hh,r⟩
 ·exact .inl h2
 ·exact .inr ⟨g,cap,cur,rfl,hg,hc.at hh (hX g rfl),r⟩
theorem Rec.Own.ltV {w:World}{bZ:Nat}{v:Value}{l:List α}(h:R.Own w bZ v l):∀ b,v.ownBlock=some b→bZ≤b∧b<w.heap.size:=fun b hb=>World.ownsRow.lt h b hb
end
section
variable {w w' w3:World}{bZ G:Nat}{tv cv bv sv ev bv' sv':Value}{inp:Nat}{role:UInt8}{s:Vs}
theorem Gy {T:Prop} (h:T:=by
 rcases hg b hb with e|e
 ·exact h.a1 b e
 ·refine⟨by omega,fun e2=>?_,fun e2=>?_⟩
  ·have:=(h.os.ltV b e2).2;omega
  ·have:=(h.oe.ltV b e2).2;omega
):T:=h
theorem VG.newB (h:VG w bZ G tv cv inp role s bv sv ev){l:List Vb}(hc:Chg (fun k=>bv.ownBlock=some k) w w3)(hg:∀ k,bv'.ownBlock=some k→bv.ownBlock=some k∨w.heap.size≤k)(ho:kj.Own w3 bZ bv' l):VG (w3.setCell ⟨G,5,none⟩ bv') bZ G tv cv inp role { s with blocks:=l } bv' sv ev∧Below bZ w (w3.setCell ⟨G,5,none⟩ bv'):=by
 have hs:Chg (fun k=>k=G) w3 (w3.setCell ⟨G,5,none⟩ bv'):=Chg.setCell _ _ _ rfl;have hlt:=h.blk.lt
 have nb:∀ b,bv'.ownBlock=some b→b≠G∧sv.ownBlock≠some b∧ev.ownBlock≠some b:=fun b hb=>by
  exact Gy
 have hb3:Blk w3 G 281 _:=h.blk.chg hc (fun e=>(h.a1 G e).1 rfl);have o1:=(h.os.chgV hc (fun k hk e=>(h.a1 k e).2.1 hk)).chgV hs (fun k hk=>(h.a2 k hk).1);have o2:=(h.oe.chgV hc (fun k hk e=>(h.a1 k e).2.2 hk)).chgV hs (fun k hk=>h.a3 k hk);refine⟨⟨hb3.set 5 bv',ho.chgV hs (fun k hk=>(nb k hk).1),o1,o2,h.gb,nb,h.a2,h.a3⟩,?_⟩;exact(hc.below (fun k hk=>(h.ob.ltV k hk).1) (DG h.gb (DA hlt))).trans (hs.below (fun k hk=>by have:=h.gb;omega) (by have:=hc.size;have:=h.gb;omega))
theorem Gu {T:Prop} (h:T:=by
 rcases hg b hb with e|e
 ·exact⟨(h.a2 b e).1,(h.a2 b e).2,fun e2=>(h.a1 b e2).2.1 e⟩
 ·refine⟨by omega,fun e2=>?_,fun e2=>?_⟩
  ·have:=(h.oe.ltV b e2).2;omega
  ·have:=(h.ob.ltV b e2).2;omega
):T:=h
theorem VG.newS (h:VG w bZ G tv cv inp role s bv sv ev){l:LL_}(hc:Chg (fun k=>sv.ownBlock=some k) w w3)(hg:∀ k,sv'.ownBlock=some k→sv.ownBlock=some k∨w.heap.size≤k)(ho:aK.Own w3 bZ sv' l):VG (w3.setCell ⟨G,6,none⟩ sv') bZ G tv cv inp role { s with seen:=l } bv sv' ev∧Below bZ w (w3.setCell ⟨G,6,none⟩ sv'):=by
 have hs:Chg (fun k=>k=G) w3 (w3.setCell ⟨G,6,none⟩ sv'):=Chg.setCell _ _ _ rfl;have hlt:=h.blk.lt
 have nb:∀ b,sv'.ownBlock=some b→b≠G∧ev.ownBlock≠some b∧bv.ownBlock≠some b:=fun b hb=>by
  exact Gu
 have hb3:Blk w3 G 281 _:=h.blk.chg hc (fun e=>(h.a2 G e).1 rfl);have o1:=(h.ob.chgV hc (fun k hk e=>(h.a1 k hk).2.1 e)).chgV hs (fun k hk=>(h.a1 k hk).1);have o2:=(h.oe.chgV hc (fun k hk e=>(h.a2 k e).2 hk)).chgV hs (fun k hk=>h.a3 k hk);refine⟨⟨hb3.set 6 sv',o1,ho.chgV hs (fun k hk=>(nb k hk).1),o2,h.gb,fun b hb=>⟨(h.a1 b hb).1,fun e=>(nb b e).2.2 hb,(h.a1 b hb).2.2⟩,fun b hb=>⟨(nb b hb).1,(nb b hb).2.1⟩,h.a3⟩,?_⟩;exact(hc.below (fun k hk=>(h.os.ltV k hk).1) (DG h.gb (DA hlt))).trans (hs.below (fun k hk=>by have:=h.gb;omega) (by have:=hc.size;have:=h.gb;omega))
theorem VG.chgB (h:VG w bZ G tv cv inp role s bv sv ev){l:List Vb}(hc:Chg (fun k=>bv.ownBlock=some k) w w')(ho:kj.Own w' bZ bv l):VG w' bZ G tv cv inp role { s with blocks:=l } bv sv ev∧Below bZ w w' :=
 ⟨⟨h.blk.chg hc (fun e=>(h.a1 G e).1 rfl),ho,h.os.chgV hc (fun k hk e=>(h.a1 k e).2.1 hk),h.oe.chgV hc (fun k hk e=>(h.a1 k e).2.2 hk),h.gb,h.a1,h.a2,h.a3⟩,hc.below (fun k hk=>(h.ob.ltV k hk).1) (DG h.gb (DA h.blk.lt))⟩
theorem VG.chgE (h:VG w bZ G tv cv inp role s bv sv ev){l:List Int}(hc:Chg (fun k=>ev.ownBlock=some k) w w')(ho:bf.Own w' bZ ev l):VG w' bZ G tv cv inp role { s with ends:=l } bv sv ev∧Below bZ w w' :=
 ⟨⟨h.blk.chg hc (fun e=>h.a3 G e rfl),h.ob.chgV hc (fun k hk e=>(h.a1 k hk).2.2 e),h.os.chgV hc (fun k hk e=>(h.a2 k hk).2 e),ho,h.gb,h.a1,h.a2,h.a3⟩,hc.below (fun k hk=>(h.oe.ltV k hk).1) (DG h.gb (DA h.blk.lt))⟩
theorem VG.slices (h:VG w bZ G tv cv inp role s bv sv ev):(∃ ab cb,bv=.slice ab s.blocks.length cb)∧(∃ a1 c1,sv=.slice a1 s.seen.length c1)∧∃ ae ce,ev=.slice ae s.ends.length ce:=⟨ap h.ob,ap h.os,ap h.oe⟩
theorem Rec.Own.at0 {α:Type}{R:Rec α}{a:Option Addr}{n c:Nat}{l:List α}(h:R.Own w bZ (.slice a n c) l)(hl:0<l.length):∃ g,a=some ⟨g,0,none⟩:=by
 rcases h.2 with ⟨_,h0⟩|⟨g,cap,cur,hv,_⟩
 ·have:l.length=0:=h0
  omega
 ·cases hv;exact⟨g,rfl⟩
theorem qN (h:VG w bZ G tv cv inp role s bv sv ev):Calls Tryz.prog 219 #[.pointer (some ⟨G,5,none⟩)] w fun e w'=>e=.returned (.int .i64 (s.blocks.length:Int))∧w'=w:=by
 obtain⟨⟨ab,cb,rfl⟩,_,_⟩:=h.slices;have c5:=h.cell (k:=5) rfl;clear h;go_enter Tryz.func219,Tryz.ntmps219;go_wp2;go_ret;exact⟨rfl,rfl⟩
theorem GG {T:Prop} (h:T:=by
 have y:=C8 hB c5;go_simp;exact hG _ (Bel.refl _)
):T:=h
theorem qI (h:VG w bZ G tv cv inp role s bv sv ev)(hl:s.blocks.length≤1000):Calls Tryz.prog 229 #[.pointer (some ⟨G,5,none⟩)] w fun e w'=>((s.blocks=[]∧e=.returned (.pointer none))∨∃ g c m,bv=.slice (some ⟨g,0,none⟩) s.blocks.length c∧s.blocks.length=m+1∧e=.returned (.pointer (some ⟨g,m*5,none⟩)))∧Bw_ w w':=by
 obtain⟨⟨ab,cb,rfl⟩,_,_⟩:=h.slices;have c5:=h.cell (k:=5) rfl;rcases Nat.eq_zero_or_pos s.blocks.length with h0|h0
 ·have hb0:s.blocks=[]:=DD h0
  have h1:((s.blocks.length:Int)==0)=true:=by rw[beq_iff_eq];omega
  have HB:=zH hb0;clear h h0 hb0;go_enter Tryz.func229,Tryz.ntmps229;go_wp2;go_ret;exact⟨.inl ⟨HB.o,rfl⟩,DF _ _⟩
 ·obtain⟨g,rfl⟩:=h.ob.at0 h0
  have h1:((s.blocks.length:Int)==0)=false:=by rw[beq_eq_false_iff_ne];omega
  obtain⟨m,hm⟩:∃ m,s.blocks.length=m+1:=⟨s.blocks.length-1,by omega⟩
  have hm1:(s.blocks.length:Int)-1=(m:Int):=by omega
  have hm2:(m:Int)<(s.blocks.length:Int):=by omega
  have hm3:=nn_ m;have hm4:(s.blocks.length:Int)≤1000:=by omega
  have HM:=zH hm;clear h h0 hm;go_enter Tryz.func229,Tryz.ntmps229;go_wp2;refine rk_ [(3,.exact _ (.slice (some ⟨g,0,none⟩) s.blocks.length cb)),(7,.exact _ (.slice (some ⟨g,0,none⟩) s.blocks.length cb))] ?_;refine cG ?_;refine gE_ (fun w' G hB hS hG=>?_) (fun K hK=>?_)
  ·exact GG
  refine cO ?_;clear hK K;refine gE_ (fun w' G hB hS hG=>?_) (fun K hK=>?_)
  ·exact GG
  refine cO ?_;clear hK K;refine aI ?_;intro w' hB hA;go_wp2;go_ret;exact⟨.inr ⟨g,cb,m,rfl,HM.o,by simp⟩,hB⟩
end
end
section
attribute [local irreducible] wpG
theorem Rec.append1V {α:Type}{ops:Array Oper}{rest:List Oper}{o:Oper}{a:Act}{Q:Exit→Act→World→Prop}(R:Rec α)(w:World)(p:α)(hgd:o.guard=none)(s x:Operand)(t:TypeId)(ho:o.op=.call { callee:=.builtin .append,args:=#[s,x],argTypes:=#[t,t] })(ht:Tryz.prog.underlying t=some (.slice R.e))(bZ:Nat)(v:Value)(xs:List α)(hown:R.Own w bZ v xs)(hs:a.eval s=v)(vx:Value)(hx:a.eval x=vx)(hr:aJ w vx 1 (R.cell p))(hbytes:(xs.length+1)*R.bytes≤140737488355328)(hbase:bZ≤w.heap.size)(h:∀ g cap w',R.Own w' bZ (.slice (some ⟨g,0,none⟩) (xs.length+1) cap) (xs++[p])→Chg (fun k=>v.ownBlock=some k) w w'→(v.ownBlock=some g∨w.heap.size≤g) → wpList Tryz.prog ops Q rest (a.put o.dst (.slice (some ⟨g,0,none⟩) (xs.length+1) cap)) w'):wpList Tryz.prog ops Q (o::rest) a w:=by
 obtain⟨i,hi,hz,hi1,hi2⟩:=info_parts R.info;have hn:xs.length+1≤(xs.length+1)*R.bytes:=Nat.le_mul_of_pos_right _ R.bpos;obtain⟨ax,c,rfl,hnone,hc⟩:=hr
 cases ax with
 | none=>have:=(hnone rfl).1;omega
 | some ad =>
  refine wpList_append_lies _ hgd s x t ho bZ R.e i R.z R.n R.bytes ht hi hz hi1 hi2 R.zs R.pos v xs.length (R.cells xs) hs hown ad 1 c (R.cell p) hx (by simpa using R.len p) ?_ (R.one p) (by decide) (by unfold maxLen;omega) hbytes hbase _ rfl ?_
  ·exact Gn
  ·intro g cap w' h2 h3 h4 h5
   have hB:Below bZ w w':=(DF bZ w).grown h3 hbase (fun k hk=>(Rec.Own.ltV hown k hk).1);refine h g cap w' ?_ ⟨hB.os,hB.tape,hB.output,hB.size,fun j hj hne=>h3.block j hj (fun e=>hne e.symm)⟩ ?_
   ·unfold Rec.Own;rw[R.cells_append,DL,Rec.cells,Rec.cells,DR];exact h2
   ·rcases h4 with h4|h4
    ·exact .inl h4
    ·exact .inr (by omega)
theorem GQ {T:Prop} (h:T:=by
 rcases Nat.lt_or_ge j (R.cell p).length with h|h
 ·exact h
 ·simp[List.getElem?_eq_none h]at hj
):T:=h
theorem Rec.step_append1V {α:Type}{ops:Array Oper}{o:Oper}{a:Act}{K:Act→World→Prop}{Q:Exit→Act→World→Prop}{E:Prop}(R:Rec α)(wr:World)(p:α)(hgd:o.guard=none)(s x:Operand)(t:TypeId)(ho:o.op=.call { callee:=.builtin .append,args:=#[s,x],argTypes:=#[t,t] })(ht:Tryz.prog.underlying t=some (.slice R.e))(bZ:Nat)(v:Value)(xs:List α)(hs:a.eval s=v)(hown:R.Own wr bZ v xs)(c:Nat)(hx:a.eval x=.slice (some ⟨wr.heap.size,0,none⟩) 1 c)(cs:Array Value)(hcs:cs=(R.cell p).toArray)(e:TypeId)(he:e=R.e)(hbytes:(xs.length+1)*R.bytes≤140737488355328)(hbase:bZ≤wr.heap.size)(h:∀ g cap w',R.Own w' bZ (.slice (some ⟨g,0,none⟩) (xs.length+1) cap) (xs++[p])→Chg (fun k=>v.ownBlock=some k) wr w'→(v.ownBlock=some g∨wr.heap.size≤g)→K (a.put o.dst (.slice (some ⟨g,0,none⟩) (xs.length+1) cap)) w'):if Region.wanted o (yielded ops a.tmps)=true then Oper.wp Tryz.prog o a (wr.alloc (.cells cs e)) K Q else E:=by
 subst hcs he;obtain⟨i,hi,hz,hi1,hi2⟩:=info_parts R.info;have hn:xs.length+1≤(xs.length+1)*R.bytes:=Nat.le_mul_of_pos_right _ R.bpos;refine step_append_lies _ hgd s x t ho bZ R.e i R.z R.n R.bytes ht hi hz hi1 hi2 R.zs R.pos v xs.length (R.cells xs) hs (World.ownsRow.alloc hown _) ⟨wr.heap.size,0,none⟩ 1 c (R.cell p) hx (by simpa using R.len p) ?_ (R.one p) (by decide) (by unfold maxLen;omega) hbytes (by simp;omega) _ rfl ?_
 ·intro j u hj
  have:j<(R.cell p).length:=by
   exact GQ
  exact GX
 ·intro g cap w' h2 h3 h4 h5
  have hB:Below bZ wr w':=((DF bZ wr).alloc hbase _).grown h3 (by simp;omega) (fun k hk=>(Rec.Own.ltV hown k hk).1);refine h g cap w' ?_ ⟨hB.os,hB.tape,hB.output,hB.size,fun j hj hne=>?_⟩ ?_
  ·unfold Rec.Own;rw[R.cells_append,DL,Rec.cells,Rec.cells,DR];exact h2
  ·rw[h3.block j (by simp;omega) (fun e=>hne e.symm)]
   exact Below.heap_alloc _ _ _ hj
  ·rcases h4 with h4|h4
   ·exact .inl h4
   ·exact .inr (by simp at h4;omega)
theorem Rec.Own.shortRun {α:Type}{R:Rec α}{w:World}{bZ g c:Nat}{l:List α}(h:R.Own w bZ (.slice (some ⟨g,0,none⟩) l.length c) l)(st:TypeId)(hst:Tryz.prog.underlying st=some (.slice (Tryz.prog.elem st)))(hsz:∀ wx,(sizeOf (Tryz.prog.elem st)).run Tryz.prog wx=.ok R.n wx)(k:Nat)(hk:k≤l.length):∀ wx,(Instr.slice st (.slice (some ⟨g,0,none⟩) l.length c) none (some (.int .i64 (k:Int))) none).run Tryz.prog wx=.ok (.slice (some ⟨g,0,none⟩) k c) wx:=by
 intro wx;obtain⟨_,a',cap',hv,hle⟩:=id h.row;injection hv with _ _ h3
 subst h3;have hr:=run_slice_h wx st (some ⟨g,0,none⟩) l.length c hst .i64 k (by omega) (by omega);rw[hsz]at hr;rw[hr];simp only[Result.andThen,sliced]
 split<;>simp[Addr.add]
def vbV (b:Vb):Value:=.agg #[.int .u8 (b.op.toNat:Int),.string (bs b.want),.string (bs b.opn),.int .i64 (b.at_:Int),.bool b.did]
section
variable {w w' w3:World}{bZ G:Nat}{tv cv bv sv ev bv' sv':Value}{inp:Nat}{role:UInt8}{s:Vs}
theorem oL (b:Vb)(h:VG w bZ G tv cv inp role s bv sv ev)(hl:s.blocks.length≤1000):Calls Tryz.prog 231 #[.pointer (some ⟨G,5,none⟩),vbV b] w fun e w'=>(∃ v,e=.returned v)∧(∃ bv',VG w' bZ G tv cv inp role { s with blocks:=s.blocks++[b] } bv' sv ev)∧Below bZ w w':=by
 obtain⟨⟨ab,cb,rfl⟩,_,_⟩:=h.slices;have HH:=zH h;obtain⟨W1,hW1⟩:=ex_ (w.alloc (.cells #[.int .u8 (b.op.toNat:Int),.string (bs b.want),.string (bs b.opn),.int .i64 (b.at_:Int),.bool b.did] 315));have hb1:=ba_ hW1;have hx:=bm_ hW1;have h1:=h.below hb1;have c5:=h1.cell (k:=5) rfl;obtain⟨x0,x1,x2,x3,x4⟩:=cl5 hx;have H1:=zH h1;have HB1:=zH hb1;clear h h1 hx hb1;unfold vbV;go_enter Tryz.func231,Tryz.ntmps231;go_upto_region 1 with fail;rw[←hW1];clear hW1;have h1d:=H1.o.below (b_drew W1);have hgb:bZ≤W1.drew.heap.size:=DG h1d.gb (DA h1d.blk.lt);have hby:(s.blocks.length+1)*56≤140737488355328:=by omega
 have H1D:=zH h1d;have hod:=h1d.ob;have hGl:G<W1.heap.size:=H1.o.blk.lt;have hwl:w.heap.size<W1.heap.size:=aD x0;clear h1d;go_region_law (refine kj.step_append1V W1.drew b rfl _ _ 277 rfl Tryz.underlying277 bZ (.slice ab s.blocks.length cb) s.blocks rfl hod _ rfl _ rfl _ rfl hby hgb ?_;intro g gc w3 hown3 hc3 hg3;have hn:=H1D.o.newB (bv':=.slice (some ⟨g,0,none⟩) (s.blocks.length+1) gc) hc3 (fun k hk=>by cases hk;exact hg3) hown3;have hb3:Blk w3 G 281 _:=H1D.o.blk.chg hc3 (fun e=>(H1D.o.a1 G e).1 rfl);have f5:=hb3.free (k:=5) (by simp);have c5':=hb3.cell (k:=5) rfl;have HN:=zH hn;clear hn hb3 hown3 hc3 hg3)
 all_goals
  refine bodyPost_end (results_none rfl _ _ _) rfl ?_;exact⟨⟨_,rfl⟩,⟨_,HN.o.1⟩,((bt HB1.o (b_drew W1)).mono (DG HH.o.gb (DA HH.o.blk.lt))).trans HN.o.2⟩
theorem yk (h:VG w bZ G tv cv inp role s bv sv ev)(hl:s.blocks.length≤1000)(h0:0<s.blocks.length):Calls Tryz.prog 232 #[.pointer (some ⟨G,5,none⟩)] w fun e w'=>(∃ v,e=.returned v)∧(∃ bv',VG w' bZ G tv cv inp role { s with blocks:=s.blocks.dropLast } bv' sv ev)∧Below bZ w w':=by
 obtain⟨⟨ab,cb,rfl⟩,_,_⟩:=h.slices;obtain⟨m,hm⟩:∃ m,s.blocks.length=m+1:=⟨s.blocks.length-1,by omega⟩
 have hm1:(s.blocks.length:Int)-1=(m:Int):=by omega
 have hm2:(m:Int)<(s.blocks.length:Int):=by omega
 have hm3:=nn_ m;have hm4:(s.blocks.length:Int)≤1000:=by omega
 have hd:s.blocks.dropLast=s.blocks.take m:=by rw[List.dropLast_eq_take];congr 1;omega
 have HD:=zH hd;have HM:=zH hm;have c5:=h.cell (k:=5) rfl;have HH:=zH h;obtain⟨g,rfl⟩:=h.ob.at0 h0;have hrun:=h.ob.shortRun 277 Tryz.underlying277 (by intro wx;kernel_rfl) m (by omega);clear h h0 hd hm;go_enter Tryz.func232,Tryz.ntmps232;go_wp2;refine ba 12 [(4,.exact _ (.slice (some ⟨g,0,none⟩) s.blocks.length cb)),(8,.exact _ (.slice (some ⟨g,0,none⟩) s.blocks.length cb))] (by kernel_rfl) (by kernel_rfl) ?_;simp only[DQ,DW,DO,DX];refine cG ?_;refine gE_ (fun w' G hB hS hG=>?_) (fun K hK=>?_)
 ·exact GG
 refine cO ?_;clear hK K;refine gE_ (fun w' G hB hS hG=>?_) (fun K hK=>?_)
 ·exact GG
 refine cO ?_;clear hK K;refine aI ?_;intro w5 hB5 hA5;have h5:=HH.o.below hB5;have f5:=h5.free (k:=5) (by decide);have c5':=h5.cell (k:=5) rfl;have hn:=h5.newB (bv':=.slice (some ⟨g,0,none⟩) m cb) (l:=s.blocks.take m) (Chg.refl _ _) (fun k hk=>by cases hk;exact .inl rfl) (h5.ob.short m (by have:=HM.o;omega));have HN:=zH hn;have HB5:=zH hB5;clear hB5 hA5 h5 hn c5;go_wp2;refine bodyPost_end (results_none rfl _ _ _) rfl ?_;rw[HD.o];exact⟨⟨_,rfl⟩,⟨_,HN.o.1⟩,(HB5.o.mono (DG HH.o.gb (DA HH.o.blk.lt))).trans HN.o.2⟩
end
end
section
theorem kf (nt inp:Nat)(role:UInt8)(i:Nat)(s:Vs):ep nt inp role i [] s=(i,overV role s,s):=rfl
theorem mj {nt inp:Nat}{role:UInt8}{i:Nat}{x:VI}{r:List VI}{s:Vs}(h:(bI nt inp role i x s).1=0):ep nt inp role i (x::r) s=ep nt inp role (i+1) r (bI nt inp role i x s).2:=by rw[ep,if_pos h]
theorem gK {nt inp:Nat}{role:UInt8}{i:Nat}{x:VI}{r:List VI}{s:Vs}(h:(bI nt inp role i x s).1≠0):ep nt inp role i (x::r) s=(i,(bI nt inp role i x s).1,(bI nt inp role i x s).2):=by rw[ep,if_neg h]
theorem sr:dj.length=24:=by decide
theorem ij {nt inp:Nat}{role:UInt8}{i:Nat}{x:VI}{s:Vs}(h:(bI nt inp role i x s).1=0):thereV nt inp role s.blocks x=0:=by
 unfold bI at h
 split at h
 ·rename_i h0;exact absurd h h0
 ·rename_i h0;simpa using h0
theorem dU {texts:LL_}{code:List VI}{role:UInt8}(h:(aq texts code role).2.1=0):cK texts code=true∧cY role=true∧∃ n,ep texts.length (inputsV role) role 0 code (aS code.length)=(n,0,(aq texts code role).2.2):=by
 unfold aq at h⊢
 split at h
 ·rename_i hm
  rw[DS]at hm;refine⟨hm.1,hm.2,?_⟩;rw[if_pos (by rw[hm.1,hm.2];rfl)]
  split at h
  ·rename_i h0
   rw[if_pos h0];exact⟨_,Prod.ext rfl (Prod.ext h0 rfl)⟩
  ·rename_i h0
   exact absurd h h0
 ·cases h
def opensV (op:UInt8):Bool:=op==19||op==22||op==20
def stV (nt inp:Nat)(role:UInt8)(code:List VI):Nat→Vs
 | 0=>aS code.length
 | i+1=>(bI nt inp role i (code.getD i (0,0)) (stV nt inp role code i)).2
theorem uP {nt inp:Nat}{role:UInt8}{code:List VI}{n:Nat}{t:Vs}:∀ (r:List VI) (i:Nat),r=code.drop i→i≤code.length→ep nt inp role i r (stV nt inp role code i)=(n,0,t) → (∀ j,i≤j→j<code.length→(bI nt inp role j (code.getD j (0,0)) (stV nt inp role code j)).1=0)∧stV nt inp role code code.length=t∧overV role t=0
 | [],i,hr,hi,h=>by
  have hl:i=code.length:=by
   have:=congrArg List.length hr;simp at this;omega
  subst hl;rw[kf]at h;injection h with _ h
  injection h with h1 h2
  exact⟨fun j h1 h2=>by omega,h2,by rw[←h2];exact h1⟩
 | x::r,i,hr,hi,h=>by
  have hlt:i<code.length:=by
   rcases Nat.lt_or_ge i code.length with h'|h'
   ·exact h'
   ·rw[List.drop_of_length_le h']at hr;cases hr
  rw[Dw hlt]at hr;injection hr with hx hr
  have hx':code.getD i (0,0)=x:=by rw[List.getD,List.getElem?_eq_getElem hlt,hx];rfl
  by_cases h0:(bI nt inp role i x (stV nt inp role code i)).1=0
  ·rw[mj h0]at h
   have hst:stV nt inp role code (i+1)=(bI nt inp role i x (stV nt inp role code i)).2:=by rw[stV,hx']
   rw[←hst]at h;obtain⟨g1,g2⟩:=uP r (i+1) hr hlt h;refine⟨fun j h1 h2=>?_,g2⟩
   by_cases e:j=i
   ·subst e;rw[hx'];exact h0
   ·exact g1 j (by omega) h2
  ·rw[gK h0]at h
   injection h with _ h
   injection h with h1 h2
   exact absurd h1 h0
theorem xw (x:VI)(h:x.1=20∨x.1=21):bG x=([],[]):=by
 obtain⟨p,a⟩:=x;rcases h with h|h
 ·obtain rfl:p=20:=h
  rfl
 ·obtain rfl:p=21:=h
  rfl
theorem zB (x:VI)(h:x.1=19∨x.1=22):(bG x).1.length=1∧(bG x).2=[]:=by
 obtain⟨p,a⟩:=x;rcases h with h|h
 ·obtain rfl:p=19:=h
  exact⟨rfl,rfl⟩
 ·obtain rfl:p=22:=h
  exact⟨rfl,rfl⟩
theorem jX {k:LU_}{x:VI}(h:x.1=20∨x.1=21):(aF k x).2=k:=by
 have he:=xw x h;unfold aF;rw[he]
 split
 ·rfl
 split
 ·rfl
 split
 ·rfl
 simp[bw]
theorem qD {k:LU_}{x:VI}(h:x.1=19∨x.1=22)(h0:(aF k x).1=0):(aF k x).2=k.take (k.length-min 1 k.length):=by
 obtain⟨h1,h2⟩:=zB x h;unfold aF at h0⊢;rw[h1,h2]at h0⊢
 split at h0
 ·cases h0
 rename_i hl;rw[if_neg hl]
 split at h0
 ·cases h0
 rename_i hf;rw[if_neg hf]
 split at h0
 ·cases h0
 rename_i hm;rw[if_neg hm];show k.take (k.length-1)++[]=_;rw[DR];congr 1;omega
theorem s4 {k:LU_}{x:VI}(h0:(aF k x).1=0):(aF k x).2.length≤16∧(x.1=22→(aF k x).2.length<16):=by
 unfold aF at h0⊢
 split at h0
 ·cases h0
 rename_i hl;rw[if_neg hl]
 split at h0
 ·cases h0
 rename_i hf;rw[if_neg hf]
 split at h0
 ·cases h0
 rename_i hm;rw[if_neg hm];obtain⟨r,hr⟩:=ex_ (k.take (k.length-(bG x).1.length)++bw (k.drop (k.length-(bG x).1.length)) (bG x).2);rw[←hr]at hm⊢;refine⟨?_,fun e=>?_⟩
 ·show r.length≤16
  omega
 ·show r.length<16
  have:¬16≤r.length:=fun h=>hm (.inl ⟨e,h⟩);omega
inductive sL (i:Nat) (x:VI) (s s':Vs):Prop where
 | push (h:x.1=19∨x.1=22) (k:LU_) (hk:k=s.kinds.take (s.kinds.length-min 1 s.kinds.length)) (hb:s'.blocks=s.blocks++[⟨x.1,k,k,i,false⟩]) (he:s'.ends=s.ends)
 | turn (h:x.1=20) (r:List Vb) (b:Vb) (hl:s.blocks=r++[b]) (hb:s'.blocks=r++[{ b with want:=s.kinds,at_:=i,did:=true }]) (he:s'.ends=s.ends.set b.at_ (i:Int))
 | pop (h:x.1=21) (r:List Vb) (b:Vb) (hl:s.blocks=r++[b]) (hk:s.kinds=b.want) (hb:s'.blocks=r) (he:s'.ends=s.ends.set b.at_ (i:Int))
 | rest (h:opensV x.1=false∧x.1≠21) (hb:s'.blocks=s.blocks) (he:s'.ends=s.ends)
theorem eU {α:Type}{l:List α}{b:α}(h:l.getLast?=some b):l=l.dropLast++[b]:=by
 obtain⟨ys,rfl⟩:=List.getLast?_eq_some_iff.1 h;rw[List.dropLast_concat]
theorem jk {nt inp:Nat}{role:UInt8}{i:Nat}{x:VI}{s:Vs}(hk:s.kinds.length≤16)(h0:(bI nt inp role i x s).1=0):sL i x s (bI nt inp role i x s).2∧(bI nt inp role i x s).2.seen=s.seen++[s.kinds]∧(bI nt inp role i x s).2.deep=max s.deep (bI nt inp role i x s).2.kinds.length:=by
 have ht:=ij h0
 have hbl:x.1=20∨x.1=21→s.blocks≠[]:=by
  intro e hb;unfold thereV at ht;rw[hb]at ht;rcases e with e|e
  ·rw[e]at ht
   revert ht;simp[cQ]
  ·rw[e]at ht
   revert ht;simp
 unfold bI at h0⊢;rw[if_neg (by rw[ht];simp)]at h0⊢
 split at h0
 ·rename_i hv;exact absurd h0 hv
 rename_i hv;rw[if_neg hv];have hv0:(aF s.kinds x).1=0:=by simpa using hv
 clear hv;have hcn:=@jX s.kinds x;have hco:x.1=19∨x.1=22→_:=fun h=>qD (k:=s.kinds) h hv0;obtain⟨k',hk'⟩:∃ k',k'=(aF s.kinds x).2:=⟨_,rfl⟩
 rw[←hk']at hcn hco h0;simp only[←hk'];unfold turnsV at h0⊢
 by_cases h19:x.1=19
 ·simp only[h19,if_true]at h0⊢
  exact⟨.push (.inl h19) k' (hco (.inl h19)) (by rw[h19]) rfl,(by first|trivial|rfl),(by first|trivial|rfl)⟩
 by_cases h22:x.1=22
 ·rw[if_neg h19,if_pos h22]
  exact⟨.push (.inr h22) k' (hco (.inr h22)) (by rw[h22]) rfl,(by first|trivial|rfl),(by first|trivial|rfl)⟩
 rw[if_neg h19,if_neg h22]at h0⊢
 by_cases h20:x.1=20
 ·have hk2:=hcn (.inl h20)
  have hne:=hbl (.inl h20);rw[if_pos h20]at h0⊢
  cases hb:s.blocks.getLast? with
  | none=>exact absurd (List.getLast?_eq_none_iff.1 hb) hne
  | some b =>
   refine⟨.turn h20 s.blocks.dropLast b (eU hb) ?_ rfl,(by first|trivial|rfl),(by first|trivial|rfl)⟩;simp only[hk2]
 rw[if_neg h20]at h0⊢
 by_cases h21:x.1=21
 ·have hk2:=hcn (.inr h21)
  have hne:=hbl (.inr h21);rw[if_pos h21]at h0⊢
  cases hb:s.blocks.getLast? with
  | none=>exact absurd (List.getLast?_eq_none_iff.1 hb) hne
  | some b =>
   simp only[hb]at h0⊢
   by_cases hw:k'=b.want
   ·rw[if_pos hw]
    exact⟨.pop h21 s.blocks.dropLast b (eU hb) (by rw[←hk2];exact hw) rfl rfl,(by first|trivial|rfl),(by first|trivial|rfl)⟩
   ·rw[if_neg hw]at h0;cases h0
 rw[if_neg h21];refine⟨.rest ⟨?_,h21⟩ rfl rfl,(by first|trivial|rfl),(by first|trivial|rfl)⟩;unfold opensV;simp[h19,h22,h20]
def opV (code:List VI)(j:Nat):UInt8:=(code.getD j (0,0)).1
def td (k:LU_):LU_:=k.take (k.length-min 1 k.length)
structure uH (code:List VI) (i:Nat) (s:Vs):Prop where
 sl:s.seen.length=i
 el:s.ends.length=code.length
 sk:∀ k∈s.seen,k.length≤16
 st:(s.blocks.map Vb.at_).Pairwise (·<·)
 bl:∀ b∈s.blocks,b.at_<i∧opensV (opV code b.at_)=true∧(b.did=true↔opV code b.at_=20)∧b.want=(if b.did=true then s.seen.getD b.at_ [] else td (s.seen.getD b.at_ []))
 en:∀ j,j<code.length→(s.ends.getD j 0=0∧(j<i→opensV (opV code j)=true→j∈s.blocks.map Vb.at_))∨(j<i∧opensV (opV code j)=true∧(j:Int)<s.ends.getD j 0∧s.ends.getD j 0<(i:Int)∧j ∉ s.blocks.map Vb.at_)
theorem up {α:Type}{l r:List α}{j:Nat}{d:α}(h:j<l.length):(l++r).getD j d=l.getD j d:=by
 simp[List.getD,List.getElem?_append_left h]
theorem xr {α:Type}{l:List α}{x d:α}:(l++[x]).getD l.length d=x:=by simp[List.getD]
theorem fi {l:List Int}{a j:Nat}{v:Int}(h:a≠j):(l.set a v).getD j 0=l.getD j 0:=by simp[List.getD,List.getElem?_set,h]
theorem gr {l:List Int}{a:Nat}{v:Int}(h:a<l.length):(l.set a v).getD a 0=v:=by simp[List.getD,h]
theorem uH.old {code:List VI}{i:Nat}{s:Vs}(h:uH code i s){b:Vb}(hb:b∈s.blocks){k:LU_}:b.at_<i+1∧opensV (opV code b.at_)=true∧(b.did=true↔opV code b.at_=20)∧b.want=(if b.did=true then (s.seen++[k]).getD b.at_ [] else td ((s.seen++[k]).getD b.at_ [])):=by
 obtain⟨h1,h2,h3,h4⟩:=h.bl b hb;rw[up (by rw[h.sl];exact h1)];exact⟨by omega,h2,h3,h4⟩
theorem gJ {r:List Vb}{b:Vb}(h:((r++[b]).map Vb.at_).Pairwise (·<·)):(r.map Vb.at_).Pairwise (·<·)∧∀ a∈r.map Vb.at_,a<b.at_:=by
 rw[DJ,List.pairwise_append]at h;exact⟨h.1,fun a ha=>h.2.2 a ha b.at_ (by simp)⟩
theorem uH.step {code:List VI}{i:Nat}{s s':Vs}(h:uH code i s)(hi:i<code.length)(hk:s.kinds.length≤16)(hs:sL i (code.getD i (0,0)) s s')(hseen:s'.seen=s.seen++[s.kinds]):uH code (i+1) s':=by
 have hop:opV code i=(code.getD i (0,0)).1:=rfl;have hsl:s'.seen.length=i+1:=by rw[hseen,DL,h.sl];rfl
 have hsk:∀ k∈s'.seen,k.length≤16:=by
  intro k hk';rw[hseen]at hk';rcases DM.1 hk' with h1|h1
  ·exact h.sk k h1
  ·rw[DZ]at h1;subst h1;exact hk
 have hmid:(s.seen++[s.kinds]).getD i []=s.kinds:=by rw[←h.sl];exact xr
 have hlt:∀ a∈s.blocks.map Vb.at_,a<i:=by
  intro a ha;obtain⟨b,hb,rfl⟩:=List.mem_map.1 ha;exact(h.bl b hb).1
 rcases hs with ⟨hx,k,hkk,hb,he⟩|⟨hx,r,b,hl,hb,he⟩|⟨hx,r,b,hl,hkw,hb,he⟩|⟨hx,hb,he⟩
 ·refine⟨hsl,by rw[he];exact h.el,hsk,?_,?_,?_⟩
  ·rw[hb,DJ,List.pairwise_append]
   exact⟨h.st,by simp,fun a ha c hc=>by simp at hc;subst hc;exact hlt a ha⟩
  ·intro c hc
   rw[hb]at hc;rw[hseen];rcases DM.1 hc with hc|hc
   ·exact h.old hc
   ·rw[DZ]at hc;subst hc
    refine⟨Nat.lt_succ_self i,?_,?_,?_⟩
    ·show opensV (opV code i)=true
     rw[hop];unfold opensV;rcases hx with e|e<;>rw[e]<;>rfl
    ·show false=true↔opV code i=20
     rw[hop];rcases hx with e|e<;>rw[e]<;>simp
    ·show k=if false=true then _ else td ((s.seen++[s.kinds]).getD i [])
     rw[hmid,hkk];rfl
  ·intro j hj
   rw[he,hb,DJ];rcases h.en j hj with ⟨h1,h2⟩|⟨h1,h2,h3,h4,h5⟩
   ·refine .inl ⟨h1,fun h3 h4=>DM.2 ?_⟩
    by_cases e:j=i
    ·exact .inr (by simp[e])
    ·exact .inl (h2 (by omega) h4)
   ·refine .inr ⟨by omega,h2,h3,by omega,fun hm=>?_⟩
    rcases DM.1 hm with hm|hm
    ·exact h5 hm
    ·simp at hm;omega
 ·have hbm:b∈s.blocks:=by rw[hl];simp
  obtain⟨b1,b2,b3,b4⟩:=h.bl b hbm;obtain⟨st1,st2⟩:=gJ (by rw[←hl];exact h.st);have hrm:∀ a∈r.map Vb.at_,a∈s.blocks.map Vb.at_:=fun a ha=>by rw[hl,DJ];exact DM.2 (.inl ha)
  refine⟨hsl,by rw[he,DT];exact h.el,hsk,?_,?_,?_⟩
  ·rw[hb,DJ,List.pairwise_append]
   exact⟨st1,by simp,fun a ha c hc=>by simp at hc;subst hc;exact hlt a (hrm a ha)⟩
  ·intro c hc
   rw[hb]at hc;rw[hseen];rcases DM.1 hc with hc|hc
   ·exact h.old (by rw[hl];exact DM.2 (.inl hc))
   ·rw[DZ]at hc;subst hc
    refine⟨Nat.lt_succ_self i,?_,?_,?_⟩
    ·show opensV (opV code i)=true
     rw[hop,hx];rfl
    ·show true=true↔opV code i=20
     rw[hop,hx];simp
    ·show s.kinds=if true=true then (s.seen++[s.kinds]).getD i [] else _
     rw[hmid];rfl
  ·intro j hj
   rw[he,hb,DJ]
   by_cases ej:b.at_=j
   ·subst ej
    rw[gr (by rw[h.el];exact hj)];refine .inr ⟨by omega,b2,by omega,by omega,fun hm=>?_⟩;rcases DM.1 hm with hm|hm
    ·have:=st2 _ hm;omega
    ·simp at hm;omega
   ·rw[fi ej]
    rcases h.en j hj with ⟨h1,h2⟩|⟨h1,h2,h3,h4,h5⟩
    ·refine .inl ⟨h1,fun h3 h4=>DM.2 ?_⟩
     by_cases e:j=i
     ·exact .inr (by simp[e])
     ·have:=h2 (by omega) h4
      rw[hl,DJ]at this;rcases DM.1 this with hm|hm
      ·exact .inl hm
      ·simp at hm;exact absurd hm.symm ej
    ·refine .inr ⟨by omega,h2,h3,by omega,fun hm=>?_⟩
     rcases DM.1 hm with hm|hm
     ·exact h5 (hrm j hm)
     ·simp at hm;omega
 ·have hbm:b∈s.blocks:=by rw[hl];simp
  obtain⟨b1,b2,b3,b4⟩:=h.bl b hbm;obtain⟨st1,st2⟩:=gJ (by rw[←hl];exact h.st);have hrm:∀ a∈r.map Vb.at_,a∈s.blocks.map Vb.at_:=fun a ha=>by rw[hl,DJ];exact DM.2 (.inl ha)
  refine⟨hsl,by rw[he,DT];exact h.el,hsk,by rw[hb];exact st1,?_,?_⟩
  ·intro c hc
   rw[hb]at hc;rw[hseen];exact h.old (by rw[hl];exact DM.2 (.inl hc))
  ·intro j hj
   rw[he,hb]
   by_cases ej:b.at_=j
   ·subst ej
    rw[gr (by rw[h.el];exact hj)];refine .inr ⟨by omega,b2,by omega,by omega,fun hm=>?_⟩;have:=st2 _ hm;omega
   ·rw[fi ej]
    rcases h.en j hj with ⟨h1,h2⟩|⟨h1,h2,h3,h4,h5⟩
    ·refine .inl ⟨h1,fun h3 h4=>?_⟩
     by_cases e:j=i
     ·subst e
      rw[hop,hx]at h4;cases h4
     ·have:=h2 (by omega) h4
      rw[hl,DJ]at this;rcases DM.1 this with hm|hm
      ·exact hm
      ·simp at hm;exact absurd hm.symm ej
    ·exact .inr ⟨by omega,h2,h3,by omega,fun hm=>h5 (hrm j hm)⟩
 ·refine⟨hsl,by rw[he];exact h.el,hsk,by rw[hb];exact h.st,?_,?_⟩
  ·intro c hc
   rw[hb]at hc;rw[hseen];exact h.old hc
  ·intro j hj
   rw[he,hb];rcases h.en j hj with ⟨h1,h2⟩|⟨h1,h2,h3,h4,h5⟩
   ·refine .inl ⟨h1,fun h3 h4=>?_⟩
    by_cases e:j=i
    ·subst e
     rw[hop,hx.1]at h4;cases h4
    ·exact h2 (by omega) h4
   ·exact .inr ⟨by omega,h2,h3,by omega,h5⟩
theorem sL.keep {i:Nat}{x:VI}{s s':Vs}(hs:sL i x s s'){j:Nat}(hj:j<i)(hn:j ∉ s.blocks.map Vb.at_):s'.ends.getD j 0=s.ends.getD j 0∧j ∉ s'.blocks.map Vb.at_:=by
 rcases hs with ⟨_,k,_,hb,he⟩|⟨_,r,b,hl,hb,he⟩|⟨_,r,b,hl,_,hb,he⟩|⟨_,hb,he⟩
 ·rw[he,hb,DJ]
  refine⟨rfl,fun hm=>?_⟩;rcases DM.1 hm with hm|hm
  ·exact hn hm
  ·simp at hm;omega
 ·rw[hl,DJ]at hn
  rw[he,hb,DJ];refine⟨fi (fun e=>hn (DM.2 (.inr (by simp[e])))),fun hm=>?_⟩;rcases DM.1 hm with hm|hm
  ·exact hn (DM.2 (.inl hm))
  ·simp at hm;omega
 ·rw[hl,DJ]at hn
  rw[he,hb];exact⟨fi (fun e=>hn (DM.2 (.inr (by simp[e])))),fun hm=>hn (DM.2 (.inl hm))⟩
 ·rw[he,hb]
  exact⟨rfl,hn⟩
theorem s8 (code:List VI):uH code 0 (aS code.length):=by
 refine⟨rfl,by simp[aS],fun k hk=>by simp[aS]at hk,by simp[aS],fun b hb=>by simp[aS]at hb,fun j hj=>.inl ⟨?_,fun h=>by omega⟩⟩;simp[aS,List.getD,List.getElem?_replicate,hj]
theorem tU {nt inp:Nat}{role:UInt8}{i:Nat}{x:VI}{s:Vs}(hw:∀ b∈s.blocks,b.opn.length≤16)(h0:(bI nt inp role i x s).1=0):(bI nt inp role i x s).2.kinds.length≤16∧∀ b∈(bI nt inp role i x s).2.blocks,b.opn.length≤16:=by
 have ht:=ij h0;unfold bI at h0⊢;rw[if_neg (by rw[ht];simp)]at h0⊢
 split at h0
 ·rename_i hv;exact absurd h0 hv
 rename_i hv;rw[if_neg hv];have hv0:(aF s.kinds x).1=0:=by simpa using hv
 clear hv;obtain⟨hle,hlt⟩:=s4 hv0;obtain⟨k',hk'⟩:∃ k',k'=(aF s.kinds x).2:=⟨_,rfl⟩
 rw[←hk']at hle hlt h0;simp only[←hk'];unfold turnsV at h0⊢
 by_cases h19:x.1=19
 ·simp only[h19,if_true]at h0⊢
  refine⟨hle,fun b hb=>?_⟩;rcases DM.1 hb with hb|hb
  ·exact hw b hb
  ·rw[DZ]at hb;subst hb;exact hle
 by_cases h22:x.1=22
 ·rw[if_neg h19,if_pos h22]
  refine⟨by have:=hlt h22;simp;omega,fun b hb=>?_⟩;rcases DM.1 hb with hb|hb
  ·exact hw b hb
  ·rw[DZ]at hb;subst hb;exact hle
 rw[if_neg h19,if_neg h22]at h0⊢
 by_cases h20:x.1=20
 ·rw[if_pos h20]at h0⊢
  cases hb:s.blocks.getLast? with
  | none=>exact⟨hle,hw⟩
  | some b =>
   have hbm:b∈s.blocks:=by rw[eU hb];simp
   refine⟨hw b hbm,fun c hc=>?_⟩;rcases DM.1 hc with hc|hc
   ·exact hw c (List.dropLast_subset _ hc)
   ·rw[DZ]at hc;subst hc;exact hw b hbm
 rw[if_neg h20]at h0⊢
 by_cases h21:x.1=21
 ·rw[if_pos h21]at h0⊢
  cases hb:s.blocks.getLast? with
  | none=>exact⟨hle,hw⟩
  | some b =>
   simp only[hb]at h0⊢
   by_cases hwb:k'=b.want
   ·rw[if_pos hwb]
    exact⟨hle,fun c hc=>hw c (List.dropLast_subset _ hc)⟩
   ·rw[if_neg hwb]at h0;cases h0
 rw[if_neg h21];exact⟨hle,hw⟩
structure CQ (nt inp:Nat) (role:UInt8) (code:List VI) (i:Nat):Prop where
 inv:uH code i (stV nt inp role code i)
 k:(stV nt inp role code i).kinds.length≤16
 d:(stV nt inp role code i).deep≤16
 w:∀ b∈(stV nt inp role code i).blocks,b.opn.length≤16
theorem mi {nt inp:Nat}{role:UInt8}{code:List VI}(hok:∀ j,j<code.length→(bI nt inp role j (code.getD j (0,0)) (stV nt inp role code j)).1=0):∀ i,i≤code.length→CQ nt inp role code i
 | 0,_=>⟨s8 code,by simp[stV,aS],by simp[stV,aS],fun b hb=>by simp[stV,aS]at hb⟩
 | i+1,hi=>by
  obtain⟨h1,h2,h3,h4⟩:=mi hok i (by omega);have h0:=hok i (by omega);obtain⟨hs,hseen,hdeep⟩:=jk h2 h0;obtain⟨hk,hw⟩:=tU h4 h0;refine⟨h1.step (by omega) h2 hs hseen,hk,?_,hw⟩;show(bI nt inp role i (code.getD i (0,0)) (stV nt inp role code i)).2.deep≤16;rw[hdeep];omega
theorem mG {nt inp:Nat}{role:UInt8}{code:List VI}(hok:∀ j,j<code.length→(bI nt inp role j (code.getD j (0,0)) (stV nt inp role code j)).1=0){i j:Nat}(hj:j<i)(hn:j ∉ (stV nt inp role code i).blocks.map Vb.at_):∀ k,i+k≤code.length→(stV nt inp role code (i+k)).ends.getD j 0=(stV nt inp role code i).ends.getD j 0∧j ∉ (stV nt inp role code (i+k)).blocks.map Vb.at_
 | 0,_=>⟨rfl,hn⟩
 | k+1,hk=>by
  obtain⟨ih1,ih2⟩:=mG hok hj hn k (by omega);obtain⟨h1,h2,h3,h4⟩:=mi hok (i+k) (by omega);obtain⟨hs,hseen,hdeep⟩:=jk h2 (hok (i+k) (by omega));obtain⟨g1,g2⟩:=hs.keep (j:=j) (by omega) ih2;exact⟨g1.trans ih1,g2⟩
end
section
attribute [local irreducible] wpG
section
variable {nt inp:Nat}{role:UInt8}{bl:List Vb}{a:UInt8}
theorem th1:thereV nt inp role bl (1,a)=if nt≤a.toNat then 3 else 0:=by unfold thereV;simp
theorem th3:thereV nt inp role bl (3,a)=if inp≤a.toNat then 3 else 0:=by unfold thereV;simp
theorem Cr:thereV nt inp role bl (17,a)=if 8≤a.toNat then 3 else 0:=by unfold thereV;simp
theorem Cq:thereV nt inp role bl (18,a)=if 8≤a.toNat then 3 else 0:=by unfold thereV;simp
theorem Cm:thereV nt inp role bl (23,a)=if role=1 then 0 else 133:=by unfold thereV;by_cases h:role=1<;>simp[h]
theorem z7:thereV nt inp role bl (20,a)=if cQ bl.getLast?=true then 132 else 0:=by unfold thereV;simp
theorem Co:thereV nt inp role bl (21,a)=if bl=[] then 132 else 0:=by unfold thereV;simp
theorem Cp:thereV nt inp role bl (19,a)=if 8≤bl.length then 132 else 0:=by unfold thereV;simp
theorem Cn:thereV nt inp role bl (22,a)=if 8≤bl.length then 132 else 0:=by unfold thereV;simp
theorem thN {p:UInt8}(h1:p≠1)(h3:p≠3)(h17:p≠17)(h18:p≠18)(h23:p≠23)(h20:p≠20)(h21:p≠21)(h19:p≠19)(h22:p≠22):thereV nt inp role bl (p,a)=0:=by unfold thereV;simp[h1,h3,h17,h18,h23,h20,h21,h19,h22]
end
theorem aC {p:UInt8}{k:Nat}(hk:k<256)(h:p≠UInt8.ofNat k):((p.toNat:Int)==(k:Int))=false:=by
 rw[beq_eq_false_iff_ne];intro e;have e2:p.toNat=k:=by omega
 exact h (UInt8.toNat_inj.1 (by rw[e2];show k=k%256;omega))
section
variable {w:World}{bZ G:Nat}{tv cv bv sv ev:Value}{inp:Nat}{role:UInt8}{s:Vs}
theorem VG.last (h:VG w bZ G tv cv inp role s bv sv ev){g c m:Nat}(hv:bv=.slice (some ⟨g,0,none⟩) s.blocks.length c)(hm:s.blocks.length=m+1):∃ b,s.blocks.getLast?=some b∧s.blocks[m]?=some b∧w.cell? ⟨g,m*5,none⟩=some (.int .u8 (b.op.toNat:Int))∧w.cell? ⟨g,m*5+1,none⟩=some (.string (bs b.want)) ∧w.cell? ⟨g,m*5+2,none⟩=some (.string (bs b.opn))∧w.cell? ⟨g,m*5+3,none⟩=some (.int .i64 (b.at_:Int))∧w.cell? ⟨g,m*5+4,none⟩=some (.bool b.did):=by
 have hml:m<s.blocks.length:=by omega
 obtain⟨a,c',hv',_,hc⟩:=h.ob.row.open;rw[hv]at hv';injection hv' with e1 _ _
 obtain⟨b',off,ha,hu⟩:=hc m hml;rw[←e1]at ha;injection ha with ha
 injection ha with e2 e3 _
 subst e2 e3;have u0:=hu 0 _ rfl;have u1:=hu 1 _ rfl;have u2:=hu 2 _ rfl;have u3:=hu 3 _ rfl;have u4:=hu 4 _ rfl;rw[DE]at u0 u1 u2 u3 u4;exact⟨s.blocks[m],by rw[List.getLast?_eq_getElem?,hm];simp[hml],List.getElem?_eq_getElem hml,u0,u1,u2,u3,u4⟩
end
section
variable {w:World}{bZ G:Nat}{cv bv sv ev:Value}{inp:Nat}{role:UInt8}{s:Vs}{nt ct:Nat}{at_:Option Addr}
theorem Ev {T:Prop} (h:T:=by
 go_wp2_with fail;go_ret;exact⟨by rw[HE.o];rfl,bt HB1.o HB3.o⟩
):T:=h
theorem Ei {T:Prop} (h:T:=by
 refine cG ?_
 repeat(refine gE_ (fun w' G hB hS hG=>?_) (fun K hK=>?_);(have y0:=C8 hB x0;have y1:=C8 hB x1;have y2:=C8 hB g0;have y3:=C8 hB g2;go_simp;exact hG _ (Bel.refl _));refine cO ?_;clear hK K)
 refine aI ?_;intro w2 hB2 hA2;have z0:=C8 hB2 x0;have z1:=C8 hB2 x1;have z3:=C8 hB2 g3;have HB2:=zH hB2;clear hB2 hA2 x0 x1 g0 g2 g3;go_wp2_with fail;refine(HT.o _ HB2.o).mono ?_;rintro e w3 ⟨htop,hB3⟩;have HTOP:=zH htop;have HB3:=zH (bt HB2.o hB3);have u0:=C8 hB3 z0;have u1:=C8 hB3 z1;have u3:=C8 hB3 z3;clear htop hB3 z0 z1 z3;obtain⟨tp,rfl⟩:∃ tp,e=.returned tp:=by rcases HTOP.o with ⟨_,rfl⟩|⟨_,_,_,_,_,rfl⟩<;>exact⟨_,rfl⟩
 clear HTOP;exact Ev
):T:=h
theorem Ej {T:Prop} (h:T:=by
 refine cG ?_
 repeat(refine gE_ (fun w' G hB hS hG=>?_) (fun K hK=>?_);(have y0:=C8 hB x0;have y1:=C8 hB x1;have y2:=C8 hB g0;have y3:=C8 hB g2;go_simp;exact hG _ (Bel.refl _));refine cO ?_;clear hK K)
 refine aI ?_;intro w2 hB2 hA2;have z0:=C8 hB2 x0;have z1:=C8 hB2 x1;have z3:=C8 hB2 g3;have HB2:=zH hB2;clear hB2 hA2 x0 x1 g0 g2 g3;go_wp2_with fail;refine(HT.o _ HB2.o).mono ?_;rintro e w3 ⟨htop,hB3⟩;have HTOP:=zH htop;have HB3:=zH (bt HB2.o hB3);have u0:=C8 hB3 z0;have u1:=C8 hB3 z1;have u3:=C8 hB3 z3;clear htop hB3 z0 z1 z3;obtain⟨tp,rfl⟩:∃ tp,e=.returned tp:=by rcases HTOP.o with ⟨_,rfl⟩|⟨_,_,_,_,_,rfl⟩<;>exact⟨_,rfl⟩
 clear HTOP;go_wp2_with fail;refine(HLN.o _ HB3.o).mono ?_;rintro e w4 ⟨rfl,rfl⟩;exact Ev
):T:=h
theorem Ek {T:Prop} (h:T:=by
 exact Ev
):T:=h
theorem Em {T:Prop} (h:T:=by
 clear hq;go_enter Tryz.func216,Tryz.ntmps216;go_upto_region 1 with fail;rw[←hW1];clear hW1;refine rk_ [(1,.exact _ (.int .u8 23)),(5,.exact _ (.int .u8 (a.toNat:Int))),(11,.exact _ (.slice at_ nt ct)),(17,.exact _ (.int .u8 23)),(21,.exact _ (.int .u8 (a.toNat:Int))),(26,.exact _ (.int .i64 (inp:Int))),(32,.exact _ (.int .u8 23)),(36,.exact _ (.int .u8 23)),(41,.exact _ (.int .u8 (a.toNat:Int)))] ?_;exact Ei
):T:=h
theorem En {T:Prop} (h:T:=by
 clear hq;go_enter Tryz.func216,Tryz.ntmps216;go_upto_region 1 with fail;rw[←hW1];clear hW1;refine rk_ [(1,.exact _ (.int .u8 22)),(5,.exact _ (.int .u8 (a.toNat:Int))),(11,.exact _ (.slice at_ nt ct)),(17,.exact _ (.int .u8 22)),(21,.exact _ (.int .u8 (a.toNat:Int))),(26,.exact _ (.int .i64 (inp:Int))),(32,.exact _ (.int .u8 22)),(36,.exact _ (.int .u8 22)),(41,.exact _ (.int .u8 (a.toNat:Int)))] ?_;exact Ej
):T:=h
theorem Ep {T:Prop} (h:T:=by
 clear hq;go_enter Tryz.func216,Tryz.ntmps216;go_upto_region 1 with fail;rw[←hW1];clear hW1;refine rk_ [(1,.exact _ (.int .u8 19)),(5,.exact _ (.int .u8 (a.toNat:Int))),(11,.exact _ (.slice at_ nt ct)),(17,.exact _ (.int .u8 19)),(21,.exact _ (.int .u8 (a.toNat:Int))),(26,.exact _ (.int .i64 (inp:Int))),(32,.exact _ (.int .u8 19)),(36,.exact _ (.int .u8 19)),(41,.exact _ (.int .u8 (a.toNat:Int)))] ?_;exact Ej
):T:=h
theorem Er {T:Prop} (h:T:=by
 clear hq;go_enter Tryz.func216,Tryz.ntmps216;go_upto_region 1 with fail;rw[←hW1];clear hW1;refine rk_ [(1,.exact _ (.int .u8 18)),(5,.exact _ (.int .u8 (a.toNat:Int))),(11,.exact _ (.slice at_ nt ct)),(17,.exact _ (.int .u8 18)),(21,.exact _ (.int .u8 (a.toNat:Int))),(26,.exact _ (.int .i64 (inp:Int))),(32,.exact _ (.int .u8 18)),(36,.exact _ (.int .u8 18)),(41,.exact _ (.int .u8 (a.toNat:Int)))] ?_;exact Ei
):T:=h
theorem Es {T:Prop} (h:T:=by
 clear hq;go_enter Tryz.func216,Tryz.ntmps216;go_upto_region 1 with fail;rw[←hW1];clear hW1;refine rk_ [(1,.exact _ (.int .u8 17)),(5,.exact _ (.int .u8 (a.toNat:Int))),(11,.exact _ (.slice at_ nt ct)),(17,.exact _ (.int .u8 17)),(21,.exact _ (.int .u8 (a.toNat:Int))),(26,.exact _ (.int .i64 (inp:Int))),(32,.exact _ (.int .u8 17)),(36,.exact _ (.int .u8 17)),(41,.exact _ (.int .u8 (a.toNat:Int)))] ?_;exact Ei
):T:=h
theorem Et {T:Prop} (h:T:=by
 clear hq;go_enter Tryz.func216,Tryz.ntmps216;go_upto_region 1 with fail;rw[←hW1];clear hW1;refine rk_ [(1,.exact _ (.int .u8 3)),(5,.exact _ (.int .u8 (a.toNat:Int))),(11,.exact _ (.slice at_ nt ct)),(17,.exact _ (.int .u8 3)),(21,.exact _ (.int .u8 (a.toNat:Int))),(26,.exact _ (.int .i64 (inp:Int))),(32,.exact _ (.int .u8 3)),(36,.exact _ (.int .u8 3)),(41,.exact _ (.int .u8 (a.toNat:Int)))] ?_;exact Ei
):T:=h
theorem Eu {T:Prop} (h:T:=by
 clear hq;go_enter Tryz.func216,Tryz.ntmps216;go_upto_region 1 with fail;rw[←hW1];clear hW1;refine rk_ [(1,.exact _ (.int .u8 1)),(5,.exact _ (.int .u8 (a.toNat:Int))),(11,.exact _ (.slice at_ nt ct)),(17,.exact _ (.int .u8 1)),(21,.exact _ (.int .u8 (a.toNat:Int))),(26,.exact _ (.int .i64 (inp:Int))),(32,.exact _ (.int .u8 1)),(36,.exact _ (.int .u8 1)),(41,.exact _ (.int .u8 (a.toNat:Int)))] ?_;exact Ei
):T:=h
theorem vU (h:VG w bZ G (.slice at_ nt ct) cv inp role s bv sv ev)(p a:UInt8)(hl:s.blocks.length≤1000)(hn:nt≤1000)(hi:inp≤1000):Calls Tryz.prog 216 #[.pointer (some ⟨G,0,none⟩),.agg #[.int .u8 (p.toNat:Int),.int .u8 (a.toNat:Int)]] w fun e w'=>e=.returned (.int .i64 ((thereV nt inp role s.blocks (p,a):Nat):Int))∧Bw_ w w':=by
 have HH:=zH h;have hgw:G<w.heap.size:=h.blk.lt;obtain⟨W1,hW1⟩:=ex_ (w.alloc (.cells #[.int .u8 (p.toNat:Int),.int .u8 (a.toNat:Int)] 127));have hb1:=ba_ hW1;have hx:=bm_ hW1;have h1:=h.below hb1;obtain⟨x0,x1⟩:=cl2 hx;have g0:=h1.cell (k:=0) rfl;have g2:=h1.cell (k:=2) rfl;have g3:=h1.cell (k:=3) rfl;have HB1:=zH hb1;have HT:=zH (fun w' (hB:Below W1.heap.size W1 w')=>qI (h1.below hB) hl);have HLN:=zH (fun w' (hB:Below W1.heap.size W1 w')=>qN (h1.below hB));have HLA:=zH (fun w' (hB:Below W1.heap.size W1 w') {g c m:Nat} (hv:bv=.slice (some ⟨g,0,none⟩) s.blocks.length c) (hm:s.blocks.length=m+1)=>(h1.below hB).last hv hm);have a1:(a.toNat:Int)<256:=by have:=a.toNat_lt;omega
 have a0:(0:Int)≤(a.toNat:Int):=by omega
 have n1:(nt:Int)≤1000:=by omega
 have n2:(inp:Int)≤1000:=by omega
 have n3:(s.blocks.length:Int)≤1000:=by omega
 clear h h1 hx hb1
 by_cases h1:p=1
 ·subst h1
  rw[show(((1:UInt8).toNat:Nat):Int)=1 from rfl]at hW1 x0⊢
  by_cases hq:nt≤a.toNat
  ·have q1:(nt:Int)≤(a.toNat:Int):=by omega
   have HE:=zH (show thereV nt inp role s.blocks (1,a)=3 by rw[th1,if_pos hq]);exact Eu
  ·have q1:¬(nt:Int)≤(a.toNat:Int):=by omega
   have HE:=zH (show thereV nt inp role s.blocks (1,a)=0 by rw[th1,if_neg hq]);exact Eu
 by_cases h3:p=3
 ·subst h3
  rw[show(((3:UInt8).toNat:Nat):Int)=3 from rfl]at hW1 x0⊢
  by_cases hq:inp≤a.toNat
  ·have q1:(inp:Int)≤(a.toNat:Int):=by omega
   have HE:=zH (show thereV nt inp role s.blocks (3,a)=3 by rw[th3,if_pos hq]);exact Et
  ·have q1:¬(inp:Int)≤(a.toNat:Int):=by omega
   have HE:=zH (show thereV nt inp role s.blocks (3,a)=0 by rw[th3,if_neg hq]);exact Et
 by_cases h17:p=17
 ·subst h17
  rw[show(((17:UInt8).toNat:Nat):Int)=17 from rfl]at hW1 x0⊢
  by_cases hq:8≤a.toNat
  ·have q1:(8:Int)≤(a.toNat:Int):=by omega
   have HE:=zH (show thereV nt inp role s.blocks (17,a)=3 by rw[Cr,if_pos hq]);exact Es
  ·have q1:¬(8:Int)≤(a.toNat:Int):=by omega
   have HE:=zH (show thereV nt inp role s.blocks (17,a)=0 by rw[Cr,if_neg hq]);exact Es
 by_cases h18:p=18
 ·subst h18
  rw[show(((18:UInt8).toNat:Nat):Int)=18 from rfl]at hW1 x0⊢
  by_cases hq:8≤a.toNat
  ·have q1:(8:Int)≤(a.toNat:Int):=by omega
   have HE:=zH (show thereV nt inp role s.blocks (18,a)=3 by rw[Cq,if_pos hq]);exact Er
  ·have q1:¬(8:Int)≤(a.toNat:Int):=by omega
   have HE:=zH (show thereV nt inp role s.blocks (18,a)=0 by rw[Cq,if_neg hq]);exact Er
 by_cases h23:p=23
 ·subst h23
  rw[show(((23:UInt8).toNat:Nat):Int)=23 from rfl]at hW1 x0⊢
  by_cases hq:role=1
  ·have q1:((role.toNat:Int) != 1)=false:=by rw[hq];rfl
   have HE:=zH (show thereV nt inp role s.blocks (23,a)=0 by rw[Cm,if_pos hq]);exact Em
  ·have q1:((role.toNat:Int) != 1)=true:=by
    have:=aC (p:=role) (k:=1) (by decide) hq;simpa[bne] using this
   have HE:=zH (show thereV nt inp role s.blocks (23,a)=133 by rw[Cm,if_neg hq]);exact Em
 by_cases h19:p=19
 ·subst h19
  rw[show(((19:UInt8).toNat:Nat):Int)=19 from rfl]at hW1 x0⊢
  by_cases hq:8≤s.blocks.length
  ·have q1:(8:Int)≤(s.blocks.length:Int):=by omega
   have HE:=zH (show thereV nt inp role s.blocks (19,a)=132 by rw[Cp,if_pos hq]);exact Ep
  ·have q1:¬(8:Int)≤(s.blocks.length:Int):=by omega
   have HE:=zH (show thereV nt inp role s.blocks (19,a)=0 by rw[Cp,if_neg hq]);exact Ep
 by_cases h22:p=22
 ·subst h22
  rw[show(((22:UInt8).toNat:Nat):Int)=22 from rfl]at hW1 x0⊢
  by_cases hq:8≤s.blocks.length
  ·have q1:(8:Int)≤(s.blocks.length:Int):=by omega
   have HE:=zH (show thereV nt inp role s.blocks (22,a)=132 by rw[Cn,if_pos hq]);exact En
  ·have q1:¬(8:Int)≤(s.blocks.length:Int):=by omega
   have HE:=zH (show thereV nt inp role s.blocks (22,a)=0 by rw[Cn,if_neg hq]);exact En
 by_cases h21:p=21
 ·subst h21
  rw[show(((21:UInt8).toNat:Nat):Int)=21 from rfl]at hW1 x0⊢;go_enter Tryz.func216,Tryz.ntmps216;go_upto_region 1 with fail;rw[←hW1];clear hW1;refine rk_ [(1,.exact _ (.int .u8 21)),(5,.exact _ (.int .u8 (a.toNat:Int))),(11,.exact _ (.slice at_ nt ct)),(17,.exact _ (.int .u8 21)),(21,.exact _ (.int .u8 (a.toNat:Int))),(26,.exact _ (.int .i64 (inp:Int))),(32,.exact _ (.int .u8 21)),(36,.exact _ (.int .u8 21)),(41,.exact _ (.int .u8 (a.toNat:Int)))] ?_;refine cG ?_
  repeat(refine gE_ (fun w' G hB hS hG=>?_) (fun K hK=>?_);(have y0:=C8 hB x0;have y1:=C8 hB x1;have y2:=C8 hB g0;have y3:=C8 hB g2;go_simp;exact hG _ (Bel.refl _));refine cO ?_;clear hK K)
  refine aI ?_;intro w2 hB2 hA2;have z0:=C8 hB2 x0;have z1:=C8 hB2 x1;have z3:=C8 hB2 g3;have HB2:=zH hB2;clear hB2 hA2 x0 x1 g0 g2 g3;go_wp2_with fail;refine(HT.o _ HB2.o).mono ?_;rintro e w3 ⟨htop,hB3⟩;have HTOP:=zH htop;have HB3:=zH (bt HB2.o hB3);have u0:=C8 hB3 z0;have u1:=C8 hB3 z1;have u3:=C8 hB3 z3;clear htop hB3 z0 z1 z3;rcases HTOP.o with ⟨hb,rfl⟩|⟨g,c,m,hv,hm,rfl⟩
  ·have HE:=zH (show thereV nt inp role s.blocks (21,a)=132 by rw[Co,if_pos hb])
   clear HTOP hb;exact Ek
  ·have HE:=zH (show thereV nt inp role s.blocks (21,a)=0 by rw[Co,if_neg (fun e=>by rw[e]at hm;simp at hm)])
   clear HTOP hv hm;exact Ek
 by_cases h20:p=20
 ·subst h20
  rw[show(((20:UInt8).toNat:Nat):Int)=20 from rfl]at hW1 x0⊢;go_enter Tryz.func216,Tryz.ntmps216;go_upto_region 1 with fail;rw[←hW1];clear hW1;refine rk_ [(1,.exact _ (.int .u8 20)),(5,.exact _ (.int .u8 (a.toNat:Int))),(11,.exact _ (.slice at_ nt ct)),(17,.exact _ (.int .u8 20)),(21,.exact _ (.int .u8 (a.toNat:Int))),(26,.exact _ (.int .i64 (inp:Int))),(32,.exact _ (.int .u8 20)),(36,.exact _ (.int .u8 20)),(41,.exact _ (.int .u8 (a.toNat:Int)))] ?_;refine cG ?_
  repeat(refine gE_ (fun w' G hB hS hG=>?_) (fun K hK=>?_);(have y0:=C8 hB x0;have y1:=C8 hB x1;have y2:=C8 hB g0;have y3:=C8 hB g2;go_simp;exact hG _ (Bel.refl _));refine cO ?_;clear hK K)
  refine aI ?_;intro w2 hB2 hA2;have z0:=C8 hB2 x0;have z1:=C8 hB2 x1;have z3:=C8 hB2 g3;have HB2:=zH hB2;clear hB2 hA2 x0 x1 g0 g2 g3;go_wp2_with fail;refine(HT.o _ HB2.o).mono ?_;rintro e w3 ⟨htop,hB3⟩;have HTOP:=zH htop;have HB3:=zH (bt HB2.o hB3);have u0:=C8 hB3 z0;have u1:=C8 hB3 z1;have u3:=C8 hB3 z3;clear htop hB3 z0 z1 z3;rcases HTOP.o with ⟨hb,rfl⟩|⟨g,c,m,hv,hm,rfl⟩
  ·have HE:=zH (show thereV nt inp role s.blocks (20,a)=132 by rw[z7,hb];rfl)
   clear HTOP hb;exact Ek
  ·obtain⟨b,hb,_,l0,_,_,_,l4⟩:=HLA.o _ HB3.o hv hm
   clear HTOP hv hm
   by_cases h1:b.op=19
   ·have q1:((b.op.toNat:Int) != 19)=false:=by rw[h1];rfl
    cases hd:b.did with
    | true =>
     rw[hd]at l4;have HE:=zH (show thereV nt inp role s.blocks (20,a)=132 by rw[z7,hb];simp[cQ,hd]);clear hb hd h1;exact Ek
    | false =>
     rw[hd]at l4;have HE:=zH (show thereV nt inp role s.blocks (20,a)=0 by rw[z7,hb];simp[cQ,hd,h1]);clear hb hd h1;exact Ek
   ·have q1:((b.op.toNat:Int) != 19)=true:=by
     have:=aC (p:=b.op) (k:=19) (by decide) h1;simpa[bne] using this
    have HE:=zH (show thereV nt inp role s.blocks (20,a)=132 by rw[z7,hb];simp[cQ,h1]);clear hb h1;exact Ek
 have HE:=zH (thN (nt:=nt) (inp:=inp) (role:=role) (bl:=s.blocks) (a:=a) h1 h3 h17 h18 h23 h20 h21 h19 h22);have e1:((p.toNat:Int)==1)=false:=aC (k:=1) (by decide) h1;have e3:((p.toNat:Int)==3)=false:=aC (k:=3) (by decide) h3;have e17:((p.toNat:Int)==17)=false:=aC (k:=17) (by decide) h17;have e18:((p.toNat:Int)==18)=false:=aC (k:=18) (by decide) h18;have e23:((p.toNat:Int)==23)=false:=aC (k:=23) (by decide) h23;have e20:((p.toNat:Int)==20)=false:=aC (k:=20) (by decide) h20;have e21:((p.toNat:Int)==21)=false:=aC (k:=21) (by decide) h21;have e19:((p.toNat:Int)==19)=false:=aC (k:=19) (by decide) h19;have e22:((p.toNat:Int)==22)=false:=aC (k:=22) (by decide) h22;clear h1 h3 h17 h18 h23 h20 h21 h19 h22;go_enter Tryz.func216,Tryz.ntmps216;go_upto_region 1 with fail;rw[←hW1];clear hW1;refine rk_ [(1,.exact _ (.int .u8 (p.toNat:Int))),(5,.exact _ (.int .u8 (a.toNat:Int))),(11,.exact _ (.slice at_ nt ct)),(17,.exact _ (.int .u8 (p.toNat:Int))),(21,.exact _ (.int .u8 (a.toNat:Int))),(26,.exact _ (.int .i64 (inp:Int))),(32,.exact _ (.int .u8 (p.toNat:Int))),(36,.exact _ (.int .u8 (p.toNat:Int))),(41,.exact _ (.int .u8 (a.toNat:Int)))] ?_;refine cG ?_
 repeat(refine gE_ (fun w' G hB hS hG=>?_) (fun K hK=>?_);(have y0:=C8 hB x0;have y1:=C8 hB x1;have y2:=C8 hB g0;have y3:=C8 hB g2;go_simp;exact hG _ (Bel.refl _));refine cO ?_;clear hK K)
 refine aI ?_;intro w2 hB2 hA2;have z0:=C8 hB2 x0;have z1:=C8 hB2 x1;have z3:=C8 hB2 g3;have HB2:=zH hB2;clear hB2 hA2 x0 x1 g0 g2 g3;go_wp2_with fail;refine(HT.o _ HB2.o).mono ?_;rintro e w3 ⟨htop,hB3⟩;have HTOP:=zH htop;have HB3:=zH (bt HB2.o hB3);have u0:=C8 hB3 z0;have u1:=C8 hB3 z1;have u3:=C8 hB3 z3;clear htop hB3 z0 z1 z3;obtain⟨tp,rfl⟩:∃ tp,e=.returned tp:=by rcases HTOP.o with ⟨_,rfl⟩|⟨_,_,_,_,_,rfl⟩<;>exact⟨_,rfl⟩
 clear HTOP;go_wp2_with fail;go_ret;exact⟨by rw[HE.o];rfl,bt HB1.o HB3.o⟩
end
end
