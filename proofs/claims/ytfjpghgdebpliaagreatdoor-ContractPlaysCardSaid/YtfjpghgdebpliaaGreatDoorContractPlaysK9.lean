/- Lemmas. -/
import Derived.Laws.EntriesVeiled
import Derived.Maps.OwnIn
import Derived.Laws.RangeString
import Derived.Test.YtfjpghgdebpliaaGreatDoorContractPlaysK5
set_option linter.unusedSimpArgs false
set_option linter.unusedVariables false
set_option maxRecDepth 100000
set_option maxHeartbeats 16000000
namespace Go.Proofs.YtfjpghgdebpliaaGreatDoor
open Go.Proofs.Tryz
open Go.RowKit Oct
abbrev VI:=U8_×U8_
abbrev LJ_:=List VI
def jW (op:U8_):Bool:=op==1||op==2||op==3||op==17||op==18||op==22
def bw (x:VI):Bool:=decide (1≤x.1.toNat)&&decide (x.1.toNat≤23)&&(x.2==0||jW x.1)
def dH (texts:LL_)(I:LJ_):Bool:=decide (texts.length≤16)&&decide (I.length≤256)&&texts.all (fun s=>decide (s.length≤64))&&I.all bw
def ep:LX_ :=
 [([],[]),([],[84]),([],[78]),([],[84]),([84,84],[84]),([84],[78]),([84,78,78],[84]),([84],[78]),([78],[84]),([78,78],[78]),([78,78],[78]),([78,78],[78]),([84,84],[78]),([78],[78]),
  ([63],[]),([63],[49,49]),([63,63],[50,49]),([],[82]),([82],[]),([78],[]),([],[]),([],[]),([84],[]),([84,84],[])]
def jd (b:U8_):q:=if 4≤b.toNat then [84] else [78]
def fl (s r:q):q:=if s=[82] then r else s
def b_Z (x:VI):q×q:=(fl (ep.getD x.1.toNat ([],[])).1 (jd x.2),fl (ep.getD x.1.toNat ([],[])).2 (jd x.2))
structure Vb where
 op:U8_
 want:q
 opn:q
 at_:Nat
 did:Bool
deriving DecidableEq
structure Vs where
 kinds:q
 blocks:List Vb
 seen:LL_
 ends : LI_
 deep:Nat
deriving DecidableEq
def dM:Option Vb→Bool
 | none=>true
 | some b=>b.op != 19||b.did
def thereV (nt ai:Nat)(ag:U8_)(d:List Vb)(x:VI):Nat :=
 if (x.1=1∧nt≤x.2.toNat)∨(x.1=3∧ai≤x.2.toNat)∨((x.1=17∨x.1=18)∧8≤x.2.toNat) then 3
 else if x.1=23∧ag≠1 then 133
 else if x.1=20∧dM d.getLast?=true then 132
 else if x.1=21∧d=[] then 132
 else if (x.1=19∨x.1=22)∧8≤d.length then 132 else 0
def pi:q→q→Bool
 | [],_=>true
 | _::_,[]=>false
 | a::t,b::u=>(a==63||a==b)&&pi t u
def bS (b:q)(g:q):q:=g.flatMap fun c=>if c=49 then b.take 1 else if c=50 then (b.drop 1).take 1 else [c]
def aK (f:q)(x:VI):Nat×q :=
 if f.length<(b_Z x).1.length then (130,f)
 else if pi (b_Z x).1 (f.drop (f.length-(b_Z x).1.length))=false then (131,f)
 else if (x.1=22∧16≤(f.take (f.length-(b_Z x).1.length)++bS (f.drop (f.length-(b_Z x).1.length)) (b_Z x).2).length)∨16<(f.take (f.length-(b_Z x).1.length)++bS (f.drop (f.length-(b_Z x).1.length)) (b_Z x).2).length then (130,f)
 else (0,f.take (f.length-(b_Z x).1.length)++bS (f.drop (f.length-(b_Z x).1.length)) (b_Z x).2)
def turnsV (i:Nat)(x:VI)(s:Vs):Nat×Vs :=
 if x.1=19 then (0,{ s with blocks:=s.blocks++[⟨19,s.kinds,s.kinds,i,false⟩] })
 else if x.1=22 then (0,{ s with blocks:=s.blocks++[⟨22,s.kinds,s.kinds,i,false⟩],kinds:=s.kinds++[84] })
 else if x.1=20 then
  match s.blocks.getLast? with
  | none=>(0,s)
  | some b=>(0,{ s with ends:=s.ends.set b.at_ (i:Int),blocks:=s.blocks.dropLast++[{ b with want:=s.kinds,at_:=i,did:=true }],kinds:=b.opn })
 else if x.1=21 then
  match s.blocks.getLast? with
  | none=>(0,s)
  | some b=>if s.kinds=b.want then (0,{ s with ends:=s.ends.set b.at_ (i:Int),blocks:=s.blocks.dropLast }) else (132,s)
 else (0,s)
def cq (nt ai:Nat)(ag:U8_)(i:Nat)(x:VI)(s:Vs):Nat×Vs :=
 if thereV nt ai ag s.blocks x≠0 then (thereV nt ai ag s.blocks x,{ s with seen:=s.seen++[s.kinds] })
 else if (aK s.kinds x).1≠0 then ((aK s.kinds x).1,{ s with seen:=s.seen++[s.kinds] })
 else
  let r:=turnsV i x { s with seen:=s.seen++[s.kinds],kinds:=(aK s.kinds x).2 }
  (r.1,{ r.2 with deep:=max s.deep r.2.kinds.length })
def gB (ag:U8_):q:=if ag=1 then [] else [84]
def overV (ag:U8_)(s:Vs):Nat:=if 0<s.blocks.length then 132 else if s.kinds.length≠(gB ag).length then 130 else if s.kinds≠gB ag then 131 else 0
def fF (nt ai:Nat)(ag:U8_):Nat→LJ_→Vs→Nat×Nat×Vs
 | i,[],s=>(i,overV ag s,s)
 | i,x::r,s=>if (cq nt ai ag i x s).1=0 then fF nt ai ag (i+1) r (cq nt ai ag i x s).2 else (i,(cq nt ai ag i x s).1,(cq nt ai ag i x s).2)
def bd (n:Nat):Vs:=⟨[],[],[],List.replicate n 0,0⟩
def inputsV (ag:U8_):Nat:=if ag=1 then 1 else 2
def dX (ag:U8_):Bool:=decide (1≤ag.toNat)&&decide (ag.toNat≤3)
def az (texts:LL_)(I:LJ_)(ag:U8_):Nat×Nat×Vs :=
 if (dH texts I&&dX ag)=true then
  if (fF texts.length (inputsV ag) ag 0 I (bd I.length)).2.1=0 then (0,0,(fF texts.length (inputsV ag) ag 0 I (bd I.length)).2.2)
  else fF texts.length (inputsV ag) ag 0 I (bd I.length)
 else (0,2,bd I.length)
theorem qT (s:q)(w:Z):C_ 192 #[s_ s,s_ [82]] w fun e w'=>e=.returned (F (Lib.countByte s 82))∧w'=w:=by
 have:=Tryz.strings_Count_one (bs s) 82 w
 rwa [nu]at this
theorem yU (s:q)(w:Z):C_ 194 #[s_ s,s_ [82]] w fun e w'=>e=.returned (F (Lib.indexByte s 82))∧w'=w:=by
 have:=Tryz.strings_Index_one (bs s) 82 w
 rwa [nu]at this
theorem BT (B b:Nat)(w:Z)(hB:B≤b)(u:w.heap[b]?=some (.cells #[.pointer none,e_] 116 (0,0)))(aF:B≤w.heap.size):C_ 193 #[p_ b,F 1] w fun e w'=>e=.returned (.tuple #[])∧Bld B b [] w'∧B_ B w w':=by
 refine(Tryz.Builder_Grow_fresh B b 1 w hB u aF d_).mono ?_;rintro e w'⟨rfl,h1,h2⟩;exact⟨rfl,⟨Jc aF h2.size,.inr h1⟩,h2⟩
theorem J2 {T:Prop} (h:T:=by
 go_enter func187,ntmps187;go_wp2_with fail;refine HC.o.mono ?_;rintro e w1⟨rfl,rfl⟩;go_wp2_with fail;go_ret;exact⟨rfl,Ja _ _⟩
):T:=h
theorem zB (s r:q)(w:Z)(h0:Lib.countByte s 82=0)(hr:r=[84]∨r=[78]):R_ 187 #[s_ s,s_ [82],s_ r,F (-1)] w (s_ s):=by
 have HC:=O (qT s w);rw[h0]at HC;clear h0;rcases hr with rfl|rfl
 ·exact J2
 ·exact J2
theorem xp (r:q)(w:Z)(hr:r=[84]∨r=[78]):R_ 187 #[s_ [82],s_ [82],s_ r,F (-1)] w (s_ r):=by
 have HC:=O (qT [82] w);rw[show Lib.countByte [82] 82=1 from rfl]at HC;have HI:=O (fun w=>yU [82] w);have hl:r.length=1:=by rcases hr with rfl|rfl<;>rfl
 have aI:((82:U8_)::[]==r)=false:=by rcases hr with rfl|rfl<;>rfl
 have be:(r.length:Int)=1:=Y;clear hr;go_enter func187,ntmps187;go_wp2_with fail;refine HC.o.mono ?_;rintro e w1⟨rfl,rfl⟩;go_wp2_with fail;refine(BT w1.heap.size w1.heap.size _ (I6 _) (World.alloc_heap_new w1 _) i_).mono ?_;rintro e w2⟨rfl,aY,ax⟩;have a9:=O aY;have bm:=O ((af w1 _).trans ax);clear aY ax;have bn:∀ wx,(Instr.slice 9 (s_ [82]) (some (F 0)) none none).run prog wx=.ok (s_ [82]) wx:=by intro wx;kernel_rfl
 have bp:∀ wx,(Instr.slice 9 (s_ [82]) (some (F 0)) (some (F 0)) none).run prog wx=.ok (s_ []) wx:=by intro wx;kernel_rfl
 have ar:∀ wx,(Instr.slice 9 (s_ [82]) (some (F 1)) none none).run prog wx=.ok (s_ []) wx:=by intro wx;kernel_rfl
 obtain⟨H0,H1,H2⟩:=zH3 bn bp ar;clear bn bp ar;go_wp2
 go_loopw [11,53] (fun t11 t53 wr=>(t11=F 0∧t53=F 0∧Hid (Bld w1.heap.size w1.heap.size [] wr)∧Hid (Bw_ w1 wr))∨(t11=F 1∧t53=F 1∧Hid (Bld w1.heap.size w1.heap.size r wr)∧Hid (Bw_ w1 wr))) (fun _ t53 _=>1-(intOf t53).toNat)
 case atStart=>exact .inl ⟨rfl,rfl,a9.o,bm.o⟩
 case round =>
  rcases hrel with ⟨rfl,rfl,HB,HW⟩|⟨rfl,rfl,HB,HW⟩
  ·have bn:=H0.o
   go_wp2_with fail;refine(HI.o _).mono ?_;rw[show Lib.indexByte [82] 82=0 from rfl];rintro e w3⟨rfl,rfl⟩;have bp:=H1.o;clear bn;go_wp2_with fail;refine(dt _ _ [] [] _ HB.o d_).mono ?_;rintro e w4⟨rfl,bC,aQ⟩;have ba:=O bC;have b:=O (HW.o.trans aQ);clear bC aQ bp;go_wp2_with fail;refine(dt _ _ [] r _ ba.o yza).mono ?_;rintro e w5⟨rfl,z,aN⟩;have aJ:=O z;have au:=O (b.o.trans aN);clear z aN;go_wp2;exact⟨.inr ⟨rfl,rfl,aJ.o,au.o⟩,by simp[intOf]⟩
  ·have ar:=H2.o
   go_wp2_with fail;refine(dt _ _ r [] _ HB.o yza).mono ?_;rintro e w4⟨rfl,bC,aQ⟩;rw[Jy]at bC;have ba:=O bC;have b:=O (HW.o.trans aQ);clear bC aQ ar;go_wp2_with fail;refine(iY _ _ r _ ba.o).mono ?_;rintro e w5⟨rfl,aN⟩;go_wp2_with fail;go_ret;exact⟨rfl,b.o.trans aN⟩
theorem kZ (s r:q)(w:Z)(hs:Lib.countByte s 82=0∨s=[82])(hr:r=[84]∨r=[78]):R_ 180 #[s_ s,s_ [82],s_ r] w (s_ (fl s r)):=by
 rcases hs with hs|rfl
 ·have aI:s≠[82]:=by rintro rfl;exact absurd hs d_
  have HR:=O (zB s r w hs hr);have HE:=O (show fl s r=s by unfold fl;rw[if_neg aI]);clear hs hr aI;go_enter func180,ntmps180;go_wp2_with fail;refine HR.o.mono ?_;rintro e w1⟨rfl,hB⟩;go_wp2_with fail;go_ret;exact⟨by rw[HE.o];rfl,hB⟩
 ·have HR:=O (xp r w hr)
  clear hr;go_enter func180,ntmps180;go_wp2_with fail;refine HR.o.mono ?_;rintro e w1⟨rfl,hB⟩;go_wp2_with fail;go_ret;exact⟨rfl,hB⟩
def bH:Rec VI where
 cell x:=[.int .u8 x.1.toNat,.int .u8 x.2.toNat]
 e:=109
 n:=2
 bytes:=2
 z:=.agg #[.int .u8 0,.int .u8 0]
 len:=fun _=>rfl
 one:=by intro x u h;simp at h;rcases h with rfl|rfl<;>rfl
 info:=by kernel_rfl
 zs:=rfl
 pos:=by decide
 bpos:=by decide
def bD:Rec Int where
 cell x:=[.int .i64 x]
 e:=3
 n:=1
 bytes:=8
 z:=.int .i64 0
 len:=fun _=>rfl
 one:=by intro x u h;simp at h;subst h;rfl
 info:=by kernel_rfl
 zs:=rfl
 pos:=by decide
 bpos:=by decide
def mH:Rec Vb where
 cell b:=[.int .u8 b.op.toNat,.string (bs b.want),.string (bs b.opn),.int .i64 b.at_,.bool b.did]
 e:=259
 n:=5
 bytes:=56
 z:=.agg #[.int .u8 0,.string ByteArray.empty,.string ByteArray.empty,.int .i64 0,.bool false]
 len:=fun _=>rfl
 one:=by intro x u h;simp at h;rcases h with rfl|rfl|rfl|rfl|rfl<;>rfl
 info:=by kernel_rfl
 zs:=rfl
 pos:=by decide
 bpos:=by decide
section
variable {α:Type}{R:Rec α}
theorem I1 (R:Rec α){j:Nat}(hj:j<R.n){u:V_}{y:α}:∀ (l:List α) (k:Nat) (hk:k<l.length),R.cell y=(R.cell l[k]).set j u→(R.cells l).set (k*R.n+j) u=R.cells (l.set k y)
 | x::l,0,_,hy=>by
  simp only[Rec.cells,Nat.zero_mul,I9,List.set_cons_zero];rw[List.set_append_left _ _ (by rw[R.len];exact hj)];rw[show R.cell y=(R.cell x).set j u from hy]
 | x::l,k+1,hk,hy=>by
  simp only[Rec.cells,List.set_cons_succ];have aJ:R.n≤(k+1)*R.n:=Nat.le_mul_of_pos_left R.n (Nat.succ_pos k);rw[List.set_append_right _ _ (by rw[R.len];omega),R.len];rw[show(k+1)*R.n+j-R.n=k*R.n+j by rw[Nat.add_mul];omega];rw[I1 R hj l k yzB hy]
theorem Rec.Own.setCell {w:Z}{bZ g n c:Nat}{l:List α}(h:R.Own w bZ (.slice (some ⟨g,0,none⟩) n c) l){k:Nat}(hk:k<l.length){y:α}{j:Nat}(hj:j<R.n){u:V_}(hy:R.cell y=(R.cell l[k]).set j u):R.Own (w.setCell ⟨g,k*R.n+j,none⟩ u) bZ (.slice (some ⟨g,0,none⟩) n c) (l.set k y):=by
 obtain⟨h1,h2⟩:=h;refine⟨by rw[Rec.cells_length],?_⟩;rcases h2 with ⟨hv,_⟩|⟨D,ah,aH,hv,hb,hh,r1,r2,r3,b⟩
 ·cases hv
 ·cases hv
  have aY:Blk w g R.e aH.toList:=by unfold Blk;rw[hh]
  have hs:=aY.set (k*R.n+j) u;refine .inr ⟨g,c,(aH.toList.set (k*R.n+j) u).toArray,by rw[JN],hb,hs,by rw[JN];exact r1,r2,by simpa using r3,?_⟩;rw[JN];simp only[List.toList_toArray];rw[List.take_set,b];exact I1 R hj l k hk hy
theorem Rec.Own.short {w:Z}{bZ n c:Nat}{a:OA_}{l:List α}(h:R.Own w bZ (.slice a n c) l)(m:Nat)(hm:m≤l.length):R.Own w bZ (.slice a m c) (l.take m):=by
 obtain⟨h1,h2⟩:=h;have hl:(l.take m).length=m:=by rw[JH];omega
 refine⟨by rw[Rec.cells_length],?_⟩;rcases h2 with ⟨hv,h0⟩|⟨D,ah,aH,hv,hb,hh,r1,r2,r3,b⟩
 ·have hz:l.length=0:=h0
  obtain rfl:m=0:=Y
  cases hv
  exact .inl ⟨rfl,hl⟩
 ·cases hv
  refine .inr ⟨D,c,aH,by rw[hl],hb,hh,by rw[hl];omega,r2,r3,?_⟩;rw[hl,←R.cells_take,←b,List.take_take,Nat.min_eq_left (JO _ hm)]
end
structure VG (w:Z) (bZ G:Nat) (tv cv:V_) (inp:Nat) (role:U8_) (s:Vs) (bv sv ev:V_):Prop where
 blk:Blk w G 249 [tv,cv,.int .i64 inp,.int .u8 role.toNat,.string (bs s.kinds),bv,sv,ev,.int .i64 s.deep]
 ob:mH.Own w bZ bv s.blocks
 os:aP.Own w bZ sv s.seen
 oe:bD.Own w bZ ev s.ends
 gb:bZ≤G
 a1:∀ b,bv.ownBlock=some b→b≠G∧sv.ownBlock≠some b∧ev.ownBlock≠some b
 a2:∀ b,sv.ownBlock=some b→b≠G∧ev.ownBlock≠some b
 a3:∀ b,ev.ownBlock=some b→b≠G
section
variable {w w':Z}{bZ G:Nat}{tv cv bv sv ev:V_}{ai:Nat}{ag:U8_}{s:Vs}
theorem VG.below (h:VG w bZ G tv cv ai ag s bv sv ev)(hB:Bw_ w w'):VG w' bZ G tv cv ai ag s bv sv ev :=
 ⟨h.blk.below hB,h.ob.below hB,h.os.below hB,h.oe.below hB,h.gb,h.a1,h.a2,h.a3⟩
theorem VG.cell (h:VG w bZ G tv cv ai ag s bv sv ev){k:Nat}{v:V_}(hv:[tv,cv,F ai,.int .u8 ag.toNat,s_ s.kinds,bv,sv,ev,F s.deep][k]?=some v):w.cell? ⟨G,k,none⟩=some v:=h.blk.cell hv
theorem VG.c (h:VG w bZ G tv cv ai ag s bv sv ev)(k:Nat){v:V_}(hv:[tv,cv,.int .i64 ai,.int .u8 ag.toNat,.string (bs s.kinds),bv,sv,ev,.int .i64 s.deep][k]?=some v:=by exact rfl):w.cell? ⟨G,k,none⟩=some v:=h.cell (k:=k) hv
theorem VG.free (h:VG w bZ G tv cv ai ag s bv sv ev){k:Nat}(hk:k<9):w.frozen? ⟨G,k,none⟩=false:=h.blk.free hk
theorem VG.f (h:VG w bZ G tv cv ai ag s bv sv ev)(k:Nat)(hk:k<9:=by first|decide|simp):w.frozen? ⟨G,k,none⟩=false:=h.free (k:=k) hk
theorem Mh {T:Prop} (h:T:=by
 obtain⟨h1,h2⟩:=ho;refine⟨h1,?_⟩;rcases h2 with h2|⟨g,ah,aH,rfl,hg,hh,r⟩
 ·exact .inl h2
 ·exact .inr ⟨g,ah,aH,rfl,hg,hc.at hh (hn g rfl),r⟩
):T:=h
theorem VG.setG (h:VG w bZ G tv cv ai ag s bv sv ev)(k:Nat)(v:V_){f:q}{J:Nat}(hs:[tv,cv,F ai,.int .u8 ag.toNat,s_ s.kinds,bv,sv,ev,F s.deep].set k v=[tv,cv,F ai,.int .u8 ag.toNat,s_ f,bv,sv,ev,F J]):VG (w.setCell ⟨G,k,none⟩ v) bZ G tv cv ai ag { s with kinds:=f,deep:=J } bv sv ev∧B_ bZ w (w.setCell ⟨G,k,none⟩ v):=by
 have hc:Chg (fun x=>x=G) w (w.setCell ⟨G,k,none⟩ v):=Chg.setCell _ _ _ rfl
 have z:∀ {β:Type} (R:Rec β) (x:V_) (l:List β),R.Own w bZ x l→(∀ b,x.ownBlock=some b→b≠G)→R.Own (w.setCell ⟨G,k,none⟩ v) bZ x l:=fun R x l ho hn=>by
  exact Mh
 have hb:=h.blk.set k v;rw[hs]at hb;exact⟨⟨hb,z _ _ _ h.ob (fun b hb=>(h.a1 b hb).1),z _ _ _ h.os (fun b hb=>(h.a2 b hb).1),z _ _ _ h.oe h.a3,h.gb,h.a1,h.a2,h.a3⟩,hc.below (fun x hx=>by have:=h.gb;omega) (Jc h.gb (JA h.blk.lt))⟩
theorem VG.kinds (h:VG w bZ G tv cv ai ag s bv sv ev)(k:q):VG (w.setCell ⟨G,4,none⟩ (s_ k)) bZ G tv cv ai ag { s with kinds:=k } bv sv ev∧B_ bZ w (w.setCell ⟨G,4,none⟩ (s_ k)):=h.setG 4 _ rfl
theorem VG.deep (h:VG w bZ G tv cv ai ag s bv sv ev)(d:Nat):VG (w.setCell ⟨G,8,none⟩ (F d)) bZ G tv cv ai ag { s with deep:=d } bv sv ev∧B_ bZ w (w.setCell ⟨G,8,none⟩ (F d)):=h.setG 8 _ rfl
end
section
theorem aR {P:Program}{aM:Array Oper}{C:Z→Prop}{R:Z→Z→Prop}{am:Nat→Option (bu R)}{Q:aD→Act→Prop}{k:Nat}{S:aD}{a:Act}(h:Q S a):wpG P aM C R am Q k [] S a:=h
attribute [local irreducible] wpG
section
variable {α:Type}{R:Rec α}
theorem Rec.Own.chgV {X:Nat→Prop}{w w':Z}{bZ:Nat}{v:V_}{l:List α}(h:R.Own w bZ v l)(hc:Chg X w w')(hX:∀ k,v.ownBlock=some k→¬X k):R.Own w' bZ v l:=by
 obtain⟨h1,h2⟩:=h;refine⟨h1,?_⟩;rcases h2 with h2|⟨g,ah,aH,rfl,hg,hh,r⟩
 ·exact .inl h2
 ·exact .inr ⟨g,ah,aH,rfl,hg,hc.at hh (hX g rfl),r⟩
theorem Rec.Own.ltV {w:Z}{bZ:Nat}{v:V_}{l:List α}(h:R.Own w bZ v l):∀ b,v.ownBlock=some b→bZ≤b∧b<w.heap.size:=fun b hb=>World.ownsRow.lt h b hb
end
section
variable {w w' w3:Z}{bZ G:Nat}{tv cv bv sv ev an V:V_}{ai:Nat}{ag:U8_}{s:Vs}
theorem Mz {T:Prop} (h:T:=by
 rcases hg b hb with e|e
 ·exact h.a1 b e
 ·refine⟨by omega,fun e2=>?_,fun e2=>?_⟩
  ·have:=(h.os.ltV b e2).2;omega
  ·have:=(h.oe.ltV b e2).2;omega
):T:=h
theorem VG.newB (h:VG w bZ G tv cv ai ag s bv sv ev){l:List Vb}(hc:Chg (fun k=>bv.ownBlock=some k) w w3)(hg:∀ k,an.ownBlock=some k→bv.ownBlock=some k∨w.heap.size≤k)(ho:mH.Own w3 bZ an l):VG (w3.setCell ⟨G,5,none⟩ an) bZ G tv cv ai ag { s with blocks:=l } an sv ev∧B_ bZ w (w3.setCell ⟨G,5,none⟩ an):=by
 have hs:Chg (fun k=>k=G) w3 (w3.setCell ⟨G,5,none⟩ an):=Chg.setCell _ _ _ rfl;have aC:=h.blk.lt
 have nb:∀ b,an.ownBlock=some b→b≠G∧sv.ownBlock≠some b∧ev.ownBlock≠some b:=fun b hb=>by
  exact Mz
 have aX:Blk w3 G 249 _:=h.blk.chg hc (fun e=>(h.a1 G e).1 rfl);have o1:=(h.os.chgV hc (fun k hk e=>(h.a1 k e).2.1 hk)).chgV hs (fun k hk=>(h.a2 k hk).1);have t:=(h.oe.chgV hc (fun k hk e=>(h.a1 k e).2.2 hk)).chgV hs (fun k hk=>h.a3 k hk);refine⟨⟨aX.set 5 an,ho.chgV hs (fun k hk=>(nb k hk).1),o1,t,h.gb,nb,h.a2,h.a3⟩,?_⟩;exact(hc.below (fun k hk=>(h.ob.ltV k hk).1) (Jc h.gb (JA aC))).trans (hs.below (fun k hk=>by have:=h.gb;omega) (by have:=hc.size;have:=h.gb;omega))
theorem Mq {T:Prop} (h:T:=by
 rcases hg b hb with e|e
 ·exact⟨(h.a2 b e).1,(h.a2 b e).2,fun e2=>(h.a1 b e2).2.1 e⟩
 ·refine⟨by omega,fun e2=>?_,fun e2=>?_⟩
  ·have:=(h.oe.ltV b e2).2;omega
  ·have:=(h.ob.ltV b e2).2;omega
):T:=h
theorem VG.newS (h:VG w bZ G tv cv ai ag s bv sv ev){l:LL_}(hc:Chg (fun k=>sv.ownBlock=some k) w w3)(hg:∀ k,V.ownBlock=some k→sv.ownBlock=some k∨w.heap.size≤k)(ho:aP.Own w3 bZ V l):VG (w3.setCell ⟨G,6,none⟩ V) bZ G tv cv ai ag { s with seen:=l } bv V ev∧B_ bZ w (w3.setCell ⟨G,6,none⟩ V):=by
 have hs:Chg (fun k=>k=G) w3 (w3.setCell ⟨G,6,none⟩ V):=Chg.setCell _ _ _ rfl;have aC:=h.blk.lt
 have nb:∀ b,V.ownBlock=some b→b≠G∧ev.ownBlock≠some b∧bv.ownBlock≠some b:=fun b hb=>by
  exact Mq
 have aX:Blk w3 G 249 _:=h.blk.chg hc (fun e=>(h.a2 G e).1 rfl);have o1:=(h.ob.chgV hc (fun k hk e=>(h.a1 k hk).2.1 e)).chgV hs (fun k hk=>(h.a1 k hk).1);have t:=(h.oe.chgV hc (fun k hk e=>(h.a2 k e).2 hk)).chgV hs (fun k hk=>h.a3 k hk);refine⟨⟨aX.set 6 V,o1,ho.chgV hs (fun k hk=>(nb k hk).1),t,h.gb,fun b hb=>⟨(h.a1 b hb).1,fun e=>(nb b e).2.2 hb,(h.a1 b hb).2.2⟩,fun b hb=>⟨(nb b hb).1,(nb b hb).2.1⟩,h.a3⟩,?_⟩;exact(hc.below (fun k hk=>(h.os.ltV k hk).1) (Jc h.gb (JA aC))).trans (hs.below (fun k hk=>by have:=h.gb;omega) (by have:=hc.size;have:=h.gb;omega))
theorem VG.chgB (h:VG w bZ G tv cv ai ag s bv sv ev){l:List Vb}(hc:Chg (fun k=>bv.ownBlock=some k) w w')(ho:mH.Own w' bZ bv l):VG w' bZ G tv cv ai ag { s with blocks:=l } bv sv ev∧B_ bZ w w' :=
 ⟨⟨h.blk.chg hc (fun e=>(h.a1 G e).1 rfl),ho,h.os.chgV hc (fun k hk e=>(h.a1 k e).2.1 hk),h.oe.chgV hc (fun k hk e=>(h.a1 k e).2.2 hk),h.gb,h.a1,h.a2,h.a3⟩,hc.below (fun k hk=>(h.ob.ltV k hk).1) (Jc h.gb (JA h.blk.lt))⟩
theorem VG.chgE (h:VG w bZ G tv cv ai ag s bv sv ev){l:LI_}(hc:Chg (fun k=>ev.ownBlock=some k) w w')(ho:bD.Own w' bZ ev l):VG w' bZ G tv cv ai ag { s with ends:=l } bv sv ev∧B_ bZ w w' :=
 ⟨⟨h.blk.chg hc (fun e=>h.a3 G e rfl),h.ob.chgV hc (fun k hk e=>(h.a1 k hk).2.2 e),h.os.chgV hc (fun k hk e=>(h.a2 k hk).2 e),ho,h.gb,h.a1,h.a2,h.a3⟩,hc.below (fun k hk=>(h.oe.ltV k hk).1) (Jc h.gb (JA h.blk.lt))⟩
theorem VG.slices (h:VG w bZ G tv cv ai ag s bv sv ev):(∃ ab cb,bv=.slice ab s.blocks.length cb)∧(∃ a1 c1,sv=.slice a1 s.seen.length c1)∧∃ ae ce,ev=.slice ae s.ends.length ce:=⟨ay h.ob,ay h.os,ay h.oe⟩
theorem Rec.Own.at0 {α:Type}{R:Rec α}{a:OA_}{n c:Nat}{l:List α}(h:R.Own w bZ (.slice a n c) l)(hl:0<l.length):∃ g,a=some ⟨g,0,none⟩:=by
 rcases h.2 with ⟨_,h0⟩|⟨g,ah,aH,hv,_⟩
 ·have:l.length=0:=h0
  omega
 ·cases hv;exact⟨g,rfl⟩
theorem uV (h:VG w bZ G tv cv ai ag s bv sv ev):C_ 173 #[.pointer (some ⟨G,5,none⟩)] w fun e w'=>e=.returned (F s.blocks.length)∧w'=w:=by
 obtain⟨⟨ab,cb,rfl⟩,_,_⟩:=h.slices;have c5:=h.c 5;clear h;go_enter func173,ntmps173;go_wp2;go_ret;exact⟨rfl,rfl⟩
theorem uP (h:VG w bZ G tv cv ai ag s bv sv ev)(hl:s.blocks.length≤1000):C_ 179 #[.pointer (some ⟨G,5,none⟩)] w fun e w'=>((s.blocks=[]∧e=.returned (.pointer none))∨∃ g c m,bv=.slice (some ⟨g,0,none⟩) s.blocks.length c∧s.blocks.length=m+1∧e=.returned (.pointer (some ⟨g,m*5,none⟩)))∧Bw_ w w':=by
 obtain⟨⟨ab,cb,rfl⟩,_,_⟩:=h.slices;have c5:=h.c 5;rcases Nat.eq_zero_or_pos s.blocks.length with h0|h0
 ·have aa:s.blocks=[]:=I7 h0
  have h1:((s.blocks.length:Int)==0)=true:=by rw[beq_iff_eq];omega
  have HB:=O aa;clear h h0 aa;go_enter func179,ntmps179;go_wp2;go_ret;exact⟨.inl ⟨HB.o,rfl⟩,Ja _ _⟩
 ·obtain⟨g,rfl⟩:=h.ob.at0 h0
  have h1:((s.blocks.length:Int)==0)=false:=by rw[beq_eq_false_iff_ne];omega
  obtain⟨m,hm⟩:∃ m,s.blocks.length=m+1:=⟨s.blocks.length-1,by omega⟩
  have az:(s.blocks.length:Int)-1=(m:Int):=Y;have N:(m:Int)<s.blocks.length:=Y;have ay:=nn_ m;have t:(s.blocks.length:Int)≤1000:=Y;have HM:=O hm;clear h h0 hm;go_enter func179,ntmps179;go_wp2;refine rk_ [(3,.exact _ (.slice (some ⟨g,0,none⟩) s.blocks.length cb)),(7,.exact _ (.slice (some ⟨g,0,none⟩) s.blocks.length cb))] ?_;refine cG ?_;refine gl_ c5 ?_;refine gl_ c5 ?_;refine aR ?_;intro w' hB hA;go_wp2;go_ret;exact⟨.inr ⟨g,cb,m,rfl,HM.o,by simp⟩,hB⟩
end
end
section
attribute [local irreducible] wpG
theorem Rec.append1V {α:Type}{aM:Array Oper}{rest:LO_}{o:Oper}{a:Act}{Q:Exit→Act→Z→Prop}(R:Rec α)(w:Z)(p:α)(av:o.guard=none)(s x:Operand)(t:T_)(ho:o.op=.call { callee:=.builtin .append,args:=#[s,x],argTypes:=#[t,t] })(ht:prog.underlying t=some (.slice R.e))(bZ:Nat)(v:V_)(xs:List α)(aw:R.Own w bZ v xs)(hs:a.eval s=v)(y:V_)(hx:a.eval x=y)(hr:aO w y 1 (R.cell p))(d:(xs.length+1)*R.bytes≤140737488355328)(aB:bZ≤w.heap.size)(h:∀ g ah w',R.Own w' bZ (.slice (some ⟨g,0,none⟩) (xs.length+1) ah) (xs++[p])→Chg (fun k=>v.ownBlock=some k) w w'→(v.ownBlock=some g∨w.heap.size≤g) → wpList prog aM Q rest (a.put o.dst (.slice (some ⟨g,0,none⟩) (xs.length+1) ah)) w'):wpList prog aM Q (o::rest) a w:=by
 obtain⟨i,hi,hz,ao,aG⟩:=info_parts R.info;have hn:xs.length+1≤(xs.length+1)*R.bytes:=Nat.le_mul_of_pos_right _ R.bpos;obtain⟨ax,c,rfl,q,hc⟩:=hr
 cases ax with
 | none=>have:=(q rfl).1;omega
 | some ad =>
  refine wpList_append_lies _ av s x t ho bZ R.e i R.z R.n R.bytes ht hi hz ao aG R.zs R.pos v xs.length (R.cells xs) hs aw ad 1 c (R.cell p) hx (by simpa using R.len p) ?_ (R.one p) d_ yzb d aB _ rfl ?_
  ·exact L9
  ·intro g ah w' h2 h3 h4 h5
   have hB:B_ bZ w w':=(Ja bZ w).grown h3 aB (fun k hk=>(Rec.Own.ltV aw k hk).1);refine h g ah w' ?_ ⟨hB.os,hB.tape,hB.output,hB.size,fun j hj aI=>h3.block j hj (fun e=>aI e.symm)⟩ ?_
   ·unfold Rec.Own;rw[R.cells_append,Jh,Rec.cells,Rec.cells,Jy];exact h2
   ·rcases h4 with h4|h4
    ·exact .inl h4
    ·exact .inr Y
theorem Mw {T:Prop} (h:T:=by
 rcases Nat.lt_or_ge j (R.cell p).length with h|h
 ·exact h
 ·simp[List.getElem?_eq_none h]at hj
):T:=h
theorem Rec.step_append1V {α:Type}{aM:Array Oper}{o:Oper}{a:Act}{K:Act→Z→Prop}{Q:Exit→Act→Z→Prop}{E:Prop}(R:Rec α)(wr:Z)(p:α)(av:o.guard=none)(s x:Operand)(t:T_)(ho:o.op=.call { callee:=.builtin .append,args:=#[s,x],argTypes:=#[t,t] })(ht:prog.underlying t=some (.slice R.e))(bZ:Nat)(v:V_)(xs:List α)(hs:a.eval s=v)(aw:R.Own wr bZ v xs)(c:Nat)(hx:a.eval x=.slice (some ⟨wr.heap.size,0,none⟩) 1 c)(cs:AV_)(aR:cs=(R.cell p).toArray)(e:T_)(he:e=R.e)(d:(xs.length+1)*R.bytes≤140737488355328)(aB:bZ≤wr.heap.size)(h:∀ g ah w',R.Own w' bZ (.slice (some ⟨g,0,none⟩) (xs.length+1) ah) (xs++[p])→Chg (fun k=>v.ownBlock=some k) wr w'→(v.ownBlock=some g∨wr.heap.size≤g)→K (a.put o.dst (.slice (some ⟨g,0,none⟩) (xs.length+1) ah)) w'):if Region.wanted o (yielded aM a.tmps)=true then Oper.wp prog o a (wr.alloc (.cells cs e)) K Q else E:=by
 subst aR he;obtain⟨i,hi,hz,ao,aG⟩:=info_parts R.info;have hn:xs.length+1≤(xs.length+1)*R.bytes:=Nat.le_mul_of_pos_right _ R.bpos;refine step_append_lies _ av s x t ho bZ R.e i R.z R.n R.bytes ht hi hz ao aG R.zs R.pos v xs.length (R.cells xs) hs (World.ownsRow.alloc aw _) ⟨wr.heap.size,0,none⟩ 1 c (R.cell p) hx (by simpa using R.len p) ?_ (R.one p) d_ yzb d yza _ rfl ?_
 ·intro j u hj
  have:j<(R.cell p).length:=by
   exact Mw
  exact M7
 ·intro g ah w' h2 h3 h4 h5
  have hB:B_ bZ wr w':=((Ja bZ wr).alloc aB _).grown h3 yza (fun k hk=>(Rec.Own.ltV aw k hk).1);refine h g ah w' ?_ ⟨hB.os,hB.tape,hB.output,hB.size,fun j hj aI=>?_⟩ ?_
  ·unfold Rec.Own;rw[R.cells_append,Jh,Rec.cells,Rec.cells,Jy];exact h2
  ·rw[h3.block j yza (fun e=>aI e.symm)]
   exact Below.heap_alloc _ _ _ hj
  ·rcases h4 with h4|h4
   ·exact .inl h4
   ·exact .inr yzx
theorem Rec.Own.shortRun {α:Type}{R:Rec α}{w:Z}{bZ g c:Nat}{l:List α}(h:R.Own w bZ (.slice (some ⟨g,0,none⟩) l.length c) l)(st:T_)(ab:prog.underlying st=some (.slice (prog.elem st)))(a6:∀ wx,(sizeOf (prog.elem st)).run prog wx=.ok R.n wx)(k:Nat)(hk:k≤l.length):∀ wx,(Instr.slice st (.slice (some ⟨g,0,none⟩) l.length c) none (some (F k)) none).run prog wx=.ok (.slice (some ⟨g,0,none⟩) k c) wx:=by
 intro wx;obtain⟨_,a',aK,hv,aq⟩:=id h.row;injection hv with _ _ h3
 subst h3;have hr:=run_slice_h wx st (some ⟨g,0,none⟩) l.length c ab .i64 k Y Y;rw[a6]at hr;rw[hr];simp only[Result.andThen,sliced]
 split<;>simp[Addr.add]
def vbV (b:Vb):V_:=.agg #[.int .u8 b.op.toNat,.string (bs b.want),.string (bs b.opn),.int .i64 b.at_,.bool b.did]
section
variable {w w' w3:Z}{bZ G:Nat}{tv cv bv sv ev an V:V_}{ai:Nat}{ag:U8_}{s:Vs}
theorem rY (b:Vb)(h:VG w bZ G tv cv ai ag s bv sv ev)(hl:s.blocks.length≤1000):C_ 181 #[.pointer (some ⟨G,5,none⟩),vbV b] w fun e w'=>(∃ v,e=.returned v)∧(∃ an,VG w' bZ G tv cv ai ag { s with blocks:=s.blocks++[b] } an sv ev)∧B_ bZ w w':=by
 obtain⟨⟨ab,cb,rfl⟩,_,_⟩:=h.slices;have HH:=O h;obtain⟨W1,aA⟩:=H (w.alloc (.cells #[.int .u8 b.op.toNat,s_ b.want,s_ b.opn,F b.at_,.bool b.did] 259));have a8:=ba_ aA;have hx:=bm_ aA;have h1:=h.below a8;have c5:=h1.c 5;obtain⟨x0,x1,x2,x3,x4⟩:=cl5 hx;have H1:=O h1;have a_:=O a8;clear h h1 hx a8;unfold vbV;go_enter func181,ntmps181;go_upto_region 1 with fail;rw[←aA];clear aA;have j:=H1.o.below (b_drew W1);have bB:bZ≤W1.drew.heap.size:=Jc j.gb (JA j.blk.lt);have aS:(s.blocks.length+1)*56≤140737488355328:=Y
 have t:=O j;have aw:=j.ob;have bq:G<W1.heap.size:=H1.o.blk.lt;have y:w.heap.size<W1.heap.size:=aG x0;clear j;go_region_law (refine mH.step_append1V W1.drew b rfl _ _ 245 rfl underlying245 bZ (.slice ab s.blocks.length cb) s.blocks rfl aw _ rfl _ rfl _ rfl aS bB ?_;intro g gc w3 M aI A;have hn:=t.o.newB (an:=.slice (some ⟨g,0,none⟩) (s.blocks.length+1) gc) aI (fun k hk=>by cases hk;exact A) M;have aX:Blk w3 G 249 _:=t.o.blk.chg aI (fun e=>(t.o.a1 G e).1 rfl);have f5:=aX.f 5;have bx:=aX.c 5;have HN:=O hn;clear hn aX M aI A)
 all_goals
  refine bodyPost_end (results_none rfl _ _ _) rfl ?_;exact⟨⟨_,rfl⟩,⟨_,HN.o.1⟩,((bt a_.o (b_drew W1)).mono (Jc HH.o.gb (JA HH.o.blk.lt))).trans HN.o.2⟩
theorem CY (h:VG w bZ G tv cv ai ag s bv sv ev)(hl:s.blocks.length≤1000)(h0:0<s.blocks.length):C_ 182 #[.pointer (some ⟨G,5,none⟩)] w fun e w'=>(∃ v,e=.returned v)∧(∃ an,VG w' bZ G tv cv ai ag { s with blocks:=s.blocks.dropLast } an sv ev)∧B_ bZ w w':=by
 obtain⟨⟨ab,cb,rfl⟩,_,_⟩:=h.slices;obtain⟨m,hm⟩:∃ m,s.blocks.length=m+1:=⟨s.blocks.length-1,by omega⟩
 have az:(s.blocks.length:Int)-1=(m:Int):=Y;have N:(m:Int)<s.blocks.length:=Y;have ay:=nn_ m;have t:(s.blocks.length:Int)≤1000:=Y;have hd:s.blocks.dropLast=s.blocks.take m:=by rw[List.dropLast_eq_take];congr 1;omega
 have HD:=O hd;have HM:=O hm;have c5:=h.c 5;have HH:=O h;obtain⟨g,rfl⟩:=h.ob.at0 h0;have aO:=h.ob.shortRun 245 underlying245 yzg m Y;clear h h0 hd hm;go_enter func182,ntmps182;go_wp2;refine aU 12 [(4,.exact _ (.slice (some ⟨g,0,none⟩) s.blocks.length cb)),(8,.exact _ (.slice (some ⟨g,0,none⟩) s.blocks.length cb))] q_ q_ ?_;simp only[Jw,JE,Ju,JF];refine cG ?_;refine gl_ c5 ?_;refine gl_ c5 ?_;refine aR ?_;intro w5 aN aF;have h5:=HH.o.below aN;have f5:=h5.f 5;have bx:=h5.c 5;have hn:=h5.newB (an:=.slice (some ⟨g,0,none⟩) m cb) (l:=s.blocks.take m) (Chg.refl _ _) (fun k hk=>by cases hk;exact .inl rfl) (h5.ob.short m (by have:=HM.o;omega));have HN:=O hn;have aJ:=O aN;clear aN aF h5 hn c5;go_wp2;refine bodyPost_end (results_none rfl _ _ _) rfl ?_;rw[HD.o];exact⟨⟨_,rfl⟩,⟨_,HN.o.1⟩,(aJ.o.mono (Jc HH.o.gb (JA HH.o.blk.lt))).trans HN.o.2⟩
end
end
theorem mD (nt ai:Nat)(ag:U8_)(i:Nat)(s:Vs):fF nt ai ag i [] s=(i,overV ag s,s):=rfl
theorem pp {nt ai:Nat}{ag:U8_}{i:Nat}{x:VI}{r:LJ_}{s:Vs}(h:(cq nt ai ag i x s).1=0):fF nt ai ag i (x::r) s=fF nt ai ag (i+1) r (cq nt ai ag i x s).2:=by rw[fF,if_pos h]
theorem jk {nt ai:Nat}{ag:U8_}{i:Nat}{x:VI}{r:LJ_}{s:Vs}(h:(cq nt ai ag i x s).1≠0):fF nt ai ag i (x::r) s=(i,(cq nt ai ag i x s).1,(cq nt ai ag i x s).2):=by rw[fF,if_neg h]
theorem wT:ep.length=24:=d_
theorem jO {nt ai:Nat}{ag:U8_}{i:Nat}{x:VI}{s:Vs}(h:(cq nt ai ag i x s).1=0):thereV nt ai ag s.blocks x=0:=by
 unfold cq at h
 split at h
 ·rename_i h0;exact absurd h h0
 ·rename_i h0;simpa using h0
theorem fi {texts:LL_}{I:LJ_}{ag:U8_}(h:(az texts I ag).2.1=0):dH texts I=true∧dX ag=true∧∃ n,fF texts.length (inputsV ag) ag 0 I (bd I.length)=(n,0,(az texts I ag).2.2):=by
 unfold az at h⊢
 split at h
 ·rename_i hm
  rw[Jj]at hm;refine⟨hm.1,hm.2,?_⟩;rw[if_pos (by rw[hm.1,hm.2];rfl)]
  split at h
  ·rename_i h0
   rw[if_pos h0];exact⟨_,Prod.ext rfl (Prod.ext h0 rfl)⟩
  ·rename_i h0
   exact absurd h h0
 ·cases h
def opensV (op:U8_):Bool:=op==19||op==22||op==20
def stV (nt ai:Nat)(ag:U8_)(I:LJ_):Nat→Vs
 | 0=>bd I.length
 | i+1=>(cq nt ai ag i (I.getD i (0,0)) (stV nt ai ag I i)).2
theorem zL {nt ai:Nat}{ag:U8_}{I:LJ_}{n:Nat}{t:Vs}:∀ (r:LJ_) (i:Nat),r=I.drop i→i≤I.length→fF nt ai ag i r (stV nt ai ag I i)=(n,0,t) → (∀ j,i≤j→j<I.length→(cq nt ai ag j (I.getD j (0,0)) (stV nt ai ag I j)).1=0)∧stV nt ai ag I I.length=t∧overV ag t=0
 | [],i,hr,hi,h=>by
  have hl:i=I.length:=by
   have:=congrArg List.length hr;simp at this;omega
  subst hl;rw[mD]at h;injection h with _ h
  injection h with h1 h2
  exact⟨fun j h1 h2=>by omega,h2,by rw[←h2];exact h1⟩
 | x::r,i,hr,hi,h=>by
  have aC:i<I.length:=by
   rcases Nat.lt_or_ge i I.length with h'|h'
   ·exact h'
   ·rw[List.drop_of_length_le h']at hr;cases hr
  rw[JP aC]at hr;injection hr with hx hr
  have b:I.getD i (0,0)=x:=by rw[List.getD,List.getElem?_eq_getElem aC,hx];rfl
  by_cases h0:(cq nt ai ag i x (stV nt ai ag I i)).1=0
  ·rw[pp h0]at h
   have ab:stV nt ai ag I (i+1)=(cq nt ai ag i x (stV nt ai ag I i)).2:=by rw[stV,b]
   rw[←ab]at h;obtain⟨g1,g2⟩:=zL r (i+1) hr aC h;refine⟨fun j h1 h2=>?_,g2⟩
   by_cases e:j=i
   ·subst e;rw[b];exact h0
   ·exact g1 j Y h2
  ·rw[jk h0]at h
   injection h with _ h
   injection h with h1 h2
   exact absurd h1 h0
theorem BZ (x:VI)(h:x.1=20∨x.1=21):b_Z x=([],[]):=by
 obtain⟨p,a⟩:=x;rcases h with h|h
 ·obtain rfl:p=20:=h
  rfl
 ·obtain rfl:p=21:=h
  rfl
theorem Ee (x:VI)(h:x.1=19∨x.1=22):(b_Z x).1.length=1∧(b_Z x).2=[]:=by
 obtain⟨p,a⟩:=x;rcases h with h|h
 ·obtain rfl:p=19:=h
  exact⟨rfl,rfl⟩
 ·obtain rfl:p=22:=h
  exact⟨rfl,rfl⟩
theorem mw {k:q}{x:VI}(h:x.1=20∨x.1=21):(aK k x).2=k:=by
 have he:=BZ x h;unfold aK;rw[he]
 split
 ·rfl
 split
 ·rfl
 split
 ·rfl
 simp[bS]
theorem uJ {k:q}{x:VI}(h:x.1=19∨x.1=22)(h0:(aK k x).1=0):(aK k x).2=k.take (k.length-min 1 k.length):=by
 obtain⟨h1,h2⟩:=Ee x h;unfold aK at h0⊢;rw[h1,h2]at h0⊢
 split at h0
 ·cases h0
 rename_i hl;rw[if_neg hl]
 split at h0
 ·cases h0
 rename_i hf;rw[if_neg hf]
 split at h0
 ·cases h0
 rename_i hm;rw[if_neg hm];show k.take (k.length-1)++[]=_;rw[Jy];congr 1;omega
theorem xI {k:q}{x:VI}(h0:(aK k x).1=0):(aK k x).2.length≤16∧(x.1=22→(aK k x).2.length<16):=by
 unfold aK at h0⊢
 split at h0
 ·cases h0
 rename_i hl;rw[if_neg hl]
 split at h0
 ·cases h0
 rename_i hf;rw[if_neg hf]
 split at h0
 ·cases h0
 rename_i hm;rw[if_neg hm];obtain⟨r,hr⟩:=H (k.take (k.length-(b_Z x).1.length)++bS (k.drop (k.length-(b_Z x).1.length)) (b_Z x).2);rw[←hr]at hm⊢;refine⟨?_,fun e=>?_⟩
 ·show r.length≤16
  omega
 ·show r.length<16
  have:¬16≤r.length:=fun h=>hm (.inl ⟨e,h⟩);omega
inductive xn (i:Nat) (x:VI) (s s':Vs):Prop where
 | push (h:x.1=19∨x.1=22) (k:q) (hk:k=s.kinds.take (s.kinds.length-min 1 s.kinds.length)) (hb:s'.blocks=s.blocks++[⟨x.1,k,k,i,false⟩]) (he:s'.ends=s.ends)
 | turn (h:x.1=20) (r:List Vb) (b:Vb) (hl:s.blocks=r++[b]) (hb:s'.blocks=r++[{ b with want:=s.kinds,at_:=i,did:=true }]) (he:s'.ends=s.ends.set b.at_ (i:Int))
 | pop (h:x.1=21) (r:List Vb) (b:Vb) (hl:s.blocks=r++[b]) (hk:s.kinds=b.want) (hb:s'.blocks=r) (he:s'.ends=s.ends.set b.at_ (i:Int))
 | rest (h:opensV x.1=false∧x.1≠21) (hb:s'.blocks=s.blocks) (he:s'.ends=s.ends)
theorem gx {α:Type}{l:List α}{b:α}(h:l.getLast?=some b):l=l.dropLast++[b]:=by
 obtain⟨D,rfl⟩:=List.getLast?_eq_some_iff.1 h;rw[List.dropLast_concat]
theorem ln {nt ai:Nat}{ag:U8_}{i:Nat}{x:VI}{s:Vs}(hk:s.kinds.length≤16)(h0:(cq nt ai ag i x s).1=0):xn i x s (cq nt ai ag i x s).2∧(cq nt ai ag i x s).2.seen=s.seen++[s.kinds]∧(cq nt ai ag i x s).2.deep=max s.deep (cq nt ai ag i x s).2.kinds.length:=by
 have ht:=jO h0
 have bo:x.1=20∨x.1=21→s.blocks≠[]:=by
  intro e hb;unfold thereV at ht;rw[hb]at ht;rcases e with e|e
  ·rw[e]at ht
   revert ht;simp[dM]
  ·rw[e]at ht
   revert ht;simp
 unfold cq at h0⊢;rw[if_neg (by rw[ht];simp)]at h0⊢
 split at h0
 ·rename_i hv;exact absurd h0 hv
 rename_i hv;rw[if_neg hv];have C:(aK s.kinds x).1=0:=by simpa using hv
 clear hv;have bq:=@mw s.kinds x;have c:x.1=19∨x.1=22→_:=fun h=>uJ (k:=s.kinds) h C;obtain⟨k',H⟩:∃ k',k'=(aK s.kinds x).2:=⟨_,rfl⟩
 rw[←H]at bq c h0;simp only[←H];unfold turnsV at h0⊢
 by_cases ah:x.1=19
 ·simp only[ah,if_true]at h0⊢
  exact⟨.push (.inl ah) k' (c (.inl ah)) (by rw[ah]) rfl,yzj,yzj⟩
 by_cases B:x.1=22
 ·rw[if_neg ah,if_pos B]
  exact⟨.push (.inr B) k' (c (.inr B)) (by rw[B]) rfl,yzj,yzj⟩
 rw[if_neg ah,if_neg B]at h0⊢
 by_cases ac:x.1=20
 ·have z:=bq (.inl ac)
  have aI:=bo (.inl ac);rw[if_pos ac]at h0⊢
  cases hb:s.blocks.getLast? with
  | none=>exact absurd (List.getLast?_eq_none_iff.1 hb) aI
  | some b =>
   refine⟨.turn ac s.blocks.dropLast b (gx hb) ?_ rfl,yzj,yzj⟩;simp only[z]
 rw[if_neg ac]at h0⊢
 by_cases D:x.1=21
 ·have z:=bq (.inr D)
  have aI:=bo (.inr D);rw[if_pos D]at h0⊢
  cases hb:s.blocks.getLast? with
  | none=>exact absurd (List.getLast?_eq_none_iff.1 hb) aI
  | some b =>
   simp only[hb]at h0⊢
   by_cases hw:k'=b.want
   ·rw[if_pos hw]
    exact⟨.pop D s.blocks.dropLast b (gx hb) (by rw[←z];exact hw) rfl rfl,yzj,yzj⟩
   ·rw[if_neg hw]at h0;cases h0
 rw[if_neg D];refine⟨.rest ⟨?_,D⟩ rfl rfl,yzj,yzj⟩;unfold opensV;simp[ah,B,ac]
def opV (I:LJ_)(j:Nat):U8_:=(I.getD j (0,0)).1
def xR (k:q):q:=k.take (k.length-min 1 k.length)
structure zC (code:LJ_) (i:Nat) (s:Vs):Prop where
 sl:s.seen.length=i
 el:s.ends.length=code.length
 sk:∀ k∈s.seen,k.length≤16
 st:(s.blocks.map Vb.at_).Pairwise (·<·)
 bl:∀ b∈s.blocks,b.at_<i∧opensV (opV code b.at_)=true∧(b.did=true↔opV code b.at_=20)∧b.want=(if b.did=true then s.seen.getD b.at_ [] else xR (s.seen.getD b.at_ []))
 en:∀ j,j<code.length→(s.ends.getD j 0=0∧(j<i→opensV (opV code j)=true→j∈s.blocks.map Vb.at_))∨(j<i∧opensV (opV code j)=true∧(j:Int)<s.ends.getD j 0∧s.ends.getD j 0<(i:Int)∧j ∉ s.blocks.map Vb.at_)
theorem ze {α:Type}{l r:List α}{j:Nat}{d:α}(h:j<l.length):(l++r).getD j d=l.getD j d:=by
 simp[List.getD,List.getElem?_append_left h]
theorem BV {α:Type}{l:List α}{x d:α}:(l++[x]).getD l.length d=x:=by simp[List.getD]
theorem gK {l:LI_}{a j:Nat}{v:Int}(h:a≠j):(l.set a v).getD j 0=l.getD j 0:=by simp[List.getD,List.getElem?_set,h]
theorem iU {l:LI_}{a:Nat}{v:Int}(h:a<l.length):(l.set a v).getD a 0=v:=by simp[List.getD,h]
theorem zC.old {I:LJ_}{i:Nat}{s:Vs}(h:zC I i s){b:Vb}(hb:b∈s.blocks){k:q}:b.at_<i+1∧opensV (opV I b.at_)=true∧(b.did=true↔opV I b.at_=20)∧b.want=(if b.did=true then (s.seen++[k]).getD b.at_ [] else xR ((s.seen++[k]).getD b.at_ [])):=by
 obtain⟨h1,h2,h3,h4⟩:=h.bl b hb;rw[ze (by rw[h.sl];exact h1)];exact⟨by omega,h2,h3,h4⟩
theorem jj {r:List Vb}{b:Vb}(h:((r++[b]).map Vb.at_).Pairwise (·<·)):(r.map Vb.at_).Pairwise (·<·)∧∀ a∈r.map Vb.at_,a<b.at_:=by
 rw[Jf,List.pairwise_append]at h;exact⟨h.1,fun a ha=>h.2.2 a ha b.at_ i_⟩
theorem zC.step {I:LJ_}{i:Nat}{s s':Vs}(h:zC I i s)(hi:i<I.length)(hk:s.kinds.length≤16)(hs:xn i (I.getD i (0,0)) s s')(d:s'.seen=s.seen++[s.kinds]):zC I (i+1) s':=by
 have aE:opV I i=(I.getD i (0,0)).1:=rfl;have bj:s'.seen.length=i+1:=by rw[d,Jh,h.sl];rfl
 have f:∀ k∈s'.seen,k.length≤16:=by
  intro k H;rw[d]at H;rcases Jt.1 H with h1|h1
  ·exact h.sk k h1
  ·rw[Jp]at h1;subst h1;exact hk
 have m:(s.seen++[s.kinds]).getD i []=s.kinds:=by rw[←h.sl];exact BV
 have aC:∀ a∈s.blocks.map Vb.at_,a<i:=by
  intro a ha;obtain⟨b,hb,rfl⟩:=List.mem_map.1 ha;exact(h.bl b hb).1
 rcases hs with ⟨hx,k,aq,hb,he⟩|⟨hx,r,b,hl,hb,he⟩|⟨hx,r,b,hl,M,hb,he⟩|⟨hx,hb,he⟩
 ·refine⟨bj,by rw[he];exact h.el,f,?_,?_,?_⟩
  ·rw[hb,Jf,List.pairwise_append]
   exact⟨h.st,by simp,fun a ha c hc=>by simp at hc;subst hc;exact aC a ha⟩
  ·intro c hc
   rw[hb]at hc;rw[d];rcases Jt.1 hc with hc|hc
   ·exact h.old hc
   ·rw[Jp]at hc;subst hc
    refine⟨Nat.lt_succ_self i,?_,?_,?_⟩
    ·show opensV (opV I i)=true
     rw[aE];unfold opensV;rcases hx with e|e<;>rw[e]<;>rfl
    ·show false=true↔opV I i=20
     rw[aE];rcases hx with e|e<;>rw[e]<;>simp
    ·show k=if false=true then _ else xR ((s.seen++[s.kinds]).getD i [])
     rw[m,aq];rfl
  ·intro j hj
   rw[he,hb,Jf];rcases h.en j hj with ⟨h1,h2⟩|⟨h1,h2,h3,h4,h5⟩
   ·refine .inl ⟨h1,fun h3 h4=>Jt.2 ?_⟩
    by_cases e:j=i
    ·exact .inr (by simp[e])
    ·exact .inl (h2 Y h4)
   ·refine .inr ⟨by omega,h2,h3,by omega,fun hm=>?_⟩
    rcases Jt.1 hm with hm|hm
    ·exact h5 hm
    ·simp at hm;omega
 ·have aj:b∈s.blocks:=by rw[hl];simp
  obtain⟨b1,b2,b3,b4⟩:=h.bl b aj;obtain⟨o,q⟩:=jj (by rw[←hl];exact h.st);have l:∀ a∈r.map Vb.at_,a∈s.blocks.map Vb.at_:=fun a ha=>by rw[hl,Jf];exact Jt.2 (.inl ha)
  refine⟨bj,by rw[he,JN];exact h.el,f,?_,?_,?_⟩
  ·rw[hb,Jf,List.pairwise_append]
   exact⟨o,by simp,fun a ha c hc=>by simp at hc;subst hc;exact aC a (l a ha)⟩
  ·intro c hc
   rw[hb]at hc;rw[d];rcases Jt.1 hc with hc|hc
   ·exact h.old (by rw[hl];exact Jt.2 (.inl hc))
   ·rw[Jp]at hc;subst hc
    refine⟨Nat.lt_succ_self i,?_,?_,?_⟩
    ·show opensV (opV I i)=true
     rw[aE,hx];rfl
    ·show true=true↔opV I i=20
     rw[aE,hx];simp
    ·show s.kinds=if true=true then (s.seen++[s.kinds]).getD i [] else _
     rw[m];rfl
  ·intro j hj
   rw[he,hb,Jf]
   by_cases g:b.at_=j
   ·subst g
    rw[iU (by rw[h.el];exact hj)];refine .inr ⟨by omega,b2,by omega,by omega,fun hm=>?_⟩;rcases Jt.1 hm with hm|hm
    ·have:=q _ hm;omega
    ·simp at hm;omega
   ·rw[gK g]
    rcases h.en j hj with ⟨h1,h2⟩|⟨h1,h2,h3,h4,h5⟩
    ·refine .inl ⟨h1,fun h3 h4=>Jt.2 ?_⟩
     by_cases e:j=i
     ·exact .inr (by simp[e])
     ·have:=h2 Y h4
      rw[hl,Jf]at this;rcases Jt.1 this with hm|hm
      ·exact .inl hm
      ·simp at hm;exact absurd hm.symm g
    ·refine .inr ⟨by omega,h2,h3,by omega,fun hm=>?_⟩
     rcases Jt.1 hm with hm|hm
     ·exact h5 (l j hm)
     ·simp at hm;omega
 ·have aj:b∈s.blocks:=by rw[hl];simp
  obtain⟨b1,b2,b3,b4⟩:=h.bl b aj;obtain⟨o,q⟩:=jj (by rw[←hl];exact h.st);have l:∀ a∈r.map Vb.at_,a∈s.blocks.map Vb.at_:=fun a ha=>by rw[hl,Jf];exact Jt.2 (.inl ha)
  refine⟨bj,by rw[he,JN];exact h.el,f,by rw[hb];exact o,?_,?_⟩
  ·intro c hc
   rw[hb]at hc;rw[d];exact h.old (by rw[hl];exact Jt.2 (.inl hc))
  ·intro j hj
   rw[he,hb]
   by_cases g:b.at_=j
   ·subst g
    rw[iU (by rw[h.el];exact hj)];refine .inr ⟨by omega,b2,by omega,by omega,fun hm=>?_⟩;have:=q _ hm;omega
   ·rw[gK g]
    rcases h.en j hj with ⟨h1,h2⟩|⟨h1,h2,h3,h4,h5⟩
    ·refine .inl ⟨h1,fun h3 h4=>?_⟩
     by_cases e:j=i
     ·subst e
      rw[aE,hx]at h4;cases h4
     ·have:=h2 Y h4
      rw[hl,Jf]at this;rcases Jt.1 this with hm|hm
      ·exact hm
      ·simp at hm;exact absurd hm.symm g
    ·exact .inr ⟨by omega,h2,h3,by omega,fun hm=>h5 (l j hm)⟩
 ·refine⟨bj,by rw[he];exact h.el,f,by rw[hb];exact h.st,?_,?_⟩
  ·intro c hc
   rw[hb]at hc;rw[d];exact h.old hc
  ·intro j hj
   rw[he,hb];rcases h.en j hj with ⟨h1,h2⟩|⟨h1,h2,h3,h4,h5⟩
   ·refine .inl ⟨h1,fun h3 h4=>?_⟩
    by_cases e:j=i
    ·subst e
     rw[aE,hx.1]at h4;cases h4
    ·exact h2 Y h4
   ·exact .inr ⟨by omega,h2,h3,by omega,h5⟩
theorem xn.keep {i:Nat}{x:VI}{s s':Vs}(hs:xn i x s s'){j:Nat}(hj:j<i)(hn:j ∉ s.blocks.map Vb.at_):s'.ends.getD j 0=s.ends.getD j 0∧j ∉ s'.blocks.map Vb.at_:=by
 rcases hs with ⟨_,k,_,hb,he⟩|⟨_,r,b,hl,hb,he⟩|⟨_,r,b,hl,_,hb,he⟩|⟨_,hb,he⟩
 ·rw[he,hb,Jf]
  refine⟨rfl,fun hm=>?_⟩;rcases Jt.1 hm with hm|hm
  ·exact hn hm
  ·simp at hm;omega
 ·rw[hl,Jf]at hn
  rw[he,hb,Jf];refine⟨gK (fun e=>hn (Jt.2 (.inr (by simp[e])))),fun hm=>?_⟩;rcases Jt.1 hm with hm|hm
  ·exact hn (Jt.2 (.inl hm))
  ·simp at hm;omega
 ·rw[hl,Jf]at hn
  rw[he,hb];exact⟨gK (fun e=>hn (Jt.2 (.inr (by simp[e])))),fun hm=>hn (Jt.2 (.inl hm))⟩
 ·rw[he,hb]
  exact⟨rfl,hn⟩
theorem xO (I:LJ_):zC I 0 (bd I.length):=by
 refine⟨rfl,by simp[bd],fun k hk=>by simp[bd]at hk,by simp[bd],fun b hb=>by simp[bd]at hb,fun j hj=>.inl ⟨?_,fun h=>by omega⟩⟩;simp[bd,List.getD,List.getElem?_replicate,hj]
theorem yB {nt ai:Nat}{ag:U8_}{i:Nat}{x:VI}{s:Vs}(hw:∀ b∈s.blocks,b.opn.length≤16)(h0:(cq nt ai ag i x s).1=0):(cq nt ai ag i x s).2.kinds.length≤16∧∀ b∈(cq nt ai ag i x s).2.blocks,b.opn.length≤16:=by
 have ht:=jO h0;unfold cq at h0⊢;rw[if_neg (by rw[ht];simp)]at h0⊢
 split at h0
 ·rename_i hv;exact absurd h0 hv
 rename_i hv;rw[if_neg hv];have C:(aK s.kinds x).1=0:=by simpa using hv
 clear hv;obtain⟨aq,aC⟩:=xI C;obtain⟨k',H⟩:∃ k',k'=(aK s.kinds x).2:=⟨_,rfl⟩
 rw[←H]at aq aC h0;simp only[←H];unfold turnsV at h0⊢
 by_cases ah:x.1=19
 ·simp only[ah,if_true]at h0⊢
  refine⟨aq,fun b hb=>?_⟩;rcases Jt.1 hb with hb|hb
  ·exact hw b hb
  ·rw[Jp]at hb;subst hb;exact aq
 by_cases B:x.1=22
 ·rw[if_neg ah,if_pos B]
  refine⟨by have:=aC B;simp;omega,fun b hb=>?_⟩;rcases Jt.1 hb with hb|hb
  ·exact hw b hb
  ·rw[Jp]at hb;subst hb;exact aq
 rw[if_neg ah,if_neg B]at h0⊢
 by_cases ac:x.1=20
 ·rw[if_pos ac]at h0⊢
  cases hb:s.blocks.getLast? with
  | none=>exact⟨aq,hw⟩
  | some b =>
   have aj:b∈s.blocks:=by rw[gx hb];simp
   refine⟨hw b aj,fun c hc=>?_⟩;rcases Jt.1 hc with hc|hc
   ·exact hw c (List.dropLast_subset _ hc)
   ·rw[Jp]at hc;subst hc;exact hw b aj
 rw[if_neg ac]at h0⊢
 by_cases D:x.1=21
 ·rw[if_pos D]at h0⊢
  cases hb:s.blocks.getLast? with
  | none=>exact⟨aq,hw⟩
  | some b =>
   simp only[hb]at h0⊢
   by_cases d:k'=b.want
   ·rw[if_pos d]
    exact⟨aq,fun c hc=>hw c (List.dropLast_subset _ hc)⟩
   ·rw[if_neg d]at h0;cases h0
 rw[if_neg D];exact⟨aq,hw⟩
structure In (nt inp:Nat) (role:U8_) (code:LJ_) (i:Nat):Prop where
 inv:zC code i (stV nt inp role code i)
 k:(stV nt inp role code i).kinds.length≤16
 d:(stV nt inp role code i).deep≤16
 w:∀ b∈(stV nt inp role code i).blocks,b.opn.length≤16
theorem po {nt ai:Nat}{ag:U8_}{I:LJ_}(bb:∀ j,j<I.length→(cq nt ai ag j (I.getD j (0,0)) (stV nt ai ag I j)).1=0):∀ i,i≤I.length→In nt ai ag I i
 | 0,_=>⟨xO I,by simp[stV,bd],by simp[stV,bd],fun b hb=>by simp[stV,bd]at hb⟩
 | i+1,hi=>by
  obtain⟨h1,h2,h3,h4⟩:=po bb i Y;have h0:=bb i Y;obtain⟨hs,d,c⟩:=ln h2 h0;obtain⟨hk,hw⟩:=yB h4 h0;refine⟨h1.step Y h2 hs d,hk,?_,hw⟩;show(cq nt ai ag i (I.getD i (0,0)) (stV nt ai ag I i)).2.deep≤16;rw[c];omega
theorem pL {nt ai:Nat}{ag:U8_}{I:LJ_}(bb:∀ j,j<I.length→(cq nt ai ag j (I.getD j (0,0)) (stV nt ai ag I j)).1=0){i j:Nat}(hj:j<i)(hn:j ∉ (stV nt ai ag I i).blocks.map Vb.at_):∀ k,i+k≤I.length→(stV nt ai ag I (i+k)).ends.getD j 0=(stV nt ai ag I i).ends.getD j 0∧j ∉ (stV nt ai ag I (i+k)).blocks.map Vb.at_
 | 0,_=>⟨rfl,hn⟩
 | k+1,hk=>by
  obtain⟨b,o⟩:=pL bb hj hn k Y;obtain⟨h1,h2,h3,h4⟩:=po bb (i+k) Y;obtain⟨hs,d,c⟩:=ln h2 (bb (i+k) Y);obtain⟨g1,g2⟩:=hs.keep (j:=j) Y o;exact⟨g1.trans b,g2⟩
section
attribute [local irreducible] wpG
section
variable {nt ai:Nat}{ag:U8_}{bl:List Vb}{a:U8_}
theorem th1:thereV nt ai ag bl (1,a)=if nt≤a.toNat then 3 else 0:=by unfold thereV;simp
theorem th3:thereV nt ai ag bl (3,a)=if ai≤a.toNat then 3 else 0:=by unfold thereV;simp
theorem Hn:thereV nt ai ag bl (17,a)=if 8≤a.toNat then 3 else 0:=by unfold thereV;simp
theorem Hm:thereV nt ai ag bl (18,a)=if 8≤a.toNat then 3 else 0:=by unfold thereV;simp
theorem Hi:thereV nt ai ag bl (23,a)=if ag=1 then 0 else 133:=by unfold thereV;by_cases h:ag=1<;>simp[h]
theorem EN:thereV nt ai ag bl (20,a)=if dM bl.getLast?=true then 132 else 0:=by unfold thereV;simp
theorem Hk:thereV nt ai ag bl (21,a)=if bl=[] then 132 else 0:=by unfold thereV;simp
theorem Hl:thereV nt ai ag bl (19,a)=if 8≤bl.length then 132 else 0:=by unfold thereV;simp
theorem Hj:thereV nt ai ag bl (22,a)=if 8≤bl.length then 132 else 0:=by unfold thereV;simp
theorem thN {p:U8_}(h1:p≠1)(h3:p≠3)(d:p≠17)(f:p≠18)(j:p≠23)(ac:p≠20)(D:p≠21)(ah:p≠19)(B:p≠22):thereV nt ai ag bl (p,a)=0:=by unfold thereV;simp[h1,h3,d,f,j,ac,D,ah,B]
end
theorem aH {p:U8_}{k:Nat}(hk:k<256)(h:p≠UInt8.ofNat k):((p.toNat:Int)==(k:Int))=false:=by
 rw[beq_eq_false_iff_ne];intro e;have e2:p.toNat=k:=Y;exact h (UInt8.toNat_inj.1 (by rw[e2];show k=k%256;omega))
theorem bE_ {p k:U8_} (z:Int) (h:¬p=k) (e:z=(k.toNat:Int):=by decide):((p.toNat:Int)==z)=false:=by
 subst e;rw[beq_eq_false_iff_ne];intro ap;exact h (UInt8.toNat_inj.1 (by omega))
section
variable {w:Z}{bZ G:Nat}{tv cv bv sv ev:V_}{ai:Nat}{ag:U8_}{s:Vs}
theorem VG.last (h:VG w bZ G tv cv ai ag s bv sv ev){g c m:Nat}(hv:bv=.slice (some ⟨g,0,none⟩) s.blocks.length c)(hm:s.blocks.length=m+1):∃ b,s.blocks.getLast?=some b∧s.blocks[m]?=some b∧w.cell? ⟨g,m*5,none⟩=some (.int .u8 b.op.toNat)∧w.cell? ⟨g,m*5+1,none⟩=some (s_ b.want) ∧w.cell? ⟨g,m*5+2,none⟩=some (s_ b.opn)∧w.cell? ⟨g,m*5+3,none⟩=some (F b.at_)∧w.cell? ⟨g,m*5+4,none⟩=some (.bool b.did):=by
 have W:m<s.blocks.length:=Y;obtain⟨a,c',a2,_,hc⟩:=h.ob.row.open;rw[hv]at a2;injection a2 with e1 _ _
 obtain⟨b',aL,ha,hu⟩:=hc m W;rw[←e1]at ha;injection ha with ha
 injection ha with e2 e3 _
 subst e2 e3;have u0:=hu 0 _ rfl;have u1:=hu 1 _ rfl;have u2:=hu 2 _ rfl;have u3:=hu 3 _ rfl;have u4:=hu 4 _ rfl;rw[I9]at u0 u1 u2 u3 u4;exact⟨s.blocks[m],by rw[List.getLast?_eq_getElem?,hm];simp[W],List.getElem?_eq_getElem W,u0,u1,u2,u3,u4⟩
end
section
variable {w:Z}{bZ G:Nat}{cv bv sv ev:V_}{ai:Nat}{ag:U8_}{s:Vs}{nt ct:Nat}{ak:OA_}
theorem Kk {T:Prop} (h:T:=by
 go_wp2_with fail;go_ret;exact⟨by rw[HE.o];rfl,bt a_.o aW.o⟩
):T:=h
theorem Ka {T:Prop} (h:T:=by
 refine cG ?_
 repeat(refine gE_ (fun w' G hB hS hG=>?_) (fun K hK=>?_);(have y0:=IF hB x0;have y1:=IF hB x1;have y2:=IF hB g0;have y3:=IF hB g2;go_simp;exact hG _ (Bel.refl _));refine cO ?_;clear hK K)
 refine aR ?_;intro w2 ax aa;have z0:=IF ax x0;have z1:=IF ax x1;have z3:=IF ax g3;have a9:=O ax;clear ax aa x0 x1 g0 g2 g3;go_wp2_with fail;refine(HT.o _ a9.o).mono ?_;rintro e w3⟨y,al⟩;have A:=O y;have aW:=O (bt a9.o al);have u0:=IF al z0;have u1:=IF al z1;have u3:=IF al z3;clear y al z0 z1 z3;obtain⟨x,rfl⟩:∃ x,e=.returned x:=by rcases A.o with ⟨_,rfl⟩|⟨_,_,_,_,_,rfl⟩<;>exact⟨_,rfl⟩
 clear A;exact Kk
):T:=h
theorem Kb {T:Prop} (h:T:=by
 refine cG ?_
 repeat(refine gE_ (fun w' G hB hS hG=>?_) (fun K hK=>?_);(have y0:=IF hB x0;have y1:=IF hB x1;have y2:=IF hB g0;have y3:=IF hB g2;go_simp;exact hG _ (Bel.refl _));refine cO ?_;clear hK K)
 refine aR ?_;intro w2 ax aa;have z0:=IF ax x0;have z1:=IF ax x1;have z3:=IF ax g3;have a9:=O ax;clear ax aa x0 x1 g0 g2 g3;go_wp2_with fail;refine(HT.o _ a9.o).mono ?_;rintro e w3⟨y,al⟩;have A:=O y;have aW:=O (bt a9.o al);have u0:=IF al z0;have u1:=IF al z1;have u3:=IF al z3;clear y al z0 z1 z3;obtain⟨x,rfl⟩:∃ x,e=.returned x:=by rcases A.o with ⟨_,rfl⟩|⟨_,_,_,_,_,rfl⟩<;>exact⟨_,rfl⟩
 clear A;go_wp2_with fail;refine(aQ.o _ aW.o).mono ?_;rintro e w4⟨rfl,rfl⟩;exact Kk
):T:=h
theorem Kc {T:Prop} (h:T:=by
 exact Kk
):T:=h
theorem Kd {T:Prop} (h:T:=by
 clear hq;go_enter func170,ntmps170;go_upto_region 1 with fail;rw[←aA];clear aA;refine rk_ [(1,.exact _ (.int .u8 23)),(5,.exact _ (.int .u8 a.toNat)),(11,.exact _ (.slice ak nt ct)),(17,.exact _ (.int .u8 23)),(21,.exact _ (.int .u8 a.toNat)),(26,.exact _ (.int .i64 ai)),(32,.exact _ (.int .u8 23)),(36,.exact _ (.int .u8 23)),(41,.exact _ (.int .u8 a.toNat))] ?_;exact Ka
):T:=h
theorem Ke {T:Prop} (h:T:=by
 clear hq;go_enter func170,ntmps170;go_upto_region 1 with fail;rw[←aA];clear aA;refine rk_ [(1,.exact _ (.int .u8 22)),(5,.exact _ (.int .u8 a.toNat)),(11,.exact _ (.slice ak nt ct)),(17,.exact _ (.int .u8 22)),(21,.exact _ (.int .u8 a.toNat)),(26,.exact _ (.int .i64 ai)),(32,.exact _ (.int .u8 22)),(36,.exact _ (.int .u8 22)),(41,.exact _ (.int .u8 a.toNat))] ?_;exact Kb
):T:=h
theorem Kf {T:Prop} (h:T:=by
 clear hq;go_enter func170,ntmps170;go_upto_region 1 with fail;rw[←aA];clear aA;refine rk_ [(1,.exact _ (.int .u8 19)),(5,.exact _ (.int .u8 a.toNat)),(11,.exact _ (.slice ak nt ct)),(17,.exact _ (.int .u8 19)),(21,.exact _ (.int .u8 a.toNat)),(26,.exact _ (.int .i64 ai)),(32,.exact _ (.int .u8 19)),(36,.exact _ (.int .u8 19)),(41,.exact _ (.int .u8 a.toNat))] ?_;exact Kb
):T:=h
theorem Kg {T:Prop} (h:T:=by
 clear hq;go_enter func170,ntmps170;go_upto_region 1 with fail;rw[←aA];clear aA;refine rk_ [(1,.exact _ (.int .u8 18)),(5,.exact _ (.int .u8 a.toNat)),(11,.exact _ (.slice ak nt ct)),(17,.exact _ (.int .u8 18)),(21,.exact _ (.int .u8 a.toNat)),(26,.exact _ (.int .i64 ai)),(32,.exact _ (.int .u8 18)),(36,.exact _ (.int .u8 18)),(41,.exact _ (.int .u8 a.toNat))] ?_;exact Ka
):T:=h
theorem Kh {T:Prop} (h:T:=by
 clear hq;go_enter func170,ntmps170;go_upto_region 1 with fail;rw[←aA];clear aA;refine rk_ [(1,.exact _ (.int .u8 17)),(5,.exact _ (.int .u8 a.toNat)),(11,.exact _ (.slice ak nt ct)),(17,.exact _ (.int .u8 17)),(21,.exact _ (.int .u8 a.toNat)),(26,.exact _ (.int .i64 ai)),(32,.exact _ (.int .u8 17)),(36,.exact _ (.int .u8 17)),(41,.exact _ (.int .u8 a.toNat))] ?_;exact Ka
):T:=h
theorem Ki {T:Prop} (h:T:=by
 clear hq;go_enter func170,ntmps170;go_upto_region 1 with fail;rw[←aA];clear aA;refine rk_ [(1,.exact _ (.int .u8 3)),(5,.exact _ (.int .u8 a.toNat)),(11,.exact _ (.slice ak nt ct)),(17,.exact _ (.int .u8 3)),(21,.exact _ (.int .u8 a.toNat)),(26,.exact _ (.int .i64 ai)),(32,.exact _ (.int .u8 3)),(36,.exact _ (.int .u8 3)),(41,.exact _ (.int .u8 a.toNat))] ?_;exact Ka
):T:=h
theorem Kj {T:Prop} (h:T:=by
 clear hq;go_enter func170,ntmps170;go_upto_region 1 with fail;rw[←aA];clear aA;refine rk_ [(1,.exact _ (.int .u8 1)),(5,.exact _ (.int .u8 a.toNat)),(11,.exact _ (.slice ak nt ct)),(17,.exact _ (.int .u8 1)),(21,.exact _ (.int .u8 a.toNat)),(26,.exact _ (.int .i64 ai)),(32,.exact _ (.int .u8 1)),(36,.exact _ (.int .u8 1)),(41,.exact _ (.int .u8 a.toNat))] ?_;exact Ka
):T:=h
theorem AQ (h:VG w bZ G (.slice ak nt ct) cv ai ag s bv sv ev)(p a:U8_)(hl:s.blocks.length≤1000)(hn:nt≤1000)(hi:ai≤1000):R_ 170 #[p_ G,.agg #[.int .u8 p.toNat,.int .u8 a.toNat]] w (F ((thereV nt ai ag s.blocks (p,a):Nat):Int)):=by
 have HH:=O h;have ad:G<w.heap.size:=h.blk.lt;obtain⟨W1,aA⟩:=H (w.alloc (.cells #[.int .u8 p.toNat,.int .u8 a.toNat] 109));have a8:=ba_ aA;have hx:=bm_ aA;have h1:=h.below a8;obtain⟨x0,x1⟩:=cl2 hx;have g0:=h1.c 0;have g2:=h1.c 2;have g3:=h1.c 3;have a_:=O a8;have HT:=O (fun w' (hB:Bw_ W1 w')=>uP (h1.below hB) hl);have aQ:=O (fun w' (hB:Bw_ W1 w')=>uV (h1.below hB));have E:=O (fun w' (hB:Bw_ W1 w') {g c m:Nat} (hv:bv=.slice (some ⟨g,0,none⟩) s.blocks.length c) (hm:s.blocks.length=m+1)=>(h1.below hB).last hv hm);have a1:(a.toNat:Int)<256:=by have:=a.toNat_lt;omega
 have a0:0≤(a.toNat:Int):=Y;have n1:(nt:Int)≤1000:=Y;have n2:(ai:Int)≤1000:=Y;have n3:(s.blocks.length:Int)≤1000:=Y;clear h h1 hx a8
 by_cases h1:p=1
 ·subst h1
  rw[show(((1:U8_).toNat:Nat):Int)=1 from rfl]at aA x0⊢
  by_cases hq:nt≤a.toNat
  ·have q1:(nt:Int)≤a.toNat:=Y
   have HE:=O (show thereV nt ai ag s.blocks (1,a)=3 by rw[th1,if_pos hq]);exact Kj
  ·have q1:¬(nt:Int)≤a.toNat:=Y
   have HE:=O (show thereV nt ai ag s.blocks (1,a)=0 by rw[th1,if_neg hq]);exact Kj
 by_cases h3:p=3
 ·subst h3
  rw[show(((3:U8_).toNat:Nat):Int)=3 from rfl]at aA x0⊢
  by_cases hq:ai≤a.toNat
  ·have q1:(ai:Int)≤a.toNat:=Y
   have HE:=O (show thereV nt ai ag s.blocks (3,a)=3 by rw[th3,if_pos hq]);exact Ki
  ·have q1:¬(ai:Int)≤a.toNat:=Y
   have HE:=O (show thereV nt ai ag s.blocks (3,a)=0 by rw[th3,if_neg hq]);exact Ki
 by_cases d:p=17
 ·subst d
  rw[show(((17:U8_).toNat:Nat):Int)=17 from rfl]at aA x0⊢
  by_cases hq:8≤a.toNat
  ·have q1:8≤(a.toNat:Int):=Y
   have HE:=O (show thereV nt ai ag s.blocks (17,a)=3 by rw[Hn,if_pos hq]);exact Kh
  ·have q1:¬8≤(a.toNat:Int):=Y
   have HE:=O (show thereV nt ai ag s.blocks (17,a)=0 by rw[Hn,if_neg hq]);exact Kh
 by_cases f:p=18
 ·subst f
  rw[show(((18:U8_).toNat:Nat):Int)=18 from rfl]at aA x0⊢
  by_cases hq:8≤a.toNat
  ·have q1:8≤(a.toNat:Int):=Y
   have HE:=O (show thereV nt ai ag s.blocks (18,a)=3 by rw[Hm,if_pos hq]);exact Kg
  ·have q1:¬8≤(a.toNat:Int):=Y
   have HE:=O (show thereV nt ai ag s.blocks (18,a)=0 by rw[Hm,if_neg hq]);exact Kg
 by_cases j:p=23
 ·subst j
  rw[show(((23:U8_).toNat:Nat):Int)=23 from rfl]at aA x0⊢
  by_cases hq:ag=1
  ·have q1:((ag.toNat:Int) != 1)=false:=by rw[hq];rfl
   have HE:=O (show thereV nt ai ag s.blocks (23,a)=0 by rw[Hi,if_pos hq]);exact Kd
  ·have q1:((ag.toNat:Int) != 1)=true:=by
    have:=aH (p:=ag) (k:=1) d_ hq;simpa[bne] using this
   have HE:=O (show thereV nt ai ag s.blocks (23,a)=133 by rw[Hi,if_neg hq]);exact Kd
 by_cases ah:p=19
 ·subst ah
  rw[show(((19:U8_).toNat:Nat):Int)=19 from rfl]at aA x0⊢
  by_cases hq:8≤s.blocks.length
  ·have q1:8≤(s.blocks.length:Int):=Y
   have HE:=O (show thereV nt ai ag s.blocks (19,a)=132 by rw[Hl,if_pos hq]);exact Kf
  ·have q1:¬8≤(s.blocks.length:Int):=Y
   have HE:=O (show thereV nt ai ag s.blocks (19,a)=0 by rw[Hl,if_neg hq]);exact Kf
 by_cases B:p=22
 ·subst B
  rw[show(((22:U8_).toNat:Nat):Int)=22 from rfl]at aA x0⊢
  by_cases hq:8≤s.blocks.length
  ·have q1:8≤(s.blocks.length:Int):=Y
   have HE:=O (show thereV nt ai ag s.blocks (22,a)=132 by rw[Hj,if_pos hq]);exact Ke
  ·have q1:¬8≤(s.blocks.length:Int):=Y
   have HE:=O (show thereV nt ai ag s.blocks (22,a)=0 by rw[Hj,if_neg hq]);exact Ke
 by_cases D:p=21
 ·subst D
  rw[show(((21:U8_).toNat:Nat):Int)=21 from rfl]at aA x0⊢;go_enter func170,ntmps170;go_upto_region 1 with fail;rw[←aA];clear aA;refine rk_ [(1,.exact _ (.int .u8 21)),(5,.exact _ (.int .u8 a.toNat)),(11,.exact _ (.slice ak nt ct)),(17,.exact _ (.int .u8 21)),(21,.exact _ (.int .u8 a.toNat)),(26,.exact _ (F ai)),(32,.exact _ (.int .u8 21)),(36,.exact _ (.int .u8 21)),(41,.exact _ (.int .u8 a.toNat))] ?_;refine cG ?_
  repeat(refine gE_ (fun w' G hB hS hG=>?_) (fun K hK=>?_);(have y0:=IF hB x0;have y1:=IF hB x1;have y2:=IF hB g0;have y3:=IF hB g2;go_simp;exact hG _ (Bel.refl _));refine cO ?_;clear hK K)
  refine aR ?_;intro w2 ax aa;have z0:=IF ax x0;have z1:=IF ax x1;have z3:=IF ax g3;have a9:=O ax;clear ax aa x0 x1 g0 g2 g3;go_wp2_with fail;refine(HT.o _ a9.o).mono ?_;rintro e w3⟨y,al⟩;have A:=O y;have aW:=O (bt a9.o al);have u0:=IF al z0;have u1:=IF al z1;have u3:=IF al z3;clear y al z0 z1 z3;rcases A.o with ⟨hb,rfl⟩|⟨g,c,m,hv,hm,rfl⟩
  ·have HE:=O (show thereV nt ai ag s.blocks (21,a)=132 by rw[Hk,if_pos hb])
   clear A hb;exact Kc
  ·have HE:=O (show thereV nt ai ag s.blocks (21,a)=0 by rw[Hk,if_neg (fun e=>by rw[e]at hm;simp at hm)])
   clear A hv hm;exact Kc
 by_cases ac:p=20
 ·subst ac
  rw[show(((20:U8_).toNat:Nat):Int)=20 from rfl]at aA x0⊢;go_enter func170,ntmps170;go_upto_region 1 with fail;rw[←aA];clear aA;refine rk_ [(1,.exact _ (.int .u8 20)),(5,.exact _ (.int .u8 a.toNat)),(11,.exact _ (.slice ak nt ct)),(17,.exact _ (.int .u8 20)),(21,.exact _ (.int .u8 a.toNat)),(26,.exact _ (F ai)),(32,.exact _ (.int .u8 20)),(36,.exact _ (.int .u8 20)),(41,.exact _ (.int .u8 a.toNat))] ?_;refine cG ?_
  repeat(refine gE_ (fun w' G hB hS hG=>?_) (fun K hK=>?_);(have y0:=IF hB x0;have y1:=IF hB x1;have y2:=IF hB g0;have y3:=IF hB g2;go_simp;exact hG _ (Bel.refl _));refine cO ?_;clear hK K)
  refine aR ?_;intro w2 ax aa;have z0:=IF ax x0;have z1:=IF ax x1;have z3:=IF ax g3;have a9:=O ax;clear ax aa x0 x1 g0 g2 g3;go_wp2_with fail;refine(HT.o _ a9.o).mono ?_;rintro e w3⟨y,al⟩;have A:=O y;have aW:=O (bt a9.o al);have u0:=IF al z0;have u1:=IF al z1;have u3:=IF al z3;clear y al z0 z1 z3;rcases A.o with ⟨hb,rfl⟩|⟨g,c,m,hv,hm,rfl⟩
  ·have HE:=O (show thereV nt ai ag s.blocks (20,a)=132 by rw[EN,hb];rfl)
   clear A hb;exact Kc
  ·obtain⟨b,hb,_,l0,_,_,_,l4⟩:=E.o _ aW.o hv hm
   clear A hv hm
   by_cases h1:b.op=19
   ·have q1:((b.op.toNat:Int) != 19)=false:=by rw[h1];rfl
    cases hd:b.did with
    | true =>
     rw[hd]at l4;have HE:=O (show thereV nt ai ag s.blocks (20,a)=132 by rw[EN,hb];simp[dM,hd]);clear hb hd h1;exact Kc
    | false =>
     rw[hd]at l4;have HE:=O (show thereV nt ai ag s.blocks (20,a)=0 by rw[EN,hb];simp[dM,hd,h1]);clear hb hd h1;exact Kc
   ·have q1:((b.op.toNat:Int) != 19)=true:=by
     have:=aH (p:=b.op) (k:=19) d_ h1;simpa[bne] using this
    have HE:=O (show thereV nt ai ag s.blocks (20,a)=132 by rw[EN,hb];simp[dM,h1]);clear hb h1;exact Kc
 have HE:=O (thN (nt:=nt) (ai:=ai) (ag:=ag) (bl:=s.blocks) (a:=a) h1 h3 d f j ac D ah B);have e1:=bE_ 1 h1;have e3:=bE_ 3 h3;have r:=bE_ 17 d;have t:=bE_ 18 f;have u:=bE_ 23 j;have ay:=bE_ 20 ac;have az:=bE_ 21 D;have au:=bE_ 19 ah;have aB:=bE_ 22 B;clear h1 h3 d f j ac D ah B;go_enter func170,ntmps170;go_upto_region 1 with fail;rw[←aA];clear aA;refine rk_ [(1,.exact _ (.int .u8 p.toNat)),(5,.exact _ (.int .u8 a.toNat)),(11,.exact _ (.slice ak nt ct)),(17,.exact _ (.int .u8 p.toNat)),(21,.exact _ (.int .u8 a.toNat)),(26,.exact _ (F ai)),(32,.exact _ (.int .u8 p.toNat)),(36,.exact _ (.int .u8 p.toNat)),(41,.exact _ (.int .u8 a.toNat))] ?_;refine cG ?_
 repeat(refine gE_ (fun w' G hB hS hG=>?_) (fun K hK=>?_);(have y0:=IF hB x0;have y1:=IF hB x1;have y2:=IF hB g0;have y3:=IF hB g2;go_simp;exact hG _ (Bel.refl _));refine cO ?_;clear hK K)
 refine aR ?_;intro w2 ax aa;have z0:=IF ax x0;have z1:=IF ax x1;have z3:=IF ax g3;have a9:=O ax;clear ax aa x0 x1 g0 g2 g3;go_wp2_with fail;refine(HT.o _ a9.o).mono ?_;rintro e w3⟨y,al⟩;have A:=O y;have aW:=O (bt a9.o al);have u0:=IF al z0;have u1:=IF al z1;have u3:=IF al z3;clear y al z0 z1 z3;obtain⟨x,rfl⟩:∃ x,e=.returned x:=by rcases A.o with ⟨_,rfl⟩|⟨_,_,_,_,_,rfl⟩<;>exact⟨_,rfl⟩
 clear A;go_wp2_with fail;go_ret;exact⟨by rw[HE.o];rfl,bt a_.o aW.o⟩
end
end
section
attribute [local irreducible] wpG
theorem uZ {P:Program}(w:Z)(I:Nat)(s:ByteArray)(g:Nat)(ty:T_)(hI:w.heap[I]?=some (.stringIter s g))(h:g<s.size)(ha:(s[g]'h).toNat<128):(Instr.next (p_ I) true ty).run P w=.ok (.tuple #[.bool true,F g,.int .i32 (s[g]'h).toNat]) (w.putObj I (.stringIter s (g+1))):=by
 simp only[Instr.next,getObj,setObj,Sem.run_bind,Sem.run,hI,Result.andThen,h,if_true,decode_ascii s g h ha];simp[goInt,Sem.run,hI,World.putObj]
theorem tH {P:Program}(w:Z)(I:Nat)(s:ByteArray)(g:Nat)(ty:T_)(hI:w.heap[I]?=some (.stringIter s g))(h:¬g<s.size):(Instr.next (p_ I) true ty).run P w=.ok (.tuple #[.bool false]) w:=by
 simp[Instr.next,getObj,Sem.run,hI,h]
theorem eL {w:Z}{I:Nat}{s:ByteArray}{g:Nat}(hI:w.heap[I]?=some (.stringIter s g)):w.iterPos I=g:=by
 simp[World.iterPos,hI]
theorem mQ {P:Program}(w:Z)(I:Nat)(l:q)(g:Nat)(ty:T_)(hI:w.heap[I]?=some (.stringIter (bs l) g))(h:g<l.length)(ha:l[g].toNat<128):(Instr.next (p_ I) true ty).run P w=.ok (.tuple #[.bool true,F g,.int .i32 (l[g].toNat:Int)]) (w.putObj I (.stringIter (bs l) (g+1))):=by
 have hs:g<(bs l).size:=by rw[cB];exact h
 have:=uZ (P:=P) w I (bs l) g ty hI hs (by rw[Em];exact ha);rw[Em]at this;exact this
theorem oL {P:Program}(w:Z)(I:Nat)(l:q)(g:Nat)(ty:T_)(hI:w.heap[I]?=some (.stringIter (bs l) g))(h:¬g<l.length):(Instr.next (p_ I) true ty).run P w=.ok (.tuple #[.bool false]) w:=tH w I (bs l) g ty hI (by rw[cB];exact h)
def lL (w:Z):Prop:=∀ k,k<24→w.cell? ⟨0,k*2,none⟩=some (.string (bs (ep.getD k ([],[])).1))∧w.cell? ⟨0,k*2+1,none⟩=some (.string (bs (ep.getD k ([],[])).2))
theorem lL.below {w w':Z}{bZ:Nat}(h:lL w)(hB:B_ bZ w w')(hg:0<bZ):lL w':=fun k hk=>by
 obtain⟨h1,h2⟩:=h k hk;exact⟨(World.cell?_of_block (hB.block _ hg)).trans h1,(World.cell?_of_block (hB.block _ hg)).trans h2⟩
theorem BY:∀ k,k<24→(Lib.countByte (ep.getD k ([],[])).1 82=0∨(ep.getD k ([],[])).1=[82])∧(Lib.countByte (ep.getD k ([],[])).2 82=0∨(ep.getD k ([],[])).2=[82]):=d_
theorem regV_two (a:U8_):jd a=[84]∨jd a=[78]:=by unfold jd;split<;>simp
theorem replV_mem {s r:q}{c:U8_}(h:c∈fl s r):c∈s∨(s=[82]∧c∈r):=by
 unfold fl at h
 split at h
 ·rename_i e;exact .inr ⟨e,h⟩
 ·exact .inl h
theorem Fy:∀ k,k<24→(∀ c∈(ep.getD k ([],[])).1,c.toNat<128):=d_
theorem Fx:∀ k,k<24→(∀ c∈(ep.getD k ([],[])).2,c=49∨c=50∨c=84∨c=78∨c=82):=d_
theorem Fw:∀ k,k<24→(82∈(ep.getD k ([],[])).2→(ep.getD k ([],[])).2=[82]):=d_
theorem Fv:∀ k,k<24→(49∈(ep.getD k ([],[])).2→1≤(ep.getD k ([],[])).1.length):=d_
theorem Fs:∀ k,k<24→(50∈(ep.getD k ([],[])).2→2≤(ep.getD k ([],[])).1.length):=d_
theorem Fq:∀ k,k<24→((ep.getD k ([],[])).1.length≤3):=d_
theorem Fp:∀ k,k<24→((ep.getD k ([],[])).2.length≤2):=d_
theorem M1 {T:Prop} (h:T:=by
 rcases regV_two x.2 with e|e<;>(rw[e]at h;simp at h)
):T:=h
theorem sV (x:VI)(hx:x.1.toNat<24):(∀ c∈(b_Z x).1,c.toNat<128)∧(∀ c∈(b_Z x).2,c=49∨c=50∨c=84∨c=78)∧(49∈(b_Z x).2→1≤(b_Z x).1.length)∧(50∈(b_Z x).2→2≤(b_Z x).1.length)∧(b_Z x).1.length≤3∧(b_Z x).2.length≤2:=by
 have f1:=Fy x.1.toNat hx;have f2:=Fx x.1.toNat hx;have f3:=Fw x.1.toNat hx;have f4:=Fv x.1.toNat hx;have f5:=Fs x.1.toNat hx;have f6:=Fq x.1.toNat hx;have f7:=Fp x.1.toNat hx
 have hl:∀ s:q,(fl s (jd x.2)).length=s.length:=fun s=>by
  unfold fl
  split
  ·rename_i h;rw[h];rcases regV_two x.2 with e|e<;>rw[e]<;>rfl
  ·rfl
 unfold b_Z;refine⟨fun c hc=>?_,fun c hc=>?_,fun hc=>?_,fun hc=>?_,by rw[hl];exact f6,by rw[hl];exact f7⟩
 ·rcases replV_mem hc with h|⟨_,h⟩
  ·exact f1 c h
  ·rcases regV_two x.2 with e|e<;>(rw[e,Jp]at h;subst h;decide)
 ·rcases replV_mem hc with h|⟨_,h⟩
  ·rcases f2 c h with h1|h1|h1|h1|h1
   ·exact .inl h1
   ·exact .inr (.inl h1)
   ·exact .inr (.inr (.inl h1))
   ·exact .inr (.inr (.inr h1))
   ·exfalso
    subst h1;have:=f3 h;unfold fl at hc;rw[if_pos this]at hc;rcases regV_two x.2 with e|e<;>(rw[e]at hc;simp at hc)
  ·rcases regV_two x.2 with e|e<;>(rw[e,Jp]at h;subst h;simp)
 ·rw[hl]
  rcases replV_mem hc with h|⟨_,h⟩
  ·exact f4 h
  ·exact M1
 ·rw[hl]
  rcases replV_mem hc with h|⟨_,h⟩
  ·exact f5 h
  ·exact M1
theorem fitV_iff:∀ (t u:q),t.length≤u.length→(pi t u=true↔∀ j (h:j<t.length) (h':j<u.length),t[j]=63∨t[j]=u[j])
 | [],u,_=>by simp[pi]
 | a::t,[],h=>by simp at h
 | a::t,b::u,h=>by
  rw[pi,Jj,fitV_iff t u yze];constructor
  ·rintro⟨h1,h2⟩ j hj af
   cases j with
   | zero=>simpa using h1
   | succ j=>exact h2 j (by simpa using hj) (by simpa using af)
  ·intro h3
   have h4:a=63∨a=b:=h3 0 i_ i_;refine⟨by simpa using h4,fun j hj af=>?_⟩;exact h3 (j+1) (by simpa using hj) (by simpa using af)
theorem gJ {b g:q}{k:Nat}(h:k<g.length):bS b (g.take (k+1))=bS b (g.take k)++(if g[k]=49 then b.take 1 else if g[k]=50 then (b.drop 1).take 1 else [g[k]]):=by
 unfold bS;rw[JB h,List.flatMap_append];simp
theorem qK (b:q):∀ g:q,(bS b g).length≤g.length
 | []=>by simp[bS]
 | c::g=>by
  have H:=qK b g;unfold bS at H⊢;rw[List.flatMap_cons,Jh,Jq]
  have:(if c=49 then b.take 1 else if c=50 then (b.drop 1).take 1 else [c]).length≤1:=by
   split
   ·rw[JH];omega
   ·split
    ·rw[JH];omega
    ·simp
  omega
end
section
attribute [local irreducible] wpG
section
variable {w:Z}{bZ G:Nat}{tv cv bv sv ev:V_}{ai:Nat}{ag:U8_}{s:Vs}
theorem Kl {T:Prop} (h:T:=by
 refine rk_ [(2,.exact _ (.int .u8 c.toNat)),(7,.exact _ (.int .u8 c.toNat)),(10,.exact _ (.int .u8 d.toNat))] ?_;refine cG ?_
 repeat(refine gE_ (fun w' G hB hS hG=>?_) (fun K hK=>?_);(go_simp;first|exact bz.o▸hG _ (Bel.refl _)|exact aV.o▸hG _ (Bel.refl _));refine cO ?_;clear hK K)
 refine aR ?_;intro w5 aN aF;have aJ:=O (aj.o.trans (aN.mono aj.o.size));have br:=O (show w5.heap[I]?=some (.stringIter (bs T) (g+1)) from(aN.block I (Array.getElem?_eq_some_iff.1 cX.o).1).trans cX.o);clear aN aF;go_wp2;exact⟨⟨g+1,HP.o,br.o,aJ.o,bm.o⟩,by rw[eL br.o];exact a2.o⟩
):T:=h
theorem Km {T:Prop} (h:T:=by
 have bA:=O aw;clear aw hc;go_wp2;exact⟨⟨k+1,by rw[bA.o]<;>simp,D,a4.o,bP.o⟩,by rw[eL a4.o];exact a2.o⟩
):T:=h
theorem Kn {T:Prop} (h:T:=by
 have:=mQ (P:=prog) wr J E k ty a5.o D (by rw[hc];decide);rw[hc]at this;exact this
):T:=h
theorem Ko {T:Prop} (h:T:=by
 clear B N;go_wp2_with fail;go_ret;exact⟨by rw[b.o];rfl,by rw[b.o];exact b6.o.1,(IG bg.o).trans (Chg.setCell _ _ _ rfl)⟩
):T:=h
theorem Kp {T:Prop} (h:T:=by
 clear B N;go_wp2_with fail;go_ret;exact⟨by rw[b.o];rfl,by rw[b.o];exact bJ.o,IG bg.o⟩
):T:=h
theorem xH (h:VG w bZ G tv cv ai ag s bv sv ev)(hE:lL w)(hg:0<bZ)(p a:U8_)(hp:p.toNat<24)(hk:s.kinds.length≤1000):C_ 171 #[p_ G,.agg #[.int .u8 p.toNat,.int .u8 a.toNat]] w fun e w'=>e=.returned (F (((aK s.kinds (p,a)).1:Nat):Int))∧VG w' bZ G tv cv ai ag { s with kinds:=(aK s.kinds (p,a)).2 } bv sv ev∧Chg (fun x=>x=G) w w':=by
 have HH:=O h;have ad:G<w.heap.size:=h.blk.lt;have aZ:bZ≤w.heap.size:=Jc h.gb (JA ad);obtain⟨W1,aA⟩:=H (w.alloc (.cells #[.int .u8 p.toNat,.int .u8 a.toNat] 109));have a8:=ba_ aA;have hx:=bm_ aA;have h1:=h.below a8;obtain⟨x0,x1⟩:=cl2 hx;have g4:=h1.c 4;obtain⟨q1,q2⟩:=hE p.toNat hp;have t1:=IF a8 q1;have t2:=IF a8 q2;obtain⟨r1,r2⟩:=BY p.toNat hp;have r:=sV (p,a) hp;obtain⟨a_,a7,bE⟩:=zH3 a8 aZ ad;have aP:=regV_two a;obtain⟨b8,R1,R2⟩:=zH3 aP r1 r2;obtain⟨T0,bn⟩:=H ((ep.getD p.toNat ([],[])).1);obtain⟨E0,av⟩:=H ((ep.getD p.toNat ([],[])).2);obtain⟨R,hR⟩:=H (jd a);obtain⟨T,hT⟩:=H ((b_Z (p,a)).1);obtain⟨E,ba⟩:=H ((b_Z (p,a)).2);rw[←bn]at t1 R1;rw[←av]at t2 R2;rw[←hR]at b8;have bL:=O (show T=fl T0 R by rw[hT,bn,hR];rfl);have bK:=O (show E=fl E0 R by rw[ba,av,hR];rfl);obtain⟨HR,HT,bM⟩:=zH3 hR hT ba;rw[←hT,←ba]at r;have HF:=O r;have a3:T.length≤3:=r.2.2.2.2.1;have a1:(a.toNat:Int)<256:=by have:=a.toNat_lt;omega
 have a0:0≤(a.toNat:Int):=Y;have p0:0≤(p.toNat:Int):=Y;have p1:(p.toNat:Int)<24:=Y;have k1:(s.kinds.length:Int)≤1000:=Y;have k2:(T.length:Int)≤3:=Y;clear h h1 hx a8 hE q1 q2 r1 r2 r aP bn av hR hT ba;go_enter func171,ntmps171;go_upto_region 2 with fail;rw[←aA];clear aA
 go_upto_if 16 with fail
 go_cut [5] (fun t wx=>t=s_ R∧wx=W1)
 case first =>
  by_cases hq:4≤a.toNat
  ·have aL:4≤(a.toNat:Int):=Y
   have bx:=O (show R=[84] by rw[HR.o];unfold jd;rw[if_pos hq]);clear hq;go_wp2_with fail
   go_meet
   case rel=>exact⟨by rw[bx.o];rfl,rfl⟩
  ·have aL:¬4≤(a.toNat:Int):=Y
   have bC:=O (show R=[78] by rw[HR.o];unfold jd;rw[if_neg hq]);clear hq;go_wp2_with fail
   go_meet
   case rel=>exact⟨by rw[bC.o];rfl,rfl⟩
 case rest =>
  obtain⟨rfl,rfl⟩:=hcut;go_upto_region 4 with fail;refine rk_ [(1,.exact _ (.int .u8 p.toNat)),(4,.exact _ (s_ T0)),(6,.exact _ (s_ T)),(8,.exact _ (.int .u8 p.toNat)),(11,.exact _ (s_ E0)),(13,.exact _ (s_ E))] ?_;refine cG ?_;refine gl_ x0 ?_;refine gl_ t1 ?_;refine gj_ (fun w' G hB hS hG=>?_) ?_
  ·have hr:=kZ T0 R w' R1.o b8.o
   rw[←bL.o]at hr;go_simp;exact aT hG hr
  refine gl_ x0 ?_;refine gl_ t2 ?_;refine gj_ (fun w' G hB hS hG=>?_) ?_
  ·have hr:=kZ E0 R w' R2.o b8.o
   rw[←bK.o]at hr;go_simp;exact aT hG hr
  refine aR ?_;intro w2 ax aa;have z0:=IF ax x0;have z4:=IF ax g4;have a9:=O (bt a_.o ax);clear ax aa x0 x1 g4 t1 t2
  by_cases aC:s.kinds.length<T.length
  ·have n1:(s.kinds.length:Int)-(T.length:Int)<0:=Y
   have HV:=O (show aK s.kinds (p,a)=(130,s.kinds) by unfold aK;rw[←HT.o,if_pos aC]);clear aC;go_wp2_with fail;go_ret;exact⟨by rw[HV.o];rfl,by rw[HV.o];exact HH.o.below a9.o,IG a9.o⟩
  ·obtain⟨m,hm⟩:∃ m:Nat,s.kinds.length=m+T.length:=⟨s.kinds.length-T.length,by omega⟩
   have n1:(s.kinds.length:Int)-(T.length:Int)=(m:Int):=Y;have n2:¬(m:Int)<0:=Y;have n3:=nn_ m;have n4:(m:Int)≤s.kinds.length:=Y;obtain⟨K,hK⟩:=H s.kinds;have HM:=O hm;have HK:=O hK;clear aC hm;go_upto_region 8 with fail;refine rk_ [(3,.exact _ (s_ s.kinds)),(9,.exact _ (s_ s.kinds))] ?_;refine cG ?_;refine gl_ z4 ?_;refine gl_ z4 ?_;refine aR ?_;intro w3 al ao;have y0:=IF al z0;have aW:=O (bt a9.o al);clear al ao z0 z4;obtain⟨U,hU⟩:=H (s.kinds.drop m);obtain⟨Pk,bp⟩:=H (s.kinds.take m);have bD:U.length=T.length:=by rw[hU,JG];have:=HM.o;omega
   rw[←hU,←bp];obtain⟨HU,bF,aS⟩:=zH3 hU bp bD;have u1:(U.length:Int)≤3:=Y;clear hU bp bD;go_wp2_with fail;obtain⟨I,hI⟩:=H w3.heap.size;have hit:=World.iter_heap w3 (bs T) 0;have A:Bw_ w3 (w3.iter (bs T) 0):=af w3 _;rw[←hI]at hit;obtain⟨HI,bb,cQ⟩:=zH3 hI hit A;rw[←hI];clear hI hit A
   go_loopw [11] (fun _ wx=>∃ g:Nat,g≤T.length∧Hid (wx.heap[I]?=some (.stringIter (bs T) g))∧Hid (Bw_ w3 wx)∧Hid (∀ j (h:j<T.length) (h':j<U.length),j<g→T[j]=63∨T[j]=U[j])) (fun _ wx=>T.length-wx.iterPos I)
   case atStart=>exact⟨0,Jl _,bb.o,cQ.o,fun j _ _ h=>by omega⟩
   case round =>
    obtain⟨g,ab,bd,bi,aQ⟩:=hrel
    by_cases hp:g<T.length
    ·have bN:g<U.length:=by rw[aS.o];exact hp
     have bf:=HF.o.1 T[g] (Jz hp);have bT:∀ ty,(Instr.next (p_ I) true ty).run prog wr=.ok (.tuple #[.bool true,F g,.int .i32 (T[g].toNat:Int)]) (wr.putObj I (.stringIter (bs T) (g+1))):=fun ty=>mQ wr I T g ty bd.o hp bf;have bh:I<wr.heap.size:=(Array.getElem?_eq_some_iff.1 bd.o).1;have az:Bw_ w3 (wr.putObj I (.stringIter (bs T) (g+1))):=bi.o.trans ((Chg.putObj (X:=fun k=>k=I) wr I _ rfl).below (fun k hk=>by rw[hk,HI.o];exact I6 _) bi.o.size);have bj:(wr.putObj I (.stringIter (bs T) (g+1))).heap[I]?=some (.stringIter (bs T) (g+1)):=World.putObj_heap_same bh;have aj:=O az;have cX:=O bj;have j0:=nn_ g;have j1:(g:Int)<T.length:=Y;have j2:(g:Int)<U.length:=Y;have aU:T.length-(g+1)<T.length-wr.iterPos I:=by rw[eL bd.o];omega
     obtain⟨a2,HP,bo⟩:=zH3 aU hp bN;clear bf bh az bj aU;go_upto_region 12 with fail;obtain⟨X,hX⟩:=H (wr.putObj I (.stringIter (bs T) (g+1)));rw[←hX]at aj cX⊢;clear hX bT;obtain⟨c,hc⟩:=H (T[g]);obtain⟨d,hd⟩:=H (U[g]);have bz:=O hc;have aV:=O hd
     by_cases M:c=63
     ·have e1:((c.toNat:Int) != 63)=false:=by rw[M];rfl
      have hf:∀ j (h:j<T.length) (h':j<U.length),j<g+1→T[j]=63∨T[j]=U[j]:=fun j h h' hj=>by
       by_cases e:j=g
       ·subst e;exact .inl (bz.o.symm.trans M)
       ·exact aQ.o j h h' Y
      have bm:=O hf;clear M hf hc hd;exact Kl
     ·have e1:((c.toNat:Int) != 63)=true:=by
       have:=aH (p:=c) (k:=63) d_ M;simpa[bne] using this
      by_cases ar:c=d
      ·have e2:((c.toNat:Int) != (d.toNat:Int))=false:=by rw[ar];simp
       have hf:∀ j (h:j<T.length) (h':j<U.length),j<g+1→T[j]=63∨T[j]=U[j]:=fun j h h' hj=>by
        by_cases e:j=g
        ·subst e;exact .inr ((bz.o.symm.trans ar).trans aV.o)
        ·exact aQ.o j h h' Y
       have bm:=O hf;clear M hf ar hc hd;exact Kl
      ·have e2:((c.toNat:Int) != (d.toNat:Int))=true:=by
        rw[bne_iff_ne];intro e;exact ar (UInt8.toNat_inj.1 Y)
       have hv:aK s.kinds (p,a)=(131,s.kinds):=by
        have ay:pi T U=false:=by
         rw[←Bool.not_eq_true];intro b9;rcases(fitV_iff T U (by rw[aS.o];exact I6 _)).1 b9 g HP.o bo.o with h|h
         ·exact M (bz.o.trans h)
         ·exact ar ((bz.o.trans h).trans aV.o.symm)
        unfold aK;rw[←HT.o,if_neg (by have:=HM.o;omega),show s.kinds.length-T.length=m by have:=HM.o;omega,←HU.o,ay]
        rfl
       have HV:=O hv;clear M ar hv hc hd;refine rk_ [(2,.exact _ (.int .u8 c.toNat)),(7,.exact _ (.int .u8 c.toNat)),(10,.exact _ (.int .u8 d.toNat))] ?_;refine cG ?_
       repeat(refine gE_ (fun w' G hB hS hG=>?_) (fun K hK=>?_);(go_simp;first|exact bz.o▸hG _ (Bel.refl _)|exact aV.o▸hG _ (Bel.refl _));refine cO ?_;clear hK K)
       refine aR ?_;intro w5 aN aF;have aJ:=O (aW.o.trans ((aj.o.trans (aN.mono aj.o.size)).mono aW.o.size));clear aN aF;go_wp2_with fail;go_ret;exact⟨by rw[HV.o];rfl,by rw[HV.o];exact HH.o.below aJ.o,IG aJ.o⟩
    ·obtain rfl:g=T.length:=Y
     have b9:pi T U=true:=(fitV_iff T U (by rw[aS.o];exact I6 _)).2 fun j h h'=>aQ.o j h h' h;have bT:∀ ty,(Instr.next (p_ I) true ty).run prog wr=.ok (.tuple #[.bool false]) wr:=fun ty=>oL wr I T T.length ty bd.o Y;have a6:=O b9;clear b9;go_upto_region 14 with fail;clear bT;obtain⟨W4,bw⟩:∃ W,W=wr:=⟨_,rfl⟩
     subst bw;have y4:=IF bi.o y0;go_wp2_with fail;obtain⟨J,hJ⟩:=H W4.heap.size;have bq:=World.iter_heap W4 (bs E) 0;have bG:Bw_ W4 (W4.iter (bs E) 0):=af W4 _;rw[←hJ]at bq;obtain⟨HJ,bO,bQ,aO⟩:=zH4 hJ bq bG HF.o.2.2.2.2.2;rw[←hJ];clear hJ bq bG
     go_loopw [9] (fun t9 wx=>∃ k:Nat,t9=s_ (Pk++bS U (E.take k))∧k≤E.length∧Hid (wx.heap[J]?=some (.stringIter (bs E) k))∧Hid (Bw_ W4 wx)) (fun _ wx=>E.length-wx.iterPos J)
     case atStart=>exact⟨0,by simp[bS],Jl _,bO.o,bQ.o⟩
     case round =>
      obtain⟨k,rfl,bR,a5,be⟩:=hrel
      by_cases D:k<E.length
      ·have u:=HF.o.2.1 E[k] (Jz D)
       have ac:=HF.o.2.2.1;have ah:=HF.o.2.2.2.1;have bk:J<wr.heap.size:=(Array.getElem?_eq_some_iff.1 a5.o).1;have bH:Bw_ W4 (wr.putObj J (.stringIter (bs E) (k+1))):=be.o.trans ((Chg.putObj (X:=fun x=>x=J) wr J _ rfl).below (fun x hx=>by rw[hx,HJ.o];exact I6 _) be.o.size);have aG:(wr.putObj J (.stringIter (bs E) (k+1))).heap[J]?=some (.stringIter (bs E) (k+1)):=World.putObj_heap_same bk;have bP:=O bH;have a4:=O aG;have a8:Pk.length≤1000:=by rw[bF.o,JH];omega
       have aY:(bS U (E.take k)).length≤2:=Jc (qK _ _) (by rw[JH];have:=aO.o;omega);have aU:E.length-(k+1)<E.length-wr.iterPos J:=by rw[eL a5.o];omega
       have a2:=O aU;clear bk bH aG aU;rcases u with hc|hc|hc|hc
       ·have bT:∀ ty,(Instr.next (p_ J) true ty).run prog wr=.ok (.tuple #[.bool true,F k,.int .i32 49]) (wr.putObj J (.stringIter (bs E) (k+1))):=fun ty=>by
         exact Kn
        have aw:bS U (E.take (k+1))=bS U (E.take k)++U.take 1:=by rw[gJ D,hc];rfl
        have ae:1≤U.length:=by rw[aS.o];exact ac (by rw[←hc];exact Jz D)
        have au:1≤(U.length:Int):=Y;clear ae ac ah;exact Km
       ·have bT:∀ ty,(Instr.next (p_ J) true ty).run prog wr=.ok (.tuple #[.bool true,F k,.int .i32 50]) (wr.putObj J (.stringIter (bs E) (k+1))):=fun ty=>by
         exact Kn
        have aw:bS U (E.take (k+1))=bS U (E.take k)++(U.drop 1).take 1:=by rw[gJ D,hc];rfl
        have ae:2≤U.length:=by rw[aS.o];exact ah (by rw[←hc];exact Jz D)
        have au:2≤(U.length:Int):=Y;clear ae ac ah;exact Km
       ·have bT:∀ ty,(Instr.next (p_ J) true ty).run prog wr=.ok (.tuple #[.bool true,F k,.int .i32 84]) (wr.putObj J (.stringIter (bs E) (k+1))):=fun ty=>by
         exact Kn
        have aw:bS U (E.take (k+1))=bS U (E.take k)++[84]:=by rw[gJ D,hc];rfl
        have bB:∀ w,(convert 21 9 (.int .i32 84)).run prog w=.ok (s_ [84]) w:=by intro w;kernel_rfl
        clear ac ah;exact Km
       ·have bT:∀ ty,(Instr.next (p_ J) true ty).run prog wr=.ok (.tuple #[.bool true,F k,.int .i32 78]) (wr.putObj J (.stringIter (bs E) (k+1))):=fun ty=>by
         exact Kn
        have aw:bS U (E.take (k+1))=bS U (E.take k)++[78]:=by rw[gJ D,hc];rfl
        have bB:∀ w,(convert 21 9 (.int .i32 78)).run prog w=.ok (s_ [78]) w:=by intro w;kernel_rfl
        clear ac ah;exact Km
      ·obtain rfl:k=E.length:=Y
       have bT:∀ ty,(Instr.next (p_ J) true ty).run prog wr=.ok (.tuple #[.bool false]) wr:=fun ty=>oL wr J E E.length ty a5.o Y;rw[List.take_length];obtain⟨RS,aX⟩:=H (Pk++bS U E);rw[←aX];have y5:=IF be.o y4;have aI:Bw_ w wr:=(aW.o.trans (bi.o.mono aW.o.size)).trans (be.o.mono (Jc aW.o.size bi.o.size));have c7:=HH.o.below aI;have f4:=c7.f 4;have c4:=c7.c 4;have bI:=c7.kinds RS;obtain⟨b6,bJ,bg⟩:=zH3 bI c7 aI
       have q:aK s.kinds (p,a)=if (p=22∧16≤RS.length)∨16<RS.length then (130,s.kinds) else (0,RS):=by
        unfold aK;rw[←HT.o,←bM.o,if_neg (by have:=HM.o;omega),show s.kinds.length-T.length=m by have:=HM.o;omega,←HU.o,←bF.o,if_neg (by rw[a6.o];simp),←aX]
       have b:=O q;clear c7 bI aI aX q
       by_cases B:p=22
       ·have aB:((p.toNat:Int)==22)=true:=by rw[B];rfl
        by_cases N:16≤RS.length
        ·have f16:16≤(RS.length:Int):=Y
         rw[if_pos (.inl ⟨B,N⟩)]at b;exact Kp
        ·have f16:¬16≤(RS.length:Int):=Y
         have f17:¬16<(RS.length:Int):=Y;rw[if_neg Y]at b;exact Ko
       ·have aB:=bE_ 22 B
        by_cases N:16<RS.length
        ·have f16:16<(RS.length:Int):=Y
         rw[if_pos (.inr N)]at b;exact Kp
        ·have f16:¬16<(RS.length:Int):=Y
         rw[if_neg (by rintro (h|h);exact B h.1;exact N h)]at b;exact Ko
end
end
section
attribute [local irreducible] wpG
section
variable {a:U8_}{i:Nat}{s:Vs}
theorem Hh:turnsV i (19,a) s=(0,{ s with blocks:=s.blocks++[⟨19,s.kinds,s.kinds,i,false⟩] }):=rfl
theorem Hf:turnsV i (22,a) s=(0,{ s with blocks:=s.blocks++[⟨22,s.kinds,s.kinds,i,false⟩],kinds:=s.kinds++[84] }):=rfl
theorem Hg {b:Vb}(h:s.blocks.getLast?=some b):turnsV i (20,a) s=(0,{ s with ends:=s.ends.set b.at_ (i:Int),blocks:=s.blocks.dropLast++[{ b with want:=s.kinds,at_:=i,did:=true }],kinds:=b.opn }):=by unfold turnsV;simp[h]
theorem FR {b:Vb}(h:s.blocks.getLast?=some b)(hk:s.kinds=b.want):turnsV i (21,a) s=(0,{ s with ends:=s.ends.set b.at_ (i:Int),blocks:=s.blocks.dropLast }):=by unfold turnsV;simp[h,hk]
theorem F_ {b:Vb}(h:s.blocks.getLast?=some b)(hk:s.kinds≠b.want):turnsV i (21,a) s=(132,s):=by unfold turnsV;simp[h,hk]
theorem tuN {p:U8_}(ah:p≠19)(B:p≠22)(ac:p≠20)(D:p≠21):turnsV i (p,a) s=(0,s):=by unfold turnsV;simp[ah,B,ac,D]
end
theorem Da {α:Type}{l:List α}{m:Nat}(hm:l.length=m+1)(x:α):l.set m x=l.dropLast++[x]:=by
 have aI:l≠[]:=by rintro rfl;simp at hm
 obtain⟨l',y,rfl⟩:∃ l' y,l=l'++[y]:=⟨l.dropLast,l.getLast aI,(List.dropLast_concat_getLast aI).symm⟩
 have:l'.length=m:=by simpa using hm
 rw[List.set_append_right _ _ Y];simp[this]
section
variable {w:Z}{bZ G:Nat}{tv cv bv sv ev:V_}{ai:Nat}{ag:U8_}{s:Vs}
theorem VG.as {s':Vs}(h:VG w bZ G tv cv ai ag s bv sv ev)(e:s=s'):VG w bZ G tv cv ai ag s' bv sv ev:=e▸h
theorem VG.setE {g c n:Nat}(h:VG w bZ G tv cv ai ag s bv sv (.slice (some ⟨g,0,none⟩) n c)){k:Nat}(hk:k<s.ends.length)(x:Int):VG (w.setCell ⟨g,k,none⟩ (F x)) bZ G tv cv ai ag { s with ends:=s.ends.set k x } bv sv (.slice (some ⟨g,0,none⟩) n c)∧B_ bZ w (w.setCell ⟨g,k,none⟩ (F x)):=by
 have ho:=h.oe.setCell hk (y:=x) (j:=0) d_ (u:=F x) rfl;rw[show k*bD.n+0=k from Nat.mul_one k]at ho;exact h.chgE (Chg.setCell _ _ _ rfl) ho
theorem VG.setB {g c n m:Nat}(h:VG w bZ G tv cv ai ag s (.slice (some ⟨g,0,none⟩) n c) sv ev)(hm:s.blocks.length=m+1){b b':Vb}(hb:s.blocks[m]?=some b){j:Nat}(hj:j<5){u:V_}(hu:mH.cell b'=(mH.cell b).set j u):VG (w.setCell ⟨g,m*5+j,none⟩ u) bZ G tv cv ai ag { s with blocks:=s.blocks.set m b' } (.slice (some ⟨g,0,none⟩) n c) sv ev∧B_ bZ w (w.setCell ⟨g,m*5+j,none⟩ u):=by
 have W:m<s.blocks.length:=Y;rw[List.getElem?_eq_getElem W]at hb;have aY:=Option.some.inj hb;have ho:=h.ob.setCell W (y:=b') (j:=j) hj (u:=u) (by rw[aY];exact hu);exact h.chgB (Chg.setCell _ _ _ rfl) ho
theorem VG.cellE {g c n:Nat}(h:VG w bZ G tv cv ai ag s bv sv (.slice (some ⟨g,0,none⟩) n c)){k:Nat}(hk:k<s.ends.length):(∃ v,w.cell? ⟨g,k,none⟩=some v)∧w.frozen? ⟨g,k,none⟩=false:=by
 rcases h.oe.2 with ⟨hv,_⟩|⟨D,ah,aH,hv,hb,hh,r1,r2,r3,b⟩
 ·cases hv
 ·cases hv
  have aY:Blk w g bD.e aH.toList:=by unfold Blk;rw[hh]
  have hl:k<aH.toList.length:=by
   have:aH.size=c*bD.n:=r3;have h2:bD.n=1:=rfl;rw[h2]at this;simp;omega
  exact⟨⟨_,aY.cell (List.getElem?_eq_getElem hl)⟩,aY.free hl⟩
theorem VG.cellB {g c n:Nat}(h:VG w bZ G tv cv ai ag s (.slice (some ⟨g,0,none⟩) n c) sv ev){k:Nat}(hk:k<s.blocks.length*5):w.frozen? ⟨g,k,none⟩=false:=by
 rcases h.ob.2 with ⟨hv,_⟩|⟨D,ah,aH,hv,hb,hh,r1,r2,r3,b⟩
 ·cases hv
 ·cases hv
  have aY:Blk w g mH.e aH.toList:=by unfold Blk;rw[hh]
  have hl:k<aH.toList.length:=by
   have:aH.size=c*mH.n:=r3;have h2:mH.n=5:=rfl;rw[h2]at this;have:s.blocks.length*5≤c*5:=JO _ r1;simp;omega
  exact aY.free hl
theorem AP (h:VG w bZ G tv cv ai ag s bv sv ev)(p a:U8_)(i:Nat)(hl:s.blocks.length≤1000)(hk:s.kinds.length≤1000)(aI:p=20∨p=21→s.blocks≠[])(aC:∀ b∈s.blocks,b.at_<s.ends.length)(aS:s.ends.length≤1000)(hi:i≤1000):C_ 172 #[p_ G,F i,.agg #[.int .u8 p.toNat,.int .u8 a.toNat]] w fun e w'=>e=.returned (F (((turnsV i (p,a) s).1:Nat):Int))∧(∃ an,VG w' bZ G tv cv ai ag (turnsV i (p,a) s).2 an sv ev)∧B_ bZ w w':=by
 have HH:=O h;have ad:G<w.heap.size:=h.blk.lt;have aZ:bZ≤w.heap.size:=Jc h.gb (JA ad);obtain⟨W1,aA⟩:=H (w.alloc (.cells #[.int .u8 p.toNat,.int .u8 a.toNat] 109));have a8:=ba_ aA;have hx:=bm_ aA;have x0:=hx.c 0;obtain⟨H1,a_,a7,HT,a1,bL⟩:=zH6 (h.below a8) a8 aZ (uP (h.below a8) hl) aI aC;have k1:(s.kinds.length:Int)≤1000:=Y;have i1:(i:Int)≤1000:=Y;have i0:=nn_ i;clear h hx a8 aI aC
 by_cases ah:p=19
 ·subst ah
  rw[show(((19:U8_).toNat:Nat):Int)=19 from rfl]at aA x0⊢;go_enter func172,ntmps172;go_upto_region 1 with fail;rw[←aA];clear aA;go_wp2_with fail;refine HT.o.mono ?_;rintro e w2⟨y,ax⟩;have A:=O y;have H2:=O (H1.o.below ax);have y0:=IF ax x0;have a9:=O (bt a_.o ax);clear y ax x0;obtain⟨x,rfl⟩:∃ x,e=.returned x:=by rcases A.o with ⟨_,rfl⟩|⟨_,_,_,_,_,rfl⟩<;>exact⟨_,rfl⟩
  clear A;have c4:=H2.o.c 4;go_upto_region 4 with fail;refine aU 15 [(4,.exact _ (.int .u8 19)),(8,.exact _ (s_ s.kinds)),(12,.exact _ (s_ s.kinds))] q_ q_ ?_;simp only[Jw,JE,Ju,JF];refine cG ?_
  repeat(refine gE_ (fun w' G hB hS hG=>?_) (fun K hK=>?_);(have z0:=IF hB y0;have z1:=IF hB c4;go_simp;exact hG _ (Bel.refl _));refine cO ?_;clear hK K)
  refine aR ?_;intro w3 al ao;have H3:=O (H2.o.below al);have aW:=O (bt a9.o al);clear al ao y0 c4;go_wp2_with fail;refine(rY ⟨19,s.kinds,s.kinds,i,false⟩ H3.o hl).mono ?_;rintro e w4⟨⟨v,rfl⟩,⟨an,U⟩,aQ⟩;have H4:=O U;have ba:=O ((aW.o.mono a7.o).trans aQ);clear U aQ;go_wp2_with fail;go_ret;exact⟨by rw[Hh];rfl,⟨_,by rw[Hh];exact H4.o⟩,ba.o⟩
 by_cases B:p=22
 ·subst B
  rw[show(((22:U8_).toNat:Nat):Int)=22 from rfl]at aA x0⊢;go_enter func172,ntmps172;go_upto_region 1 with fail;rw[←aA];clear aA;go_wp2_with fail;refine HT.o.mono ?_;rintro e w2⟨y,ax⟩;have A:=O y;have H2:=O (H1.o.below ax);have y0:=IF ax x0;have a9:=O (bt a_.o ax);clear y ax x0;obtain⟨x,rfl⟩:∃ x,e=.returned x:=by rcases A.o with ⟨_,rfl⟩|⟨_,_,_,_,_,rfl⟩<;>exact⟨_,rfl⟩
  clear A;have c4:=H2.o.c 4;go_upto_region 6 with fail;refine aU 15 [(4,.exact _ (.int .u8 22)),(8,.exact _ (s_ s.kinds)),(12,.exact _ (s_ s.kinds))] q_ q_ ?_;simp only[Jw,JE,Ju,JF];refine cG ?_
  repeat(refine gE_ (fun w' G hB hS hG=>?_) (fun K hK=>?_);(have z0:=IF hB y0;have z1:=IF hB c4;go_simp;exact hG _ (Bel.refl _));refine cO ?_;clear hK K)
  refine aR ?_;intro w3 al ao;have H3:=O (H2.o.below al);have aW:=O (bt a9.o al);clear al ao y0 c4;go_wp2_with fail;refine(rY ⟨22,s.kinds,s.kinds,i,false⟩ H3.o hl).mono ?_;rintro e w4⟨⟨v,rfl⟩,⟨an,U⟩,aQ⟩;have H4:=O U;have ba:=O ((aW.o.mono a7.o).trans aQ);clear U aQ;have c5:=H4.o.c 4;have f5:=H4.o.f 4;have aN:=H4.o.kinds (s.kinds++[84]);have aH:=O aN;clear aN;go_wp2_with fail;go_ret;exact⟨by rw[Hf];rfl,⟨_,by rw[Hf];exact aH.o.1⟩,ba.o.trans aH.o.2⟩
 by_cases ac:p=20
 ·subst ac
  rw[show(((20:U8_).toNat:Nat):Int)=20 from rfl]at aA x0⊢;go_enter func172,ntmps172;go_upto_region 1 with fail;rw[←aA];clear aA;go_wp2_with fail;refine HT.o.mono ?_;rintro e w2⟨y,ax⟩;have A:=O y;have H2:=O (H1.o.below ax);have y0:=IF ax x0;have a9:=O (bt a_.o ax);clear y ax x0;rcases A.o with ⟨hb,rfl⟩|⟨g,c,m,hv,hm,rfl⟩
  ·exact absurd hb (a1.o d_)
  obtain⟨b,hb,aj,l0,l1,l2,l3,l4⟩:=H2.o.last hv hm;subst hv;have N:b.at_<s.ends.length:=bL.o b (List.mem_of_getElem? aj);obtain⟨⟨_,_,_⟩,_,ae,ce,rfl⟩:=H2.o.slices;obtain⟨E,rfl⟩:=H2.o.oe.at0 Y;obtain⟨aO,aG,t,af⟩:=zH4 aj hb hm N;have e0:0≤(b.at_:Int):=Y;have e1:(b.at_:Int)<s.ends.length:=Y;have e2:(s.ends.length:Int)≤1000:=Y;have c7:=H2.o.c 7;have c4:=H2.o.c 4;clear A hb aj N hm;go_upto_region 9 with fail;refine aU 10 [(3,.exact _ (.slice (some ⟨E,0,none⟩) s.ends.length ce)),(7,.exact _ (F b.at_))] q_ q_ ?_;simp only[Jw,JE,Ju,JF];refine cG ?_
  repeat(refine gE_ (fun w' G hB hS hG=>?_) (fun K hK=>?_);(have z0:=IF hB c7;have z1:=IF hB l3;go_simp;exact hG _ (Bel.refl _));refine cO ?_;clear hK K)
  refine aR ?_;intro w3 al ao;have h3:=H2.o.below al;obtain⟨⟨v3,d3⟩,f3⟩:=h3.cellE af.o;have bJ:=h3.setE af.o (i:Int);have ar:=O bJ;have aW:=O (bt a9.o al);clear al ao h3 bJ c7 c4 l0 l1 l2 l3 l4;go_upto_region 10 with fail;obtain⟨X,hX⟩:=H (w3.setCell ⟨E,b.at_,none⟩ (F i));rw[←hX]at ar⊢;clear hX d3 f3;have hx:=ar.o.1;obtain⟨_,_,_,l0,l1,l2,l3,l4⟩:=hx.last rfl t.o;have c4:=hx.c 4;have f1:=hx.cellB (k:=m*5+1) (by have:=t.o;show _<s.blocks.length*5;omega);have f3:=hx.cellB (k:=m*5+3) (by have:=t.o;show _<s.blocks.length*5;omega);have f4:=hx.cellB (k:=m*5+4) (by have:=t.o;show _<s.blocks.length*5;omega);obtain⟨b1,a8⟩:∃ b1:Vb,b1={ b with want:=s.kinds }:=⟨_,rfl⟩
  obtain⟨b2,aY⟩:∃ b2:Vb,b2={ b with want:=s.kinds,at_:=i }:=⟨_,rfl⟩
  obtain⟨b3,aX⟩:∃ b3:Vb,b3={ b with want:=s.kinds,at_:=i,did:=true }:=⟨_,rfl⟩
  have W:m<s.blocks.length:=by have:=t.o;omega
  have q:=hx.setB t.o aO.o (j:=1) (b':=b1) (u:=s_ s.kinds) d_ (by rw[a8];rfl);have s2:=q.1.setB (by show(s.blocks.set m b1).length=m+1;rw[JN];exact t.o) (by show(s.blocks.set m b1)[m]?=some b1;simp[W]) (j:=3) (b':=b2) (u:=F i) d_ (by rw[a8,aY];rfl);have s3:=s2.1.setB (by show((s.blocks.set m b1).set m b2).length=m+1;rw[JN,JN];exact t.o) (by show((s.blocks.set m b1).set m b2)[m]?=some b2;simp[W]) (j:=4) (b':=b3) (u:=.bool true) d_ (by rw[aY,aX];rfl);have bo:((s.blocks.set m b1).set m b2).set m b3=s.blocks.dropLast++[b3]:=by rw[List.set_set,List.set_set];exact Da t.o b3
  obtain⟨aF,cE,aJ,aK⟩:=zH4 s3 ((q.2.trans s2.2).trans s3.2) bo aX;clear hx q s2 s3 bo a8 aY aX W;go_upto_region 11 with fail;obtain⟨aa,hY⟩:=H (((X.setCell ⟨g,m*5+1,none⟩ (s_ s.kinds)).setCell ⟨g,m*5+3,none⟩ (F i)).setCell ⟨g,m*5+4,none⟩ (.bool true));rw[←hY]at aF cE⊢;clear hY l0 l1 l2 l3 l4 c4 f1 f3 f4;have hy:=aF.o.1;obtain⟨b9,ab,_,_,_,l2,_,_⟩:=hy.last (g:=g) (c:=c) (m:=m) (by show Value.slice (some ⟨g,0,none⟩) s.blocks.length c=Value.slice (some ⟨g,0,none⟩) (((s.blocks.set m b1).set m b2).set m b3).length c;rw[JN,JN,JN]) (by show(((s.blocks.set m b1).set m b2).set m b3).length=m+1;rw[JN,JN,JN];exact t.o)
  have aL:b9=b3:=by
   have e:(((s.blocks.set m b1).set m b2).set m b3).getLast?=some b9:=ab;rw[aJ.o]at e;simpa using e.symm
  have ho:b9.opn=b.opn:=by rw[aL,aK.o]
  rw[ho]at l2;have c4:=hy.c 4;have f4:=hy.f 4;have aP:=hy.kinds b.opn;have aT:=O aP;clear hy ab aL ho aP;go_wp2_with fail;go_ret;refine⟨by rw[Hg aG.o];rfl,⟨.slice (some ⟨g,0,none⟩) s.blocks.length c,?_⟩,(((aW.o.mono a7.o).trans ar.o.2).trans cE.o).trans aT.o.2⟩;rw[Hg aG.o];exact aT.o.1.as (by show({ kinds:=b.opn,blocks:=((s.blocks.set m b1).set m b2).set m b3,seen:=s.seen,ends:=s.ends.set b.at_ (i:Int),deep:=s.deep }:Vs)=_;rw[aJ.o,aK.o])
 by_cases D:p=21
 ·subst D
  rw[show(((21:U8_).toNat:Nat):Int)=21 from rfl]at aA x0⊢;go_enter func172,ntmps172;go_upto_region 1 with fail;rw[←aA];clear aA;go_wp2_with fail;refine HT.o.mono ?_;rintro e w2⟨y,ax⟩;have A:=O y;have H2:=O (H1.o.below ax);have y0:=IF ax x0;have a9:=O (bt a_.o ax);clear y ax x0;rcases A.o with ⟨hb,rfl⟩|⟨g,c,m,hv,hm,rfl⟩
  ·exact absurd hb (a1.o d_)
  obtain⟨b,hb,aj,l0,l1,l2,l3,l4⟩:=H2.o.last hv hm;subst hv;have N:b.at_<s.ends.length:=bL.o b (List.mem_of_getElem? aj);obtain⟨⟨_,_,_⟩,_,ae,ce,rfl⟩:=H2.o.slices;obtain⟨E,rfl⟩:=H2.o.oe.at0 Y;obtain⟨aO,aG,t,af⟩:=zH4 aj hb hm N;have e0:0≤(b.at_:Int):=Y;have e1:(b.at_:Int)<s.ends.length:=Y;have e2:(s.ends.length:Int)≤1000:=Y;have c7:=H2.o.c 7;have c4:=H2.o.c 4;clear A hb aj N hm
  by_cases M:s.kinds=b.want
  ·have q1:(s.kinds==b.want)=true:=by rw[M];simp
   have aw:=O M;clear M;go_upto_region 13 with fail;refine rk_ [(3,.exact _ (s_ s.kinds)),(7,.exact _ (s_ b.want))] ?_;refine cG ?_
   repeat(refine gE_ (fun w' G hB hS hG=>?_) (fun K hK=>?_);(have z0:=IF hB c4;have z1:=IF hB l1;go_simp;exact hG _ (Bel.refl _));refine cO ?_;clear hK K)
   refine aR ?_;intro w6 bx bd;have h6:=O (H2.o.below bx);have bn:=O (bt a9.o bx);have bm:=IF bx c7;have aV:=IF bx l3;clear bx bd c7 c4 l0 l1 l2 l3 l4;go_upto_region 15 with fail;refine aU 10 [(3,.exact _ (.slice (some ⟨E,0,none⟩) s.ends.length ce)),(7,.exact _ (F b.at_))] q_ q_ ?_;simp only[Jw,JE,Ju,JF];refine cG ?_
   repeat(refine gE_ (fun w' G hB hS hG=>?_) (fun K hK=>?_);(have z0:=IF hB bm;have z1:=IF hB aV;go_simp;exact hG _ (Bel.refl _));refine cO ?_;clear hK K)
   refine aR ?_;intro w3 al ao;have h3:=h6.o.below al;obtain⟨⟨v3,d3⟩,f3⟩:=h3.cellE af.o;have bJ:=h3.setE af.o (i:Int);have ar:=O bJ;have aW:=O (bt bn.o al);clear al ao h3 bJ bm aV;go_upto_region 16 with fail;clear d3 f3;go_wp2_with fail;refine(CY ar.o.1 hl (by have:=t.o;show 0<s.blocks.length;omega)).mono ?_;rintro e w4⟨⟨v,rfl⟩,⟨an,U⟩,aQ⟩;have H4:=O U;have ba:=O (((aW.o.mono a7.o).trans ar.o.2).trans aQ);clear U aQ;go_wp2_with fail;go_ret;exact⟨by rw[FR aG.o aw.o];rfl,⟨_,by rw[FR aG.o aw.o];exact H4.o⟩,ba.o⟩
  ·have q1:(s.kinds==b.want)=false:=by simpa using M
   have aw:=O M;clear M;go_upto_region 13 with fail;refine rk_ [(3,.exact _ (s_ s.kinds)),(7,.exact _ (s_ b.want))] ?_;refine cG ?_
   repeat(refine gE_ (fun w' G hB hS hG=>?_) (fun K hK=>?_);(have z0:=IF hB c4;have z1:=IF hB l1;go_simp;exact hG _ (Bel.refl _));refine cO ?_;clear hK K)
   refine aR ?_;intro w6 bx bd;clear bd c7 c4 l0 l1 l2 l3 l4;go_wp2_with fail;go_ret;exact⟨by rw[F_ aG.o aw.o];rfl,⟨_,by rw[F_ aG.o aw.o];exact H2.o.below bx⟩,(bt a9.o bx).mono a7.o⟩
 have a2:=O (tuN (a:=a) (i:=i) (s:=s) ah B ac D);have au:=bE_ 19 ah;have aB:=bE_ 22 B;have ay:=bE_ 20 ac;have az:=bE_ 21 D;clear ah B ac D;go_enter func172,ntmps172;go_upto_region 1 with fail;rw[←aA];clear aA;go_wp2_with fail;refine HT.o.mono ?_;rintro e w2⟨y,ax⟩;have A:=O y;have H2:=O (H1.o.below ax);have y0:=IF ax x0;have a9:=O (bt a_.o ax);clear y ax x0;obtain⟨x,rfl⟩:∃ x,e=.returned x:=by rcases A.o with ⟨_,rfl⟩|⟨_,_,_,_,_,rfl⟩<;>exact⟨_,rfl⟩
 clear A;go_wp2_with fail;go_ret;exact⟨by rw[a2.o];rfl,⟨_,by rw[a2.o];exact H2.o⟩,a9.o.mono a7.o⟩
end
end
section
attribute [local irreducible] wpG
structure lK (n:Nat) (s:Vs):Prop where
 bl:s.blocks.length≤8
 kl:s.kinds.length≤16
 bs:∀ b∈s.blocks,b.at_<s.ends.length∧b.opn.length≤16
 el:s.ends.length≤256
 sl:s.seen.length≤n
 dl:s.deep≤16
theorem iZ {nt ai:Nat}{ag:U8_}{bl:List Vb}{x:VI}(h:thereV nt ai ag bl x=0):(x.1=20∨x.1=21→bl≠[])∧(x.1=19∨x.1=22→bl.length<8):=by
 unfold thereV at h
 split at h
 ·cases h
 split at h
 ·cases h
 split at h
 ·cases h
 rename_i ac
 split at h
 ·cases h
 rename_i D
 split at h
 ·cases h
 rename_i q;refine⟨?_,fun e=>?_⟩
 ·rintro (e|e) hb
  ·exact ac ⟨e,by rw[hb];rfl⟩
  ·exact D ⟨e,hb⟩
 ·rcases Nat.lt_or_ge bl.length 8 with h1|h1
  ·exact h1
  ·exact absurd ⟨e,h1⟩ q
theorem kq {k:q}{x:VI}(hk:k.length≤16):(aK k x).2.length≤16∧((aK k x).1=0→x.1=22→(aK k x).2.length<16):=by
 unfold aK
 split
 ·exact⟨hk,fun h=>by cases h⟩
 split
 ·exact⟨hk,fun h=>by cases h⟩
 split
 ·exact⟨hk,fun h=>by cases h⟩
 rename_i h;obtain⟨r,hr⟩:=H (k.take (k.length-(b_Z x).1.length)++bS (k.drop (k.length-(b_Z x).1.length)) (b_Z x).2);rw[←hr]at h⊢;refine⟨?_,fun _ e=>?_⟩
 ·show r.length≤16
  omega
 ·show r.length<16
  have hc:¬16≤r.length:=fun h'=>h (.inl ⟨e,h'⟩);omega
theorem lK.one {nt ai:Nat}{ag:U8_}{i n:Nat}{x:VI}{s:Vs}(h:lK n s)(hi:i<s.ends.length)(h0:(cq nt ai ag i x s).1=0):lK (n+1) (cq nt ai ag i x s).2∧(cq nt ai ag i x s).2.ends.length=s.ends.length:=by
 have ht:=jO h0;obtain⟨h2,h3⟩:=iZ ht;unfold cq at h0⊢;rw[if_neg (by rw[ht];simp)]at h0⊢
 split at h0
 ·rename_i hv
  exact absurd h0 hv
 rename_i hv;rw[if_neg hv];have C:(aK s.kinds x).1=0:=by simpa using hv
 obtain⟨ab,c⟩:=kq (x:=x) h.kl;have c:=c C;clear h0 hv C;obtain⟨k',H⟩:∃ k',k'=(aK s.kinds x).2:=⟨_,rfl⟩
 simp only[←H];rw[←H]at ab c;have bj:(s.seen++[s.kinds]).length≤n+1:=by have:=h.sl;simp;omega
 have hd:=h.dl;have q:∀ b,s.blocks.getLast?=some b→b∈s.blocks:=fun b hb=>List.mem_of_getLast? hb;unfold turnsV
 split
 ·rename_i e
  refine⟨⟨by have:=h3 (.inl e);simp;omega,ab,fun b hb=>?_,h.el,bj,by show max s.deep k'.length≤16;omega⟩,rfl⟩;rcases Jt.1 hb with hb|hb
  ·exact h.bs b hb
  ·rw[Jp]at hb;subst hb;exact⟨hi,ab⟩
 ·split
  ·rename_i e
   have N:=c e;refine⟨⟨by have:=h3 (.inr e);simp;omega,by show(k'++[84]).length≤16;simp;omega,fun b hb=>?_,h.el,bj,by show max s.deep (k'++[84]).length≤16;simp;omega⟩,rfl⟩;rcases Jt.1 hb with hb|hb
   ·exact h.bs b hb
   ·rw[Jp]at hb;subst hb;exact⟨hi,ab⟩
  ·split
   ·cases hb:s.blocks.getLast? with
    | none=>exact⟨⟨h.bl,ab,h.bs,h.el,bj,by show max s.deep k'.length≤16;omega⟩,rfl⟩
    | some b =>
     have aj:=h.bs b (q b hb);refine⟨⟨?_,aj.2,fun b' m=>?_,by show(s.ends.set _ _).length≤256;rw[JN];exact h.el,bj,by show max s.deep b.opn.length≤16;have:=aj.2;omega⟩,by show(s.ends.set _ _).length=_;rw[JN]⟩
     ·show(s.blocks.dropLast++[_]).length≤8
      have:=h.bl;have aI:s.blocks≠[]:=by rintro e;rw[e]at hb;cases hb
      have:0<s.blocks.length:=List.length_pos_iff.2 aI;simp;omega
     ·show b'.at_<(s.ends.set _ _).length∧_
      rw[JN];rcases Jt.1 m with h'|h'
      ·exact h.bs b' ((List.dropLast_subset _ h'))
      ·rw[Jp]at h';subst h';exact⟨hi,aj.2⟩
   ·split
    ·cases hb:s.blocks.getLast? with
     | none=>exact⟨⟨h.bl,ab,h.bs,h.el,bj,by show max s.deep k'.length≤16;omega⟩,rfl⟩
     | some b =>
      simp only
      split
      ·refine⟨⟨by show s.blocks.dropLast.length≤8;have:=h.bl;rw[List.length_dropLast];omega,ab,fun b' m=>?_,by show(s.ends.set _ _).length≤256;rw[JN];exact h.el,bj,by show max s.deep k'.length≤16;omega⟩,by show(s.ends.set _ _).length=_;rw[JN]⟩
       show b'.at_<(s.ends.set _ _).length∧_;rw[JN];exact h.bs b' ((List.dropLast_subset _ m))
      ·exact⟨⟨h.bl,ab,h.bs,h.el,bj,by show max s.deep k'.length≤16;omega⟩,rfl⟩
    ·exact⟨⟨h.bl,ab,h.bs,h.el,bj,by show max s.deep k'.length≤16;omega⟩,rfl⟩
theorem uK {k:q}{x:VI}(h:(aK k x).1≠0):(aK k x).2=k:=by
 unfold aK at h⊢
 split
 ·rfl
 split
 ·rfl
 split
 ·rfl
 rename_i h1 h2 h3;rw[if_neg h1,if_neg h2,if_neg h3]at h;exact absurd rfl h
theorem n9 (i:Nat)(x:VI)(s:Vs):(turnsV i x s).2.deep=s.deep:=by
 unfold turnsV
 split
 ·rfl
 split
 ·rfl
 split
 ·cases s.blocks.getLast?<;>rfl
 split
 ·cases s.blocks.getLast? with
  | none=>rfl
  | some b=>simp only;split<;>rfl
 ·rfl
theorem mz {i:Nat}{x:VI}{s:Vs}(hb:∀ b∈s.blocks,b.opn.length≤16)(hk:s.kinds.length≤16):(turnsV i x s).2.kinds.length≤17:=by
 unfold turnsV
 split
 ·exact JQ hk
 split
 ·show(s.kinds++[84]).length≤17
  simp;omega
 split
 ·cases h:s.blocks.getLast? with
  | none=>exact JQ hk
  | some b=>exact JQ (hb b (List.mem_of_getLast? h))
 split
 ·cases h:s.blocks.getLast? with
  | none=>exact JQ hk
  | some b=>simp only;split<;>exact JQ hk
 ·exact JQ hk
section
variable {w:Z}{bZ G:Nat}{cv bv sv ev:V_}{ai:Nat}{ag:U8_}{s:Vs}{nt ct n:Nat}{ak:OA_}
theorem zR (h:VG w bZ G (.slice ak nt ct) cv ai ag s bv sv ev)(hE:lL w)(hg:0<bZ)(p a:U8_)(i:Nat)(hp:p.toNat<24)(hI:lK n s)(hn:n≤1000)(a4:nt≤1000)(ay:ai≤1000)(hi:i≤1000):C_ 160 #[p_ G,F i,.agg #[.int .u8 p.toNat,.int .u8 a.toNat]] w fun e w'=>e=.returned (F (((cq nt ai ag i (p,a) s).1:Nat):Int))∧(∃ an V,VG w' bZ G (.slice ak nt ct) cv ai ag (cq nt ai ag i (p,a) s).2 an V ev)∧B_ bZ w w':=by
 have HH:=O h;have ad:G<w.heap.size:=h.blk.lt;have aZ:bZ≤w.heap.size:=Jc h.gb (JA ad);obtain⟨W1,aA⟩:=H (w.alloc (.cells #[.int .u8 p.toNat,.int .u8 a.toNat] 109));have a8:=ba_ aA;have hx:=bm_ aA;have h1:=h.below a8;have j:=h1.below (b_drew W1);obtain⟨_,⟨a3,cs,rfl⟩,_⟩:=h.slices;obtain⟨x0,x1⟩:=cl2 hx;have c6:=h1.c 6;have c4:=h1.c 4;have cF:G<W1.heap.size:=h1.blk.lt;have y:w.heap.size<W1.heap.size:=aG x0;have bB:bZ≤W1.drew.heap.size:=Jc j.gb (JA j.blk.lt);have aS:(s.seen.length+1)*16≤140737488355328:=by have:=hI.sl;omega
 have aw:=j.os;obtain⟨t,a_,a7,HE,HI,db⟩:=zH6 j a8 aZ hE hI aA;have aT:w.heap.size<W1.drew.heap.size:=y;clear h h1 j hx a8 hE hI;go_enter func160,ntmps160;go_upto_region 1 with fail;rw[←aA];clear aA
 go_cut [] (fun wx=>∃ V,Hid (VG wx bZ G (.slice ak nt ct) cv ai ag { s with seen:=s.seen++[s.kinds] } bv V ev)∧Hid (B_ bZ w wx)∧wx.cell? ⟨w.heap.size,0,none⟩=some (.int .u8 p.toNat)∧wx.cell? ⟨w.heap.size,1,none⟩=some (.int .u8 a.toNat))
 case first =>
  go_region_law (refine aP.step_append1V W1.drew s.kinds rfl _ _ 22 rfl underlying22 bZ (.slice a3 s.seen.length cs) s.seen rfl aw _ rfl _ rfl _ rfl aS bB ?_;intro g gc w3 M aI A;have a6:=t.o.newS (V:=.slice (some ⟨g,0,none⟩) (s.seen.length+1) gc) aI (fun k hk=>by cases hk;exact A) M;have aX:Blk w3 G 249 _:=t.o.blk.chg aI (fun e=>(t.o.a2 G e).1 rfl);have f6:=aX.f 6;have I:=aX.c 6;have HN:=O a6;have av:=O aI;clear a6 aX M aI A)
  all_goals
   go_wp2_with fail
   go_meet
   case rel =>
    have cc:¬((Value.slice a3 s.seen.length cs).ownBlock=some w.heap.size):=fun e=>by
     have:=(HH.o.os.ltV _ e).2;omega
    have bo:=av.o
    have u:∀ k v,W1.cell? ⟨w.heap.size,k,none⟩=some v→(w3.setCell ⟨G,6,none⟩ (.slice (some ⟨g,0,none⟩) (s.seen.length+1) gc)).cell? ⟨w.heap.size,k,none⟩=some v:=fun k v hv =>
     Chg.cell (X:=fun k=>k=G) (Chg.setCell _ _ _ rfl) (Chg.cell bo ((World.cell?_of_block yzf).trans hv) cc) (fun e=>by have:w.heap.size=G:=e;omega)
    exact⟨_,HN.o.1,((bt a_.o (b_drew W1)).mono a7.o).trans HN.o.2,u 0 _ x0,u 1 _ x1⟩
 case rest =>
  obtain⟨V,HG,bw,y0,y1⟩:=hcut;have bj:=HI.o.bl;obtain⟨ap,hq⟩:=H (thereV nt ai ag s.blocks (p,a));have D:=O (AQ HG.o p a (by show s.blocks.length≤1000;omega) a4 ay);go_wp2_with fail;refine D.o.mono ?_;rintro e w2⟨rfl,ax⟩;rw[show thereV nt ai ag ({ s with seen:=s.seen++[s.kinds] }:Vs).blocks (p,a)=ap from hq.symm];have z0:=IF ax y0;have z1:=IF ax y1;have H2:=O (HG.o.below ax);have m:bZ≤wc.heap.size:=Jc a7.o bw.o.size;have a9:=O (bw.o.trans (ax.mono m));have HQ:=O hq;clear ax m y0 y1 hq D bj
  by_cases l:ap=0
  ·have q1:((ap:Int) != 0)=false:=by rw[l];rfl
   have L:=O (show thereV nt ai ag s.blocks (p,a)=0 by rw[←HQ.o,l]);clear l;obtain⟨x,hx⟩:=H (aK s.kinds (p,a));have ao:=O (xH H2.o (HE.o.below a9.o hg) hg p a hp (by show s.kinds.length≤1000;have:=HI.o.kl;omega));go_wp2_with fail;refine ao.o.mono ?_;rintro e w3⟨rfl,W,E⟩;rw[show aK ({ s with seen:=s.seen++[s.kinds] }:Vs).kinds (p,a)=x from hx.symm]at W⊢;have z:∀ k,¬((⟨w.heap.size,k,none⟩:Addr).block=G):=fun k e=>by have:w.heap.size=G:=e;omega
   have u0:=E.cell z0 (z 0);have u1:=E.cell z1 (z 1);have H3:=O W;have aW:=O (a9.o.trans (E.below (fun k hk=>by rw[hk];exact HH.o.gb) (Jc a7.o a9.o.size)));have HX:=O hx;clear W E hx z0 z1 z
   by_cases B:x.1=0
   ·have q2:((x.1:Int) != 0)=false:=by rw[B];rfl
    have a1:=O (show(aK s.kinds (p,a)).1=0 by rw[←HX.o,B]);have d:=O (iZ L.o);have aH:=(kq (x:=(p,a)) HI.o.kl).1;rw[←HX.o]at aH;obtain⟨r,hr⟩:=H (turnsV i (p,a) { s with seen:=s.seen++[s.kinds],kinds:=x.2 });have a2:=O (AP H3.o p a i (by show s.blocks.length≤1000;have:=HI.o.bl;omega) (by show x.2.length≤1000;omega) d.o.1 (fun b hb=>(HI.o.bs b hb).1) (by show s.ends.length≤1000;have:=HI.o.el;omega) hi)
    have q:=O (show cq nt ai ag i (p,a) s=(r.1,{ r.2 with deep:=max s.deep r.2.kinds.length }) by
     unfold cq;rw[L.o,a1.o,←HX.o,←hr]
     rfl)
    have cm:=O (show r.2.deep=s.deep by rw[hr,n9]);have cQ:r.2.kinds.length≤17:=by rw[hr];exact mz (fun b hb=>(HI.o.bs b hb).2) aH
    go_wp2_with fail;refine a2.o.mono ?_;rintro e w4⟨rfl,⟨an,U⟩,aQ⟩;rw[←hr]at U⊢;have c8:=U.c 8;have c4:=U.c 4;have H4:=O U;have ba:=O (aW.o.trans aQ);have d1:(s.deep:Int)≤16:=by have:=HI.o.dl;omega
    have d2:(r.2.kinds.length:Int)≤17:=Y;rw[cm.o]at c8;clear U aQ hr u0 u1 B aH cQ;go_upto_region 9 with fail;refine aU 13 [(4,.exact _ (F s.deep)),(8,.exact _ (s_ r.2.kinds))] q_ q_ ?_;simp only[Jw,JE,Ju,JF];refine cG ?_
    repeat(refine gE_ (fun w' G hB hS hG=>?_) (fun K hK=>?_);(have v0:=IF hB c8;have v1:=IF hB c4;go_simp;exact hG _ (Bel.refl _));refine cO ?_;clear hK K)
    refine aR ?_;intro w5 aN aF;have h5:=H4.o.below aN;have f8:=h5.f 8;have N:=h5.c 8;have be:=h5.deep (max s.deep r.2.kinds.length);have bf:=O be;have aJ:=O (ba.o.trans (aN.mono (Jc a7.o ba.o.size)));clear h5 be aN aF c8 c4;rw[show(max (s.deep:Int) (r.2.kinds.length:Int))=((max s.deep r.2.kinds.length:Nat):Int) by omega];go_wp2;go_ret;exact⟨by rw[q.o];rfl,⟨_,_,by rw[q.o];exact bf.o.1⟩,aJ.o.trans bf.o.2⟩
   ·have q2:((x.1:Int) != 0)=true:=by rw[bne_iff_ne];omega
    have c:x.2=s.kinds:=by rw[HX.o];exact uK (by rw[←HX.o];exact B)
    have q:=O (show cq nt ai ag i (p,a) s=(x.1,{ s with seen:=s.seen++[s.kinds] }) by unfold cq;rw[L.o,←HX.o,if_neg i_,if_pos B]);rw[c]at H3;clear B c;go_wp2_with fail;go_ret;exact⟨by rw[q.o];rfl,⟨_,_,by rw[q.o];exact H3.o⟩,aW.o⟩
  ·have q1:((ap:Int) != 0)=true:=by rw[bne_iff_ne];omega
   have q:=O (show cq nt ai ag i (p,a) s=(ap,{ s with seen:=s.seen++[s.kinds] }) by unfold cq;rw[←HQ.o,if_pos l]);clear l;go_wp2_with fail;go_ret;exact⟨by rw[q.o];rfl,⟨_,_,by rw[q.o];exact H2.o⟩,a9.o⟩
theorem Kq {T:Prop} (h:T:=by
 go_enter func161,ntmps161;go_wp2_with fail;refine HL.o.mono ?_;rintro e w1⟨rfl,rfl⟩;go_wp2_with fail;go_ret;exact⟨by rw[HO.o];rfl,rfl⟩
):T:=h
theorem Kr {T:Prop} (h:T:=by
 have b1:0<(s.blocks.length:Int):=by omega
 have HO:=O (show overV ag s=132 by unfold overV;rw[if_pos hb]);clear hb hr;exact Kq
):T:=h
theorem vU {tv:V_}(h:VG w bZ G tv cv ai ag s bv sv ev)(hl:s.blocks.length≤1000)(hk:s.kinds.length≤1000):C_ 161 #[p_ G] w fun e w'=>e=.returned (F ((overV ag s:Nat):Int))∧w'=w:=by
 have HL:=O (uV h);have c3:=h.c 3;have c4:=h.c 4;have l1:(s.blocks.length:Int)≤1000:=Y;have l2:(s.kinds.length:Int)≤1000:=Y;clear h
 by_cases hr:ag=1
 ·have r1:((ag.toNat:Int)==1)=true:=by rw[hr];rfl
  by_cases hb:0<s.blocks.length
  ·exact Kr
  ·have b1:¬0<(s.blocks.length:Int):=Y
   by_cases u:s.kinds.length=0
   ·have k1:((s.kinds.length:Int) != 0)=false:=by rw[u];rfl
    have D:s.kinds=[]:=I7 u;have k2:(s.kinds==[])=true:=by rw[D];rfl
    have HO:=O (show overV ag s=0 by unfold overV gB;rw[if_neg hb,if_pos hr,D];simp);clear hb hr u D;exact Kq
   ·have k1:((s.kinds.length:Int) != 0)=true:=by rw[bne_iff_ne];omega
    have HO:=O (show overV ag s=130 by unfold overV gB;rw[if_neg hb,if_pos hr,if_pos (by simpa using u)]);clear hb hr u;exact Kq
 ·have r1:=bE_ 1 hr
  by_cases hb:0<s.blocks.length
  ·exact Kr
  ·have b1:¬0<(s.blocks.length:Int):=Y
   by_cases u:s.kinds.length=1
   ·have k1:((s.kinds.length:Int) != 1)=false:=by rw[u];rfl
    by_cases D:s.kinds=[84]
    ·have k2:(s.kinds==[84])=true:=by rw[D];rfl
     have HO:=O (show overV ag s=0 by unfold overV gB;rw[if_neg hb,if_neg hr,D];simp);clear hb hr u D;exact Kq
    ·have k2:(s.kinds==[84])=false:=by simpa using D
     have HO:=O (show overV ag s=131 by unfold overV gB;rw[if_neg hb,if_neg hr,if_neg (by rw[u];simp),if_pos D]);clear hb hr u D;exact Kq
   ·have k1:((s.kinds.length:Int) != 1)=true:=by rw[bne_iff_ne];omega
    have HO:=O (show overV ag s=130 by unfold overV gB;rw[if_neg hb,if_neg hr,if_pos (by simpa using u)]);clear hb hr u;exact Kq
end
end
section
attribute [local irreducible] wpG
theorem Kt {T:Prop} (h:T:=by
 go_enter func168,ntmps168;go_wp2;go_ret;exact⟨rfl,rfl⟩
):T:=h
theorem Eh (p:U8_)(w:Z):C_ 168 #[.int .u8 p.toNat] w fun e w'=>e=.returned (.bool (jW p))∧w'=w:=by
 by_cases h1:p=1
 ·subst h1
  rw[show(((1:U8_).toNat:Nat):Int)=1 from rfl];exact Kt
 by_cases h2:p=2
 ·subst h2
  rw[show(((2:U8_).toNat:Nat):Int)=2 from rfl];exact Kt
 by_cases h3:p=3
 ·subst h3
  rw[show(((3:U8_).toNat:Nat):Int)=3 from rfl];exact Kt
 by_cases d:p=17
 ·subst d
  rw[show(((17:U8_).toNat:Nat):Int)=17 from rfl];exact Kt
 by_cases f:p=18
 ·subst f
  rw[show(((18:U8_).toNat:Nat):Int)=18 from rfl];exact Kt
 by_cases B:p=22
 ·subst B
  rw[show(((22:U8_).toNat:Nat):Int)=22 from rfl];exact Kt
 have q1:((p.toNat:Int)==1)=false:=aH d_ h1;have q2:((p.toNat:Int)==2)=false:=aH d_ h2;have q3:((p.toNat:Int)==3)=false:=aH d_ h3;have bV:((p.toNat:Int)==17)=false:=aH d_ d;have l:((p.toNat:Int)==18)=false:=aH d_ f;have o:((p.toNat:Int)==22)=false:=aH d_ B;have HE:=O (show jW p=false by unfold jW;simp[h1,h2,h3,d,f,B]);go_enter func168,ntmps168;go_wp2;go_ret;exact⟨by rw[HE.o];rfl,rfl⟩
theorem Ku {T:Prop} (h:T:=by
 go_enter func158,ntmps158;go_wp2;go_ret;exact⟨rfl,rfl⟩
):T:=h
theorem DB (p:U8_)(w:Z):C_ 158 #[.int .u8 p.toNat] w fun e w'=>e=.returned (.bool (jW p))∧w'=w:=by
 by_cases h1:p=1
 ·subst h1
  rw[show(((1:U8_).toNat:Nat):Int)=1 from rfl];exact Ku
 by_cases h2:p=2
 ·subst h2
  rw[show(((2:U8_).toNat:Nat):Int)=2 from rfl];exact Ku
 by_cases h3:p=3
 ·subst h3
  rw[show(((3:U8_).toNat:Nat):Int)=3 from rfl];exact Ku
 by_cases d:p=17
 ·subst d
  rw[show(((17:U8_).toNat:Nat):Int)=17 from rfl];exact Ku
 by_cases f:p=18
 ·subst f
  rw[show(((18:U8_).toNat:Nat):Int)=18 from rfl];exact Ku
 by_cases B:p=22
 ·subst B
  rw[show(((22:U8_).toNat:Nat):Int)=22 from rfl];exact Ku
 have q1:((p.toNat:Int)==1)=false:=aH d_ h1;have q2:((p.toNat:Int)==2)=false:=aH d_ h2;have q3:((p.toNat:Int)==3)=false:=aH d_ h3;have bV:((p.toNat:Int)==17)=false:=aH d_ d;have l:((p.toNat:Int)==18)=false:=aH d_ f;have o:((p.toNat:Int)==22)=false:=aH d_ B;have HE:=O (show jW p=false by unfold jW;simp[h1,h2,h3,d,f,B]);go_enter func158,ntmps158;go_wp2;go_ret;exact⟨by rw[HE.o];rfl,rfl⟩
theorem MP {T:Prop} (h:T:=by
 go_upto_region 1 with fail;rw[←aA];clear aA;go_wp2_with fail;go_ret;exact⟨by rw[HE.o];rfl,a_.o⟩
):T:=h
theorem Ks {T:Prop} (h:T:=by
 exact MP
):T:=h
theorem Kv {T:Prop} (h:T:=by
 go_upto_region 1 with fail;rw[←aA];clear aA;go_wp2_with fail;refine(HC.o _).mono ?_;rintro e w3⟨rfl,rfl⟩;go_wp2_with fail;go_ret;exact⟨by rw[HE.o];rfl,a_.o⟩
):T:=h
theorem Eg (x:VI)(w:Z):R_ 156 #[.agg #[.int .u8 x.1.toNat,.int .u8 x.2.toNat]] w (.bool (bw x)):=by
 obtain⟨p,a⟩:=x;show C_ 156 #[.agg #[.int .u8 p.toNat,.int .u8 a.toNat]] w _;obtain⟨W1,aA⟩:=H (w.alloc (.cells #[.int .u8 p.toNat,.int .u8 a.toNat] 109));have a8:=ba_ aA;have hx:=bm_ aA;obtain⟨x0,x1⟩:=cl2 hx;have a_:=O a8;clear hx a8
 by_cases h1:1≤p.toNat
 ·have q1:1≤(p.toNat:Int):=Y
  by_cases h2:p.toNat≤23
  ·have q2:(p.toNat:Int)≤23:=Y
   by_cases h3:a=0
   ·subst h3
    rw[show(((0:U8_).toNat:Nat):Int)=0 from rfl]at aA x1⊢;have HE:=O (show bw (p,0)=true by unfold bw;simp[h1,h2]);go_enter func156,ntmps156;exact Ks
   ·have q3:((a.toNat:Int)==0)=false:=aH d_ h3
    obtain⟨ap,hq⟩:=H (jW p);have HC:=O (fun w'=>Eh p w');rw[←hq]at HC;have HE:=O (show bw (p,a)=ap by unfold bw;rw[hq];simp[h1,h2,h3]);clear hq;go_enter func156,ntmps156;exact Kv
  ·have q2:¬(p.toNat:Int)≤23:=Y
   have HE:=O (show bw (p,a)=false by unfold bw;simp[h2]);go_enter func156,ntmps156;exact Ks
 ·have q1:¬1≤(p.toNat:Int):=Y
  have HE:=O (show bw (p,a)=false by unfold bw;simp[h1]);go_enter func156,ntmps156;exact Ks
theorem DA (x:VI)(w:Z):R_ 134 #[.agg #[.int .u8 x.1.toNat,.int .u8 x.2.toNat]] w (.bool (bw x)):=by
 obtain⟨p,a⟩:=x;show C_ 134 #[.agg #[.int .u8 p.toNat,.int .u8 a.toNat]] w _;obtain⟨W1,aA⟩:=H (w.alloc (.cells #[.int .u8 p.toNat,.int .u8 a.toNat] 109));have a8:=ba_ aA;have hx:=bm_ aA;obtain⟨x0,x1⟩:=cl2 hx;have a_:=O a8;clear hx a8
 by_cases h1:1≤p.toNat
 ·have q1:1≤(p.toNat:Int):=Y
  by_cases h2:p.toNat≤23
  ·have q2:(p.toNat:Int)≤23:=Y
   by_cases h3:a=0
   ·subst h3
    rw[show(((0:U8_).toNat:Nat):Int)=0 from rfl]at aA x1⊢;have HE:=O (show bw (p,0)=true by unfold bw;simp[h1,h2]);go_enter func134,ntmps134;exact Ks
   ·have q3:((a.toNat:Int)==0)=false:=aH d_ h3
    obtain⟨ap,hq⟩:=H (jW p);have HC:=O (fun w'=>DB p w');rw[←hq]at HC;have HE:=O (show bw (p,a)=ap by unfold bw;rw[hq];simp[h1,h2,h3]);clear hq;go_enter func134,ntmps134;exact Kv
  ·have q2:¬(p.toNat:Int)≤23:=Y
   have HE:=O (show bw (p,a)=false by unfold bw;simp[h2]);go_enter func134,ntmps134;exact Ks
 ·have q1:¬1≤(p.toNat:Int):=Y
  have HE:=O (show bw (p,a)=false by unfold bw;simp[h1]);go_enter func134,ntmps134;exact Ks
def gi (s:q):Bool:=decide (s.length≤64)
theorem Kw {T:Prop} (h:T:=by
 clear h;go_enter func154,ntmps154;go_wp2;go_ret;exact⟨by rw[HE.o];rfl,Ja _ _⟩
):T:=h
theorem DT (s:q)(w:Z)(hs:s.length≤140737488355328):R_ 154 #[s_ s] w (.bool (!gi s)):=by
 have M:(s.length:Int)≤140737488355328:=Y
 by_cases h:s.length≤64
 ·have h1:¬64<(s.length:Int):=Y
  have HE:=O (show gi s=true by unfold gi;simp[h]);exact Kw
 ·have h1:64<(s.length:Int):=Y
  have HE:=O (show gi s=false by unfold gi;simp[h]);exact Kw
theorem zt (x:VI)(w:Z):R_ 155 #[.agg #[.int .u8 x.1.toNat,.int .u8 x.2.toNat]] w (.bool (!bw x)):=by
 have HC:=O (Eg x);obtain⟨ap,hq⟩:=H (bw x);rw[←hq]at HC⊢;clear hq;obtain⟨W1,aA⟩:=H (w.alloc (.cells #[.int .u8 x.1.toNat,.int .u8 x.2.toNat] 109));have a8:=ba_ aA;have hx:=bm_ aA;obtain⟨x0,x1⟩:=cl2 hx;have a_:=O a8;clear hx a8;go_enter func155,ntmps155;go_upto_region 1 with fail;rw[←aA];clear aA;go_wp2_with fail;refine mB_ (HC.o _) a_ fun w3 aW=>?_;go_wp2_with fail;go_ret;exact⟨rfl,aW.o⟩
end
