/- Lemmas. -/
import Derived.WalkSpells
import Derived.WalkLawsBesides
import Derived.Lib.Strings
import Derived.Lib.Hide
import Derived.BigQuiet
import Derived.Deep.AppendLies
import Derived.Laws.AppendOwnNone
import Derived.Deep.RegionLaw
import Derived.Test.YtfjpghgdebpliaaGreatDoorRows
import Derived.RangeFuncNested
import Derived.RangeFuncBound
import Derived.Shelf.Abstract
set_option linter.unusedSimpArgs false
set_option linter.unusedVariables false
set_option maxRecDepth 100000
set_option maxHeartbeats 16000000
namespace Go.RowKit
theorem Hid.o {p:Prop}(h:Hid p):p:=h
end Go.RowKit
namespace Go.Proofs.YtfjpghgdebpliaaGreatDoor
open Go.Proofs.Tryz
open Go.RowKit
abbrev I5 := @List.take_of_length_le
abbrev I6 := @Nat.le_refl
abbrev I7 := @List.eq_nil_of_length_eq_zero
abbrev I9 := @Nat.zero_add
abbrev Ja := @Below.refl
abbrev Jc := @Nat.le_trans
abbrev Jd := @List.getElem_cons_succ
abbrev Je := @Int.toNat_natCast
abbrev Jf := @List.map_append
abbrev Jg := @List.append_assoc
abbrev Jh := @List.length_append
abbrev Ji := @Nat.add_assoc
abbrev Jj := @Bool.and_eq_true
abbrev Jk := @List.cons_append
abbrev Jl := @Nat.zero_le
abbrev Jm := @List.getElem_cons_zero
abbrev Jn := @List.mem_cons_self
abbrev Jo := @List.mem_cons_of_mem
abbrev Jp := @List.mem_singleton
abbrev Jq := @List.length_cons
abbrev Jr := @Nat.lt_of_lt_of_le
abbrev Js := @List.length_map
abbrev Jt := @List.mem_append
abbrev Ju := @List.drop_succ_cons
abbrev Jv := @List.drop_drop
abbrev Jw := @List.take_succ_cons
abbrev Jy := @List.append_nil
abbrev Jz := @List.getElem_mem
abbrev JA := @Nat.le_of_lt
abbrev JB := @List.take_succ_eq_append_getElem
abbrev JC := @List.nil_append
abbrev JD := @List.getElem_append_left
abbrev JE := @List.take_zero
abbrev JF := @List.drop_zero
abbrev JG := @List.length_drop
abbrev JH := @List.length_take
abbrev JI := @List.length_nil
abbrev JJ := @List.length_singleton
abbrev JK := @List.mem_cons
abbrev JL := @List.getElem_append_right
abbrev JM := @List.getElem_toArray
abbrev JN := @List.length_set
abbrev JO := @Nat.mul_le_mul_right
abbrev JP := @List.drop_eq_getElem_cons
abbrev JQ := @Nat.le_succ_of_le
abbrev JR := @List.length_replicate
abbrev Bw_ (w w' : World) : Prop := Below w.heap.size w w'
abbrev q := List UInt8
abbrev LX_:=List (q×q)
abbrev LL_ := List (List UInt8)
abbrev Z:=World
abbrev V_:=Value
abbrev T_:=TypeId
abbrev U8_:=UInt8
abbrev B_:=Below
abbrev C_:=Calls Tryz.prog
abbrev p_ (c:Nat):Value:=.pointer (some ⟨c,0,none⟩)
abbrev F (x:Int):Value:=.int .i64 x
abbrev e_:Value:=.slice none 0 0
abbrev R_ (f:FuncId)(a:Array Value)(w:World)(v:Value):Prop:=Calls Tryz.prog f a w fun e w'=>e=.returned v∧Below w.heap.size w w'
abbrev LV_:=List V_
abbrev LI_:=List Int
abbrev LW_:=List UInt32
abbrev OA_:=Option Addr
abbrev AV_:=Array V_
abbrev LO_:=List Oper
abbrev LN_:=List (Nat×Nat)
theorem zH3 {a b c:Prop}(k:a)(l:b)(xc:c):Hid a∧Hid b∧Hid c:=⟨k,l,xc⟩
theorem zH4 {a b c d:Prop}(k:a)(l:b)(xc:c)(xd:d):Hid a∧Hid b∧Hid c∧Hid d:=⟨k,l,xc,xd⟩
theorem zH5 {a b c d e:Prop}(k:a)(l:b)(xc:c)(xd:d)(xe:e):Hid a∧Hid b∧Hid c∧Hid d∧Hid e:=⟨k,l,xc,xd,xe⟩
theorem zH6 {a b c d e f:Prop}(k:a)(l:b)(xc:c)(xd:d)(xe:e)(xf:f):Hid a∧Hid b∧Hid c∧Hid d∧Hid e∧Hid f:=⟨k,l,xc,xd,xe,xf⟩
theorem zH7 {a b c d e f g:Prop}(k:a)(l:b)(xc:c)(xd:d)(xe:e)(xf:f)(xg:g):Hid a∧Hid b∧Hid c∧Hid d∧Hid e∧Hid f∧Hid g:=⟨k,l,xc,xd,xe,xf,xg⟩
theorem zH8 {a b c d e f g i:Prop}(k:a)(l:b)(xc:c)(xd:d)(xe:e)(xf:f)(xg:g)(xi:i):Hid a∧Hid b∧Hid c∧Hid d∧Hid e∧Hid f∧Hid g∧Hid i:=⟨k,l,xc,xd,xe,xf,xg,xi⟩
theorem zH9 {a b c d e f g i j:Prop}(k:a)(l:b)(xc:c)(xd:d)(xe:e)(xf:f)(xg:g)(xi:i)(xj:j):Hid a∧Hid b∧Hid c∧Hid d∧Hid e∧Hid f∧Hid g∧Hid i∧Hid j:=⟨k,l,xc,xd,xe,xf,xg,xi,xj⟩
theorem d_ {p:Prop} (h:p:=by decide):p:=h
theorem Y {p:Prop} (h:p:=by omega):p:=h
theorem q_ {p:Prop} (h:p:=by kernel_rfl):p:=h
theorem i_ {p:Prop} (h:p:=by simp):p:=h
theorem z9 {p:Prop} (h:p:=by simp at aN;omega):p:=h
theorem yza {p:Prop} (h:p:=by simp;omega):p:=h
theorem yzb {p:Prop} (h:p:=by unfold maxLen;omega):p:=h
theorem yzc {p:Prop} (h:p:=by go_simp):p:=h
theorem yze {p:Prop} (h:p:=by simpa using h):p:=h
theorem yzf {p:Prop} (h:p:=by rfl):p:=h
theorem yzg {p:Prop} (h:p:=by intro wx;kernel_rfl):p:=h
theorem yzh {p:Prop} (h:p:=by simpa using hl):p:=h
theorem yzj {p:Prop} (h:p:=by first|trivial|rfl):p:=h
theorem yzk {p:Prop} (h:p:=by have:=bl.o;have:=ba.o;omega):p:=h
theorem yzl {p:Prop} (h:p:=by have:=bl.o;omega):p:=h
theorem yzm {p:Prop} (h:p:=by simpa using hi):p:=h
theorem yzn {p:Prop} (h:p:=by simp[hx]):p:=h
theorem yzp {p:Prop} (h:p:=by cases e):p:=h
theorem yzr {p:Prop} (h:p:=by have:=HL.o;omega):p:=h
theorem yzs {p:Prop} (h:p:=by rw[cB];omega):p:=h
theorem yzt {p:Prop} (h:p:=by rw[e];decide):p:=h
theorem yzu {p:Prop} (h:p:=by rw[aI];omega):p:=h
theorem yzv {p:Prop} (h:p:=by have:=HT.o;have:=HL.o;omega):p:=h
theorem yzw {p:Prop} (h:p:=by have:=ce.o;omega):p:=h
theorem yzx {p:Prop} (h:p:=by simp at h4;omega):p:=h
theorem yzy {p:Prop} (h:p:=by have:=HI.o;omega):p:=h
theorem yzA {p:Prop} (h:p:=by cases hs):p:=h
theorem yzB {p:Prop} (h:p:=by simpa using hk):p:=h
theorem O {p : Prop} (h : p) : Hid p := h
theorem nn_ (k : Nat) : (0 : Int) ≤ (k : Int) := Int.natCast_nonneg k
theorem H {α : Sort _} (a : α) : ∃ x, x = a := ⟨_, rfl⟩
end Go.Proofs.YtfjpghgdebpliaaGreatDoor
namespace Go.Proofs.YtfjpghgdebpliaaGreatDoor.Oct
open Go.Proofs.Tryz
def bs (l:List U8_):ByteArray:=⟨l.toArray⟩
abbrev s_ (l:List UInt8):Value:=.string (bs l)
@[simp] theorem nu (l:List U8_):(bs l).data.toList=l:=by simp[bs]
@[go_sem,simp] theorem cB (l:List U8_):(bs l).size=l.length:=by simp[bs,ByteArray.size]
theorem Ek (s:ByteArray):bs s.data.toList=s:=by simp[bs]
theorem ic (a b:List U8_):bs a++bs b=bs (a++b):=by
 apply ByteArray.ext;simp[bs]
def val:List U8_→Nat
 | []=>0
 | c::l=>c.toNat+256*val l
def num:Nat→Nat→List U8_
 | _,0=>[]
 | v,n+1=>UInt8.ofNat (v%256)::num (v / 256) n
@[go_sem,simp] theorem aZ:∀ (n v:Nat),(num v n).length=n
 | 0,_=>rfl
 | n+1,v=>by simp[num,aZ n]
theorem qo:∀ (n v:Nat),num v (n+1)=num v n++[UInt8.ofNat (v / 256 ^ n%256)]
 | 0,v=>by simp[num]
 | n+1,v=>by
  rw[num,qo n (v / 256),num];simp[Nat.pow_succ,Nat.div_div_eq_div_mul,Nat.mul_comm]
def oG (v n:Int):Bool:=decide (1≤n∧n≤8∧v.toNat<256 ^ n.toNat)
def ph (v n:Int):List U8_×Int:=if oG v n then (num v.toNat n.toNat,0) else ([],2)
def C7:Nat→Nat→List U8_
 | 0,_=>[]
 | f+1,v=>if v<128 then [UInt8.ofNat v] else (UInt8.ofNat (v%128)+128)::C7 f (v / 128)
def short (v:Nat):List U8_:=C7 10 v
end Go.Proofs.YtfjpghgdebpliaaGreatDoor.Oct
namespace Go.Proofs.YtfjpghgdebpliaaGreatDoor
open Go.Proofs.Tryz
section
open Go.RowKit Oct
variable {P:Program}
theorem kr {k:IntKind}{a b:Int}(h:a=b):Value.int k a=.int k b:=by rw[h]
theorem FP {a b:ByteArray}(h:a=b):Value.string a=.string b:=by rw[h]
theorem wW (src a e:T_)(hs:P.underlying src=some (.slice e))(he:P.underlying e=some (.int .u8))(hd:P.underlying a=some .string)(w:Z)(x:Int):(convert src a (.slice (some ⟨w.heap.size,0,none⟩) 1 1)).run P (w.alloc (.cells #[.int .u8 x] e))=.ok (.string (bs [UInt8.ofNat x.toNat])) (w.alloc (.cells #[.int .u8 x] e)):=by
 have:=run_convert_bytes_arg (P:=P) (w.alloc (.cells #[.int .u8 x] e)) src e hs he w.heap.size 0 1 1 [x] rfl (fun i hi=>by
  obtain rfl:i=0:=Y;simp[World.cell?_alloc_new]) a hd
 exact this
@[go_sem] theorem Em (l:q) (k:Nat) (h:k<(bs l).size):(bs l)[k]'h=l[k]' yze:=by
 have e:(bs l)[k]'h=(bs l).data.toList[k]' yze:=by simp;rfl
 rw[e];simp
@[go_sem] theorem GP (l:q) (a b:Nat):(bs l).extract a b=bs ((l.drop a).take (b-a)):=by
 rw[Lib.extract_eq,nu];rfl
@[go_sem] theorem EG (l:q) (n:Nat):(l.drop n).take (l.length-n)=l.drop n:=I5 i_
@[go_sem] theorem Ch (l:q):(bs l).toList=l:=by rw[ByteArray.toList_eq,nu]
@[go_sem] theorem GW (a:Array U8_):(ByteArray.mk a).toList=a.toList:=by rw[ByteArray.toList_eq]
attribute [go_sem] ic
theorem II (w:Z)(n:Nat):B_ w.heap.size w (w.drewN n):=⟨rfl,rfl,rfl,I6 _,fun _ _=>rfl⟩
def aW (l:q):LV_:=l.map fun c=>.int .u8 c.toNat
theorem o8 (l:q)(c:U8_):aW l++[.int .u8 c.toNat]=aW (l++[c]):=by simp[aW]
theorem bq (l:q):(aW l).length=l.length:=by simp[aW]
theorem qV (src a e:T_)(hs:P.underlying src=some (.slice e))(he:P.underlying e=some (.int .u8))(hd:P.underlying a=some .string)(w:Z)(bZ:Nat)(v:V_)(n:Nat)(l:q)(h:w.ownsRow bZ e 1 v n (aW l)):(convert src a v).run P w=.ok (.string (bs l)) w:=by
 obtain⟨h1,h2⟩:=id h;rw[bq,Nat.mul_one]at h1;rcases h2 with ⟨rfl,h3⟩|⟨g,ah,aH,rfl,hg,hh,hc⟩
 ·have:l=[]:=I7 Y
  subst this;exact run_convert_bytes_nil w src e hs he 0 0 a hd
 ·subst h1
  refine run_convert_bytes_back w src a e ⟨g,0,none⟩ ah l hs he hd (fun j hj=>?_);have hx:=World.ownsRow.cells h (g:=g) rfl j (.int .u8 (l[j].toNat:Int)) (by simp[aW,List.getElem?_eq_getElem hj]);exact hx
theorem M7 {T:Prop} (h:T:=by
 rw[Addr.add_lit,I9,World.cell?_alloc_new];simpa using hj
):T:=h
theorem Mg {T:Prop} (h:T:=by
 intro j u hj
 have:j<l.length:=by
  rcases Nat.lt_or_ge j l.length with h|h
  ·exact h
  ·simp[List.getElem?_eq_none h]at hj
 exact M7
):T:=h
theorem JS {T:Prop} (h:T:=by
 exact Mg
):T:=h
theorem append1 {aM:Array Oper}{rest:LO_}{o:Oper}{a:Act}{Q:Exit→Act→Z→Prop}(wr:Z)(l:LV_)(e:T_)(av:o.guard=none)(s x:Operand)(t:T_)(ho:o.op=.call { callee:=.builtin .append,args:=#[s,x],argTypes:=#[t,t] })(bZ:Nat)(z:V_)(size bytes:Nat)(ht:P.underlying t=some (.slice e))(r:(P.info? e).map (fun i=>(i.zero,i.size,i.bytes))=some (some z,size,bytes))(B:z.cells.size=size)(a6:0<size)(v:V_)(n:Nat)(xs:LV_)(hs:a.eval s=v)(aw:wr.ownsRow bZ e size v n xs)(c:Nat)(hx:a.eval x=.slice (some ⟨wr.heap.size,0,none⟩) 1 c)(hl:l.length=size)(h1:∀ u∈l,u.oneCell'=true)(d:(n+1)*bytes≤140737488355328)(aS:0<bytes)(aB:bZ≤wr.heap.size)(h:∀ v' w',w'.ownsRow bZ e size v' (n+1) (xs++l)→B_ bZ wr w'→wpList P aM Q rest (a.put o.dst v') w'):wpList P aM Q (o::rest) a (wr.alloc (.cells l.toArray e)):=by
 obtain⟨i,hi,hz,ao,aG⟩:=info_parts r;have hn:n+1≤(n+1)*bytes:=Nat.le_mul_of_pos_right _ aS;refine wpList_append_own _ av s x t ho bZ e i z size bytes ht hi hz ao aG B a6 v n xs hs (aw.alloc _) ⟨wr.heap.size,0,none⟩ 1 c l hx yzh ?_ h1 yzb d yza ?_
 ·exact JS
 ·intro v' w' h2 h3 _
  refine h v' w' h2 (((Ja bZ wr).alloc aB _).grown h3 yza ?_);intro k hk;exact(aw.lt k hk).1
theorem ML {T:Prop} (h:T:=by
 refine h g ah w' h2 (((Ja bZ wr).alloc aB _).grown h3 (by simp;omega) ?_);intro k hk;exact(aw.lt k hk).1
):T:=h
theorem tD {aM:Array Oper}{o:Oper}{a:Act}{K:Act→Z→Prop}{Q:Exit→Act→Z→Prop}{E:Prop}(wr:Z)(l:LV_)(e:T_)(av:o.guard=none)(s x:Operand)(t:T_)(ho:o.op=.call { callee:=.builtin .append,args:=#[s,x],argTypes:=#[t,t] })(bZ:Nat)(z:V_)(size bytes:Nat)(ht:P.underlying t=some (.slice e))(r:(P.info? e).map (fun i=>(i.zero,i.size,i.bytes))=some (some z,size,bytes))(B:z.cells.size=size)(a6:0<size)(v:V_)(n:Nat)(xs:LV_)(hs:a.eval s=v)(aw:wr.ownsRow bZ e size v n xs)(c:Nat)(hx:a.eval x=.slice (some ⟨wr.heap.size,0,none⟩) 1 c)(hl:l.length=size)(h1:∀ u∈l,u.oneCell'=true)(d:(n+1)*bytes≤140737488355328)(aS:0<bytes)(aB:bZ≤wr.heap.size)(h:∀ g ah w',w'.ownsRow bZ e size (.slice (some ⟨g,0,none⟩) (n+1) ah) (n+1) (xs++l)→B_ bZ wr w'→K (a.put o.dst (.slice (some ⟨g,0,none⟩) (n+1) ah)) w'):if Region.wanted o (yielded aM a.tmps)=true then Oper.wp P o a (wr.alloc (.cells l.toArray e)) K Q else E:=by
 obtain⟨i,hi,hz,ao,aG⟩:=info_parts r;have hn:n+1≤(n+1)*bytes:=Nat.le_mul_of_pos_right _ aS;refine step_append_lies _ av s x t ho bZ e i z size bytes ht hi hz ao aG B a6 v n xs hs (aw.alloc _) ⟨wr.heap.size,0,none⟩ 1 c l hx yzh ?_ h1 d_ yzb d yza _ rfl ?_
 ·exact JS
 ·intro g ah w' h2 h3 _ _
  exact ML
theorem cX {w w':Z}{bZ:Nat}{e:T_}{size:Nat}{v:V_}{n:Nat}{xs:LV_}(h:w.ownsRow bZ e size v n xs)(hB:B_ w.heap.size w w'):w'.ownsRow bZ e size v n xs:=by
 obtain⟨h1,h2⟩:=h;refine⟨h1,?_⟩;rcases h2 with h2|⟨g,ah,aH,hv,hg,hh,r⟩
 ·exact Or.inl h2
 ·have aC:g<w.heap.size:=by
   rcases Nat.lt_or_ge g w.heap.size with h|h
   ·exact h
   ·simp[Array.getElem?_eq_none h]at hh
  exact Or.inr ⟨g,ah,aH,hv,hg,(hB.block g aC).trans hh,r⟩
theorem bt {a b c:Z}(h:B_ a.heap.size a b)(k:B_ b.heap.size b c):B_ a.heap.size a c:=h.trans (k.mono h.size)
theorem mB_ {P:Program}{f:FuncId}{ar:Array Value}{v:Value}{w u:World}{R:Ending→World→Prop}(h:Calls P f ar w fun e w'=>e=.returned v∧Below w.heap.size w w')(b:Hid (Below u.heap.size u w))(k:∀ w',Hid (Below u.heap.size u w')→R (.returned v) w'):Calls P f ar w R:=h.mono (by rintro e w'⟨rfl,c⟩;exact k _ (bt b c))
theorem af (w:Z)(o:Obj):B_ w.heap.size w (w.alloc o):=(Ja _ _).alloc (I6 _) _
theorem b_drew (w:Z):B_ w.heap.size w w.drew:=(Ja _ _).drew
theorem iE (w:Z):B_ w.heap.size w w:=Ja _ _
theorem ay {w:Z}{bZ:Nat}{e:T_}{size:Nat}{v:V_}{n:Nat}{xs:LV_}(h:w.ownsRow bZ e size v n xs):∃ a ah,v=.slice a n ah:=by
 rcases h.2 with ⟨hv,h0⟩|⟨g,ah,aH,hv,_⟩
 ·exact⟨none,0,by rw[hv,h0]⟩
 ·exact⟨_,_,hv⟩
theorem fq {w:Z}{bZ a:Nat}{e:T_}{size:Nat}{v:V_}{n:Nat}{xs:LV_}(h:w.ownsRow bZ e size v n xs)(hb:a≤bZ):w.ownsRow a e size v n xs:=by
 obtain⟨h1,h2⟩:=h;refine⟨h1,?_⟩;rcases h2 with h2|⟨g,ah,aH,hv,hg,r⟩
 ·exact .inl h2
 ·exact .inr ⟨g,ah,aH,hv,Jc hb hg,r⟩
theorem jD (w:Z)(o p:Obj):((w.alloc o).alloc p).heap[w.heap.size]?=some o∧((w.alloc o).alloc p).heap[w.heap.size+1]?=some p∧B_ w.heap.size w ((w.alloc o).alloc p):=by
 refine⟨?_,?_,((Ja _ _).alloc (I6 _) _).alloc i_ _⟩
 ·show((w.heap.push o).push p)[w.heap.size]?=some o
  simp[Array.getElem?_push]
 ·show((w.heap.push o).push p)[w.heap.size+1]?=some p
  rw[Array.getElem?_push,if_pos i_]
def aO (w:Z)(v:V_)(n:Nat)(xs:LV_):Prop :=
 ∃ a ah,v=.slice a n ah∧(a=none→n=0∧ah=0)∧∀ j u,xs[j]?=some u→∃ b aL,a=some ⟨b,aL,none⟩∧w.cell? ⟨b,aL+j,none⟩=some u
theorem aG {w:Z}{a:Addr}{u:V_}(h:w.cell? a=some u):a.block<w.heap.size:=World.block_lt_of_cell? w a h
theorem IF {w w':Z}(hB:B_ w.heap.size w w'){a:Addr}{u:V_}(h:w.cell? a=some u):w'.cell? a=some u :=
 (hB.cell (p:=a) (aG h)).trans h
theorem aO.below {w w':Z}{v:V_}{n:Nat}{xs:LV_}(h:aO w v n xs)(hB:B_ w.heap.size w w'):aO w' v n xs:=by
 obtain⟨a,ah,hv,hn,hc⟩:=h;exact⟨a,ah,hv,hn,fun j u hj=>by obtain⟨b,aL,ha,hu⟩:=hc j u hj;exact⟨b,aL,ha,IF hB hu⟩⟩
theorem IN {w:Z}{bZ:Nat}{e:T_}{size:Nat}{v:V_}{n:Nat}{xs:LV_}(h:w.ownsRow bZ e size v n xs):aO w v n xs:=by
 rcases id h.2 with ⟨hv,h0⟩|⟨g,ah,aH,hv,_⟩
 ·refine⟨none,0,by rw[hv,h0],fun _=>⟨h0,rfl⟩,fun j u hj=>?_⟩
  have:=h.1;rw[h0,Nat.zero_mul]at this;rw[I7 this]at hj;simp at hj
 ·refine⟨some ⟨g,0,none⟩,ah,hv,i_,fun j u hj=>⟨g,0,rfl,?_⟩⟩
  have:=World.ownsRow.cells h (g:=g) (by rw[hv];rfl) j u hj
  rwa [Addr.add_lit]at this
theorem aO.nil (w:Z):aO w (.slice none 0 0) 0 []:=⟨none,0,rfl,fun _=>⟨rfl,rfl⟩,fun j u hj=>by simp at hj⟩
theorem aO.new (w:Z)(xs:LV_)(n:Nat)(e:T_)(c:Nat):aO (w.alloc (.cells xs.toArray e)) (.slice (some ⟨w.heap.size,0,none⟩) n c) n xs :=
 ⟨_,_,rfl,i_,fun j u hj=>⟨_,_,rfl,by rw[I9,World.cell?_alloc_new];simpa using hj⟩⟩
theorem L9 {T:Prop} (h:T:=by
 intro j u hj;obtain⟨b,aL,ha,hu⟩:=hc j u hj
 cases ha
 rw[Addr.add_lit];exact hu
):T:=h
theorem ny {aM:Array Oper}{rest:LO_}{o:Oper}{a:Act}{Q:Exit→Act→Z→Prop}(w:Z)(l:LV_)(e:T_)(av:o.guard=none)(s x:Operand)(t:T_)(ho:o.op=.call { callee:=.builtin .append,args:=#[s,x],argTypes:=#[t,t] })(bZ:Nat)(z:V_)(size bytes:Nat)(ht:P.underlying t=some (.slice e))(r:(P.info? e).map (fun i=>(i.zero,i.size,i.bytes))=some (some z,size,bytes))(B:z.cells.size=size)(a6:0<size)(v:V_)(n:Nat)(xs:LV_)(hs:a.eval s=v)(aw:w.ownsRow bZ e size v n xs)(y:V_)(m:Nat)(hx:a.eval x=y)(hr:aO w y m l)(hl:l.length=m*size)(h1:∀ u∈l,u.oneCell'=true)(d:(n+m)*bytes≤140737488355328)(aS:0<bytes)(aB:bZ≤w.heap.size)(h:∀ v' w',w'.ownsRow bZ e size v' (n+m) (xs++l)→B_ bZ w w'→wpList P aM Q rest (a.put o.dst v') w'):wpList P aM Q (o::rest) a w:=by
 obtain⟨i,hi,hz,ao,aG⟩:=info_parts r;have hn:n+m≤(n+m)*bytes:=Nat.le_mul_of_pos_right _ aS;obtain⟨ax,ah,rfl,q,hc⟩:=hr
 cases ax with
 | none =>
  obtain⟨rfl,rfl⟩:=q rfl;have g:l=[]:=I7 yzh;subst g;refine wpList_append_own_none av s x t ho bZ e i size ht hi v n xs hs aw hx ?_;have:=h v w (by simpa using aw) (Ja _ _);exact this
 | some ad =>
  refine wpList_append_own _ av s x t ho bZ e i z size bytes ht hi hz ao aG B a6 v n xs hs aw ad m ah l hx hl ?_ h1 yzb d aB ?_
  ·exact L9
  ·intro v' w' h2 h3 _
   refine h v' w' h2 ((Ja bZ w).grown h3 aB ?_);intro k hk;exact(aw.lt k hk).1
def fD (r:LL_):LV_:=r.map fun l=>.string (bs l)
theorem lf (r:LL_)(k:Nat)(h:k<r.length):(fD r)[k]?=some (.string (bs r[k])):=by simp[fD,h]
theorem uM (r:LL_)(l:q):fD r++[.string (bs l)]=fD (r++[l]):=by simp[fD]
theorem ba_ {w W:Z}{o:Obj}(h:W=w.alloc o):B_ w.heap.size w W:=by rw[h];exact af _ _
end
section
open Go.RowKit Oct
theorem nV:(Tryz.prog.info? 5).map (fun i=>(i.zero,i.size,i.bytes))=some (some (.int .u8 0),1,1):=q_
theorem If (w:Z)(x:Int):(convert 114 9 (.slice (some ⟨w.heap.size,0,none⟩) 1 1)).run prog (w.alloc (.cells #[.int .u8 x] 5))=.ok (.string (bs [UInt8.ofNat x.toNat])) (w.alloc (.cells #[.int .u8 x] 5)):=wW (P:=prog) 114 9 5 underlying114 underlying5 underlying9 w x
theorem mN (v n:Int)(w:Z)(h1:0≤n)(h2:n≤8)(h3:0≤v)(h4:v<18446744073709551616):Calls prog 65 #[.int .u64 v,.int .i64 n] w fun e w'=>e=.returned (.string (bs (num v.toNat n.toNat)))∧Bw_ w w':=by
 have bB:=If;go_enter func65,ntmps65;go_wp2
 go_loopw [0,5,6] (fun u s i wr=>∃ k:Nat,∃ x:Nat,∃ l:q,(k:Int)≤n∧i=.int .i64 k∧u=.int .u64 x∧x<18446744073709551616∧s=.string (bs l)∧l.length≤k∧Hid (x=v.toNat / 256 ^ k∧l=num v.toNat k)∧B_ w.heap.size w wr) (fun _ _ i _=>(n-intOf i).toNat)
 case atStart=>exact⟨0,v.toNat,[],by omega,rfl,kr Y,by omega,rfl,by simp,⟨by simp,rfl⟩,Ja _ _⟩
 case round =>
  obtain⟨k,x,l,hk,rfl,rfl,hx,rfl,hl,X,hB⟩:=hrel
  by_cases h0:(k:Int)<n
  ·go_wp2
   go_roundw
   case rel =>
    obtain⟨rfl,rfl⟩:=X.o;exact⟨k+1,_,_,by omega,by go_num,by go_num,Nat.lt_of_le_of_lt (Nat.div_le_self _ _) hx,rfl,by simp,⟨by rw[Nat.pow_succ,Nat.div_div_eq_div_mul],by rw[qo]⟩,hB.alloc hB.size _⟩
   case measure=>simp[intOf];omega
  ·obtain rfl:n=k:=Y
   go_wp2;go_ret;obtain⟨_,rfl⟩:=X.o;exact⟨rfl,hB⟩
def cb (v k:Nat):AV_:=((num v k).map (fun c=>Value.int .u8 c.toNat)++List.replicate (8-k) (Value.int .u8 0)).toArray
theorem GO (v k:Nat)(h:k<8):(cb v k)[k]?=some (.int .u8 0):=by
 simp[cb,List.getElem?_append,aZ,List.getElem?_replicate];omega
theorem Ig (v k j:Nat)(h:j<k):(cb v k)[j]?=some (.int .u8 (((num v k)[j]'(by rw[aZ];exact h)).toNat:Int)):=by
 have hl:j<(num v k).length:=by rw[aZ];exact h
 simp[cb,List.getElem?_append,aZ,h,hl]
theorem DM (v m n j:Nat)(h:m≤n)(hj:j<m):(num v n)[j]'(by rw[aZ];omega)=(num v m)[j]'(by rw[aZ];omega):=by
 induction m generalizing v n j with
 | zero=>omega
 | succ m H =>
  obtain⟨n,rfl⟩:∃ S,n=S+1:=⟨n-1,by omega⟩
  cases j with
  | zero=>simp[num]
  | succ j=>simp only[num,Jd];exact H _ _ _ Y Y
theorem FB (v:Int)(k:Nat)(h:k<8)(h0:0≤v):(cb v.toNat k).setIfInBounds k (Value.int IntKind.u8 (v / 2 ^ (8*k)%256))=cb v.toNat (k+1):=by
 obtain⟨v,rfl⟩:=Int.eq_ofNat_of_zero_le h0
 have e:((v:Int) / 2 ^ (8*k)%256)=(((UInt8.ofNat (v / 256 ^ k%256)).toNat:Nat):Int):=by
  have:(2:Int) ^ (8*k)=((256 ^ k:Nat):Int):=by rw[Int.pow_mul];simp
  rw[this];simp
 rw[e];simp only[cb,Je,List.setIfInBounds_toArray,qo,Jf,Jg];congr 1;rw[List.set_append_right _ _ (by simp[aZ])];obtain⟨m,hm⟩:∃ m,8-k=m+1:=⟨7-k,by omega⟩
 have d:8-(k+1)=m:=Y;simp[aZ,hm,d,List.replicate_succ]
theorem lF (v n:Int)(w:Z)(h1:1≤n)(h2:n≤8)(h3:0≤v)(h4:v<18446744073709551616):Calls prog 61 #[.int .u64 v,.int .i64 n] w fun e w'=>e=.returned (.string (bs (num v.toNat n.toNat)))∧Bw_ w w':=by
 obtain⟨m,rfl⟩:=Int.eq_ofNat_of_zero_le (show 0≤n by omega)
 have d:∀ c,(convert 114 9 (.slice (some ⟨w.heap.size,0,none⟩) m c)).run prog (w.alloc (.cells (cb v.toNat 8) 166))=.ok (.string (bs (num v.toNat m))) (w.alloc (.cells (cb v.toNat 8) 166)):=by
  intro c
  have:=run_convert_bytes_back (P:=prog) (w.alloc (.cells (cb v.toNat 8) 166)) 114 9 5 ⟨w.heap.size,0,none⟩ c (num v.toNat m) underlying114 underlying5 underlying9 (fun j hj=>by
   rw[aZ]at hj;have:=Ig v.toNat 8 j Y;simp[World.cell?_alloc_new,Addr.add_lit,this,DM v.toNat m 8 j Y hj])
  rw[aZ]at this;exact this
 go_enter func61,ntmps61;go_wp2
 go_loopw [7] (fun i wr=>∃ k:Nat,k≤8∧i=.int .i64 k∧wr=w.alloc (.cells (cb v.toNat k) 166)) (fun i _=>(8-intOf i).toNat)
 case atStart=>exact⟨0,by omega,rfl,rfl⟩
 case round =>
  obtain⟨k,hk,rfl,rfl⟩:=hrel
  by_cases h0:(k:Int)<8
  ·have hc:=GO v.toNat k Y
   go_wp2;go_roundw
   case rel=>exact⟨k+1,by omega,by go_num,by rw[FB v k Y h3]⟩
   case measure=>simp[intOf];omega
  ·obtain rfl:k=8:=Y
   go_wp2;go_ret;exact⟨rfl,(Ja _ _).alloc (I6 _) _⟩
end
section
open Go.RowKit
structure Chg (X:Nat→Prop) (w w':Z):Prop where
 os:w'.os=w.os
 tape:w'.tape=w.tape
 output:w'.output=w.output
 size:w.heap.size≤w'.heap.size
 block:∀ k,k<w.heap.size→¬X k→w'.heap[k]?=w.heap[k]?
theorem Chg.refl (X:Nat→Prop)(w:Z):Chg X w w:=⟨rfl,rfl,rfl,I6 _,fun _ _ _=>rfl⟩
theorem Chg.trans {X:Nat→Prop}{a b c:Z}(h:Chg X a b)(k:Chg X b c):Chg X a c :=
 ⟨k.os.trans h.os,k.tape.trans h.tape,k.output.trans h.output,Jc h.size k.size,fun i hi hx=>(k.block i (Jr hi h.size) hx).trans (h.block i hi hx)⟩
theorem Chg.mono {X X':Nat→Prop}{w w':Z}(h:Chg X w w')(hx:∀ k,X k→X' k):Chg X' w w':=⟨h.os,h.tape,h.output,h.size,fun k hk hn=>h.block k hk fun c=>hn (hx k c)⟩
theorem IG {X:Nat→Prop}{w w':Z}(h:B_ w.heap.size w w'):Chg X w w':=⟨h.os,h.tape,h.output,h.size,fun k hk _=>h.block k hk⟩
theorem IV {X:Nat→Prop}{B:Nat}{w w':Z}(h:B_ B w w')(hX:∀ k,B≤k→X k):Chg X w w' :=
 ⟨h.os,h.tape,h.output,h.size,fun k hk hn=>h.block k (Nat.lt_of_not_le fun hb=>hn (hX k hb))⟩
theorem Chg.below {X:Nat→Prop}{B:Nat}{w w':Z}(h:Chg X w w')(hX:∀ k,X k→B≤k)(hB:B≤w.heap.size):B_ B w w' :=
 ⟨h.os,h.tape,h.output,h.size,fun k hk=>h.block k (Jr hk hB) fun hx=>by have:=hX k hx;omega⟩
theorem Chg.alloc (X:Nat→Prop)(w:Z)(o:Obj):Chg X w (w.alloc o):=IG (af w o)
theorem Chg.drew (X:Nat→Prop)(w:Z):Chg X w w.drew:=IG (b_drew w)
theorem Chg.setCell {X:Nat→Prop}(w:Z)(a:Addr)(u:V_)(h:X a.block):Chg X w (w.setCell a u) :=
 ⟨rfl,rfl,rfl,by simp[World.setCell],fun k _ hn=>Below.heap_setCell _ _ _ _ fun e=>hn (e▸h)⟩
theorem Chg.putObj {X:Nat→Prop}(w:Z)(l:Nat)(o:Obj)(h:X l):Chg X w (w.putObj l o) :=
 ⟨rfl,rfl,rfl,by simp,fun k _ hn=>World.putObj_heap_other fun e=>hn (e▸h)⟩
theorem Chg.at {X:Nat→Prop}{w w':Z}(h:Chg X w w'){k:Nat}{o:Obj}(hk:w.heap[k]?=some o)(hn:¬X k):w'.heap[k]?=some o :=
 (h.block k (Array.getElem?_eq_some_iff.1 hk).1 hn).trans hk
theorem Chg.cell {X:Nat→Prop}{w w':Z}(h:Chg X w w'){a:Addr}{u:V_}(ha:w.cell? a=some u)(hn:¬X a.block):w'.cell? a=some u :=
 (World.cell?_of_block (w:=w) (h.block a.block (aG ha) hn)).trans ha
section
variable {am:Fence}{n:Nat}{P:Program}{α:Type}
def xt (am:Fence)(n:Nat)(P:Program)(gf:Nat)(lb:AV_)(X aa:Nat→Prop)(El:α→AV_→Z→Prop)(ag:List α)(W:Z):Prop :=
 ∀ (l:Nat) (J Jx:List α→Z→Prop),
  (∀ aj U U',J aj U→Chg X U U'→J aj U')→(∀ aj U U',Jx aj U→Chg X U U'→Jx aj U') →
  (∀ aj x vs U,J aj U→El x vs U→aj++[x] <+: ag→YieldAt am (n-1) P l vs U fun e U' =>
   (e=.returned (.bool true)∧J (aj++[x]) U'∧Chg (fun k=>¬aa k) U U')∨(e=.returned (.bool false)∧Jx (aj++[x]) U')) →
  J [] W→CallsIn am n P gf (#[.func (.yield l) #[] #[]]++lb) W fun e W'=>(∃ v,e=.returned v)∧(J ag W'∨∃ aj,aj <+: ag∧Jx aj W')
def vE (D:Nat)(aa:Nat→Prop)(I:List α→Z→Prop)(j:Code→List α→Z→Prop)(aj:List α)(U:Z):Exit→Act→Z→Prop
 | .normal,_,U'=>Chg (fun k=>¬(aa k∨k=D∨k=D+1)) U U'∧I aj U'
 | .ret,_,U'=>Chg (fun k=>¬(k=D∨k=D+1)) U U'∧j .ret aj U'
 | .exit id,_,U'=>Chg (fun k=>¬(k=D∨k=D+1)) U U'∧j (.exit id) aj U'
 | .goto t,_,U'=>Chg (fun k=>¬(k=D∨k=D+1)) U U'∧j (.goto t) aj U'
 | .panic _,_,_=>False
 | .outgrown,_,_=>False
theorem MQ {T:Prop} (h:T:=by
 intro K av;simp[Target.leads]at av;subst av;exact au
):T:=h
theorem M4 {T:Prop} (h:T:=by
 rw[←aA,i];exact run_enterLoop_outer _ _ _ _ _
):T:=h
theorem xB {g:Operand}{ps:Array Tmp}{assign body:Code}{Q:Exit→Act→Z→Prop}{a:Act}{w:Z}(ad:am.round=none)(h1:1≤n){gf:Nat}{lb:AV_}(hg:a.eval g=.func (.func gf) #[] lb)(au:am.fn gf)(eg:∀ az w,(callFunc gf az).run P w=.ok (.enter gf az) w){X aa:Nat→Prop}{El:α→AV_→Z→Prop}{ag:List α}(hX:∀ k,X k→k<w.heap.size)(hY:∀ k,aa k→k<w.heap.size)(B:∀ W,B_ w.heap.size w W→xt am (n-1) P gf lb X aa El ag W)(aK:∀ x vs U,El x vs U→vs.size=ps.size)(L:∀ x vs U U',El x vs U→Chg (fun k=>k=w.heap.size∨k=w.heap.size+1) U U'→El x vs U')(I:List α→Z→Prop)(j:Code→List α→Z→Prop)(hI:∀ aj U U',I aj U→Chg (fun k=>X k∨k=w.heap.size∨k=w.heap.size+1) U U'→I aj U')(H:∀ c aj U U',j c aj U→Chg (fun k=>X k∨k=w.heap.size∨k=w.heap.size+1) U U'→j c aj U')(h0:I [] w)(r:∀ (l:Nat) (aj:List α) (x:α) (vs:AV_) (U:Z),w.heap.size+2≤U.heap.size→I aj U→El x vs U→aj++[x] <+: ag → assign.wpIn (am.inRound l) (n-1-1) P (Exit.then (fun a' M=>B_ U.heap.size U M∧∀ U2,w.heap.size+2≤U2.heap.size→I aj U2→El x vs U2→Chg (fun k=>k=w.heap.size∨k=w.heap.size+1) M U2 → body.wpIn (am.inRound l) (n-1-1) P (vE w.heap.size aa I j (aj++[x]) U2) a' U2) (fun _ _ _=>False)) { tmps:=(ps.zip vs).foldl (fun t (p,v)=>t.setIfInBounds p v) a.tmps,defers:=[] } U)(u:∀ W,w.heap.size+2≤W.heap.size→I ag W→W.heap[w.heap.size]?=some (.deferred (some []))→Q .normal { a with defers:={ target:=.collected w.heap.size,args:=#[] }::a.defers } W)(s:∀ c aj W,w.heap.size+2≤W.heap.size→aj <+: ag→j c aj W→W.heap[w.heap.size]?=some (.deferred (some []))→c.wpIn am n P Q { a with defers:={ target:=.collected w.heap.size,args:=#[] }::a.defers } W):(Code.rangeFunc g ps assign body).wpIn am n P Q a w:=by
 refine wpIn_rangeFunc fun fn af=>?_;rw[ad];obtain⟨rec,i⟩:∃ rec:LoopState→Option Code→Loop,rec=fun st pe=>{ state:=st,pending:=pe,fn,tmps:=a.tmps,params:=ps,assign,body,defers:=w.heap.size }:=⟨_,rfl⟩
 obtain⟨W1,aA⟩:∃ W1,(w.alloc (.deferred (some []))).alloc (.loop (rec .ready none))=W1:=⟨_,rfl⟩
 obtain⟨ah,bd,a8⟩:=jD w (.deferred (some [])) (.loop (rec .ready none));rw[aA]at ah bd a8;have ar:w.heap.size+2≤W1.heap.size:=by have:=(Array.getElem?_eq_some_iff.1 bd).1;omega
 refine⟨w.heap.size+1,[{ target:=.collected w.heap.size,args:=#[] }],W1,{ target:=.fn (.func gf) lb,args:=#[.func (.yield (w.heap.size+1)) #[] #[]] },W1,gf,
  #[.func (.yield (w.heap.size+1)) #[] #[]]++lb,W1,?_,?_,?_,?_,fun _=>h1,?_⟩
 ·exact M4
 ·simp only[resolve,hg]
  simp[go_sem]
 ·exact MQ
 ·simp[invoke,go_sem,eg]
 have b:∀ k,X k→k≠w.heap.size∧k≠w.heap.size+1:=fun k hk=>by have:=hX k hk;omega
 have J:∀ {U U':Z} {o F:Obj},Chg X U U'→U.heap[w.heap.size+1]?=some o→U.heap[w.heap.size]?=some F→U'.heap[w.heap.size+1]?=some o∧U'.heap[w.heap.size]?=some F :=
  fun hc h h'=>⟨hc.at h fun hx=>(b _ hx).2 rfl,hc.at h' fun hx=>(b _ hx).1 rfl⟩
 refine(B W1 a8 (w.heap.size+1)
  (fun aj U=>I aj U∧U.heap[w.heap.size+1]?=some (.loop (rec .ready none))∧U.heap[w.heap.size]?=some (.deferred (some [])))
  (fun aj U=>∃ c,j c aj U∧U.heap[w.heap.size+1]?=some (.loop (rec .done (some c)))∧U.heap[w.heap.size]?=some (.deferred (some [])))
  (fun aj U U' hs hc=>⟨hI _ _ _ hs.1 (hc.mono fun _ h=>.inl h),J hc hs.2.1 hs.2.2⟩)
  (fun aj U U' ⟨c,hs,hl,hk⟩ hc=>⟨c,H _ _ _ _ hs (hc.mono fun _ h=>.inl h),J hc hl hk⟩)
  ?_ ⟨hI _ _ _ h0 (IG a8),bd,ah⟩).mono ?_
 ·rintro aj x vs U⟨hi,hl,hk⟩ aS ao
  have hy:=run_yield (P:=P) (args:=vs) hl (by rw[i];exact aK x vs U aS);rw[i]at hy;refine⟨fn,_,assign,body,hy,roundIn_of_wpIn af (wpIn_mono (r _ aj x vs U (by have:=(Array.getElem?_eq_some_iff.1 hl).1;omega) hi aS ao) ?_)⟩;clear hy;intro ea a' M ap
  cases ea with
  | normal=>?_
  | _=>exact ap
  obtain⟨m,al⟩:=ap;have c1:∀ {ab:Nat→Prop},Chg ab U M:=fun {ab}=>IG m;replace hl:=c1.at (X:=fun _=>False) hl (fun h=>h);replace hk:=c1.at (X:=fun _=>False) hk (fun h=>h);replace hi:=hI _ _ _ hi c1;replace aS:=L _ _ _ _ aS c1;have aC:=(Array.getElem?_eq_some_iff.1 hl).1;refine⟨_,run_beginRound hl (by rw[i]),?_⟩;obtain⟨U2,ai⟩:∃ U2,M.putObj (w.heap.size+1) (.loop { rec .ready none with state:=.busy })=U2:=⟨_,rfl⟩
  have a0:U2.heap[w.heap.size+1]?=some (.loop { rec .ready none with state:=.busy }):=by rw[←ai];exact World.putObj_heap_same aC
  have z:U2.heap[w.heap.size]?=some (.deferred (some [])):=by rw[←ai];exact(World.putObj_heap_other Y).trans hk
  have c2:∀ {ab:Nat→Prop},ab (w.heap.size+1)→Chg ab M U2:=fun {ab} hz=>by rw[←ai];exact Chg.putObj _ _ _ hz
  rw[ai];refine wpIn_mono (al U2 (by have:=(Array.getElem?_eq_some_iff.1 a0).1;omega) (hI _ _ _ hi (c2 (.inr (.inr rfl)))) (L _ _ _ _ aS (c2 (.inr rfl))) (c2 (.inr rfl))) ?_
  have O:∀ (f:Option Code) (U3:Z),U3.heap[w.heap.size+1]?=some (.loop { rec .ready none with state:=.busy })→U3.heap[w.heap.size]?=some (.deferred (some [])) →
    (Instr.endRound (w.heap.size+1) f).run P U3=.ok (.bool f.isNone) (U3.putObj (w.heap.size+1) (.loop (rec (if f.isNone then .ready else .done) f))) ∧
    (U3.putObj (w.heap.size+1) (.loop (rec (if f.isNone then .ready else .done) f))).heap[w.heap.size+1]?=some (.loop (rec (if f.isNone then .ready else .done) f)) ∧
    (U3.putObj (w.heap.size+1) (.loop (rec (if f.isNone then .ready else .done) f))).heap[w.heap.size]?=some (.deferred (some [])):=fun f U3 a4 aq=>by
   have:=run_endRound (P:=P) f a4;rw[i]at this⊢;exact⟨this,World.putObj_heap_same (Array.getElem?_eq_some_iff.1 a4).1,(World.putObj_heap_other Y).trans aq⟩
  have stop:∀ (c:Code) (U3:Z),Chg (fun k=>¬(k=w.heap.size∨k=w.heap.size+1)) U2 U3→j c (aj++[x]) U3→∃ v U4,(Instr.endRound (w.heap.size+1) (some c)).run P U3=.ok v U4 ∧
    ((Ending.returned v=.returned (.bool true)∧(I (aj++[x]) U4∧U4.heap[w.heap.size+1]?=some (.loop (rec .ready none))∧U4.heap[w.heap.size]?=some (.deferred (some [])))∧Chg (fun k=>¬aa k) U U4) ∨
     (Ending.returned v=.returned (.bool false)∧∃ c,j c (aj++[x]) U4∧U4.heap[w.heap.size+1]?=some (.loop (rec .done (some c)))∧U4.heap[w.heap.size]?=some (.deferred (some [])))):=fun c U3 hc hx=>by
   obtain⟨hr,b6,bQ⟩:=O (some c) U3 (hc.at a0 fun h=>h (.inr rfl)) (hc.at z fun h=>h (.inl rfl));exact⟨_,_,hr,.inr ⟨rfl,c,H _ _ _ _ hx (Chg.putObj _ _ _ (.inr (.inr rfl))),b6,bQ⟩⟩
  rintro e a3 U3 hp
  cases e with
  | normal =>
   obtain⟨hc,aw⟩:=hp;obtain⟨hr,b6,bQ⟩:=O none U3 (hc.at a0 fun h=>h (.inr (.inr rfl))) (hc.at z fun h=>h (.inr (.inl rfl)));have d:¬aa (w.heap.size+1):=fun h=>by have:=hY _ h;omega
   exact⟨_,_,hr,.inl ⟨rfl,⟨hI _ _ _ aw (Chg.putObj _ _ _ (.inr (.inr rfl))),b6,bQ⟩,
    (((c1.trans (c2 d)).trans (hc.mono fun k hk hy=>hk (.inl hy))).trans (Chg.putObj _ _ _ d))⟩⟩
  | ret=>exact stop .ret U3 hp.1 hp.2
  | exit id=>exact stop (.exit id) U3 hp.1 hp.2
  | goto t=>exact stop (.goto t) U3 hp.1 hp.2
  | panic ch=>exact hp.elim
  | outgrown=>exact hp.elim
 ·rintro e W2⟨⟨v,rfl⟩,(⟨hi,hl,hk⟩|⟨aj,ao,c,hi,hl,hk⟩)⟩
  ·have aC:=(Array.getElem?_eq_some_iff.1 hl).1
   exact⟨none,_,by have:=run_endLoop (P:=P) hl (by rw[i];simp);rw[i]at this;exact this,u _ yza (hI _ _ _ hi (Chg.putObj _ _ _ (.inr (.inr rfl)))) ((World.putObj_heap_other Y).trans hk)⟩
  ·have aC:=(Array.getElem?_eq_some_iff.1 hl).1
   exact⟨some c,_,by have:=run_endLoop (P:=P) hl (by rw[i];simp);rw[i]at this;exact this,s c aj _ yza ao (H _ _ _ _ hi (Chg.putObj _ _ _ (.inr (.inr rfl)))) ((World.putObj_heap_other Y).trans hk)⟩
theorem uF {g:Operand}{ps:Array Tmp}{assign body:Code}{Q:Exit→Act→Z→Prop}{a:Act}{w:Z}{D:Nat}(hD:w.heap.size=D){gf:Nat}{lb:AV_}(hg:a.eval g=.func (.func gf) #[] lb)(eg:∀ az w,(callFunc gf az).run P w=.ok (.enter gf az) w){X aa:Nat→Prop}{El:α→AV_→Z→Prop}{ag:List α}(hX:∀ k,X k→k<D)(hY:∀ k,aa k→k<D)(B:∀ W,B_ D w W→xt Fence.wide 2 P gf lb X aa El ag W)(aK:∀ x vs U,El x vs U→vs.size=ps.size)(L:∀ x vs U U',El x vs U→Chg (fun k=>k=D∨k=D+1) U U'→El x vs U')(I:List α→Z→Prop)(j:Code→List α→Z→Prop)(hI:∀ aj U U',I aj U→Chg (fun k=>X k∨k=D∨k=D+1) U U'→I aj U')(H:∀ c aj U U',j c aj U→Chg (fun k=>X k∨k=D∨k=D+1) U U'→j c aj U')(h0:I [] w)(r:∀ (l:Nat) (aj:List α) (x:α) (vs:AV_) (U:Z),D+2≤U.heap.size→I aj U→El x vs U→aj++[x] <+: ag → assign.wpIn (Fence.wide.inRound l) 1 P (Exit.then (fun a' M=>B_ U.heap.size U M∧∀ U2,D+2≤U2.heap.size→I aj U2→El x vs U2→Chg (fun k=>k=D∨k=D+1) M U2 → body.wpIn (Fence.wide.inRound l) 1 P (vE D aa I j (aj++[x]) U2) a' U2) (fun _ _ _=>False)) { tmps:=(ps.zip vs).foldl (fun t (p,v)=>t.setIfInBounds p v) a.tmps,defers:=[] } U)(u:∀ W,D+2≤W.heap.size→I ag W→W.heap[D]?=some (.deferred (some []))→Q .normal { a with defers:={ target:=.collected D,args:=#[] }::a.defers } W)(s:∀ c aj W,D+2≤W.heap.size→aj <+: ag→j c aj W→W.heap[D]?=some (.deferred (some []))→c.wp P Q { a with defers:={ target:=.collected D,args:=#[] }::a.defers } W):(Code.rangeFunc g ps assign body).wp P Q a w:=by
 subst hD;exact(wpIn_wide (n:=3)).1 (xB rfl d_ hg trivial eg hX hY B aK L I j hI H h0 r u fun c aj W h1 h2 h3 h4=>wpIn_wide.2 (s c aj W h1 h2 h3 h4))
end
end
