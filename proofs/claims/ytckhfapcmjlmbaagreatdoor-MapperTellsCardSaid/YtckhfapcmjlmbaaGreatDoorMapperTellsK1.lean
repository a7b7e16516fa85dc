/- Lemmas for MapperTells: walks, plain laws. -/
import Derived.WalkKit
import Derived.WalkSpells
import Derived.WalkLawsBesides
import Derived.Lib.Strings
import Derived.Lib.Hide
import Derived.Deep.QuietTactic
import Derived.BigQuiet
import Derived.Deep.AppendLies
import Derived.Laws.AppendOwnNone
import Derived.Deep.RegionLaw
import Derived.Test.YtckhfapcmjlmbaaGreatDoorRows
import Derived.RangeFuncNested
import Derived.RangeFuncBound
import Derived.RangeFuncCalls
import Derived.RangeFuncLeaves
import Derived.Shelf.Abstract
set_option linter.unusedSimpArgs false
set_option linter.unusedVariables false
set_option maxRecDepth 100000
set_option maxHeartbeats 16000000
namespace Go.RowKit
theorem Hid.o {p:Prop}(h:Hid p):p:=h
end Go.RowKit
namespace Go.Proofs.YtckhfapcmjlmbaaGreatDoor
open Go.RowKit
abbrev Du := @List.length_cons
abbrev Dv := @Nat.lt_of_lt_of_le
abbrev Dw := @List.drop_eq_getElem_cons
abbrev Dx := @List.cons_append
abbrev Dy := @Nat.add_assoc
abbrev Dz := @List.take_succ_eq_append_getElem
abbrev DA := @Nat.le_of_lt
abbrev DB := @List.take_of_length_le
abbrev DC := @Nat.le_refl
abbrev DD := @List.eq_nil_of_length_eq_zero
abbrev DE := @Nat.zero_add
abbrev DF := @Below.refl
abbrev DG := @Nat.le_trans
abbrev DH := @List.getElem_cons_succ
abbrev DI := @Int.toNat_natCast
abbrev DJ := @List.map_append
abbrev DK := @List.append_assoc
abbrev DL := @List.length_append
abbrev DM := @List.mem_append
abbrev DN := @List.getElem_cons_zero
abbrev DO := @List.drop_succ_cons
abbrev DP := @List.drop_drop
abbrev DQ := @List.take_succ_cons
abbrev DR := @List.append_nil
abbrev DS := @Bool.and_eq_true
abbrev DT := @List.length_set
abbrev DU := @List.length_take
abbrev DV := @Nat.mul_le_mul_right
abbrev DW := @List.take_zero
abbrev DX := @List.drop_zero
abbrev DY := @List.getElem_mem
abbrev DZ := @List.mem_singleton
abbrev D2 := @List.mem_cons_self
abbrev D4 := @List.mem_cons_of_mem
abbrev D5 := @List.nil_append
abbrev D6 := @Nat.zero_le
abbrev D7 := @List.length_drop
abbrev D8 := @Nat.le_succ_of_le
abbrev D9 := @List.length_replicate
abbrev Ea := @List.length_singleton
abbrev Eb := @List.length_nil
abbrev Ec := @List.getElem_toArray
abbrev Ed := @List.length_map
abbrev Ee := @List.getElem_append_left
abbrev Ef := @List.drop_eq_nil_of_le
abbrev Bw_ (w w' : World) : Prop := Below w.heap.size w w'
abbrev LU_ := List UInt8
abbrev LL_ := List (List UInt8)
theorem zH {p : Prop} (h : p) : Hid p := h
theorem nn_ (k : Nat) : (0 : Int) ≤ (k : Int) := Int.natCast_nonneg k
theorem ex_ {α : Sort _} (a : α) : ∃ x, x = a := ⟨_, rfl⟩
end Go.Proofs.YtckhfapcmjlmbaaGreatDoor
namespace Go.Proofs.YtckhfapcmjlmbaaGreatDoor.Oct
def bs (l:List UInt8):ByteArray:=⟨l.toArray⟩
@[simp] theorem it (l:List UInt8):(bs l).data.toList=l:=by simp[bs]
@[go_sem,simp] theorem bA (l:List UInt8):(bs l).size=l.length:=by simp[bs,ByteArray.size]
theorem zG (s:ByteArray):bs s.data.toList=s:=by simp[bs]
theorem fF (a b:List UInt8):bs a++bs b=bs (a++b):=by
 apply ByteArray.ext;simp[bs]
def val:List UInt8→Nat
 | []=>0
 | c::l=>c.toNat+256*val l
theorem pH:∀ l:List UInt8,val l<256 ^ l.length
 | []=>by simp[val]
 | c::l=>by
  have:=pH l;have hc:=c.toNat_lt;simp only[val,Du,Nat.pow_succ];omega
theorem o5 {n m:Nat}(h:n≤m):256 ^ n≤256 ^ m:=Nat.pow_le_pow_right (by decide) h
theorem z6 (l:List UInt8)(h:l.length≤8):val l<18446744073709551616 :=
 Dv (pH l) (by have:=o5 h;simpa using this)
theorem ya (l:List UInt8)(k:Nat)(h:k<l.length):val (l.drop k)=l[k].toNat+256*val (l.drop (k+1)):=by
 rw[Dw h];rfl
def num:Nat→Nat→List UInt8
 | _,0=>[]
 | v,n+1=>UInt8.ofNat (v%256)::num (v / 256) n
@[go_sem,simp] theorem aX:∀ (n v:Nat),(num v n).length=n
 | 0,_=>rfl
 | n+1,v=>by simp[num,aX n]
theorem ng:∀ (n v:Nat),num v (n+1)=num v n++[UInt8.ofNat (v / 256 ^ n%256)]
 | 0,v=>by simp[num]
 | n+1,v=>by
  rw[num,ng n (v / 256),num];simp[Nat.pow_succ,Nat.div_div_eq_div_mul,Nat.mul_comm]
def lI (v n:Int):Bool:=decide (1≤n∧n≤8∧v.toNat<256 ^ n.toNat)
def l9 (v n:Int):List UInt8×Int:=if lI v n then (num v.toNat n.toNat,0) else ([],2)
def sj (l:List UInt8):Int×Int:=if 1≤l.length∧l.length≤8 then ((val l:Int),0) else (0,2)
theorem mC:∀ a b:List UInt8,val (a++b)=val a+256 ^ a.length*val b
 | [],b=>by simp[val]
 | c::a,b=>by
  simp only[Dx,val,mC a b,Du,Nat.pow_succ];rw[Nat.mul_add,Nat.mul_comm (256 ^ a.length) 256,Nat.mul_assoc,Dy]
theorem qF (l:List UInt8)(k:Nat)(h:k<l.length):val (l.take (k+1))=val (l.take k)+l[k].toNat*256 ^ k:=by
 rw[Dz h,mC];simp[val,Nat.min_eq_left (DA h),Nat.mul_comm]
theorem jV (n:Nat)(h:n<18446744073709551616):IntKind.u64.wrap (n:Int)=n:=IntWalk.u64_in _ (by omega)
theorem Cz (x c j:Nat)(hj:j<64)(hx:x<2 ^ j)(h:c*2 ^ j<18446744073709551616):bits .or .u64 (x:Int) (IntKind.u64.wrap (IntKind.u64.wrap (c:Int)*2 ^ j))=((x+c*2 ^ j:Nat):Int):=by
 have hp:0<2 ^ j:=Nat.two_pow_pos j;have hc:c≤c*2 ^ j:=Nat.le_mul_of_pos_right c hp;rw[jV c (by omega)];have e:((c:Int)*2 ^ j)=((c*2 ^ j:Nat):Int):=by simp
 have hx':x<18446744073709551616:=Nat.lt_trans hx (by have:=Nat.pow_lt_pow_right (a:=2) (by decide) hj;simpa using this);rw[e,jV _ h,bits_or_u64_nat x (c*2 ^ j) hx' h,Nat.or_comm,Nat.mul_comm c,←Nat.two_pow_add_eq_or_of_lt hx,Nat.add_comm]
def yl:Nat→Nat→List UInt8
 | 0,_=>[]
 | f+1,v=>if v<128 then [UInt8.ofNat v] else (UInt8.ofNat (v%128)+128)::yl f (v / 128)
def short (v:Nat):List UInt8:=yl 10 v
end Go.Proofs.YtckhfapcmjlmbaaGreatDoor.Oct
namespace Go.Proofs.YtckhfapcmjlmbaaGreatDoor
section
open Go.RowKit Oct
variable {P:Program}
theorem gI {k:IntKind}{a b:Int}(h:a=b):Value.int k a=.int k b:=by rw[h]
theorem A7 {a b:ByteArray}(h:a=b):Value.string a=.string b:=by rw[h]
theorem sw (src dst e:TypeId)(hs:P.underlying src=some (.slice e))(he:P.underlying e=some (.int .u8))(hd:P.underlying dst=some .string)(w:World)(x:Int):(convert src dst (.slice (some ⟨w.heap.size,0,none⟩) 1 1)).run P (w.alloc (.cells #[.int .u8 x] e))=.ok (.string (bs [UInt8.ofNat x.toNat])) (w.alloc (.cells #[.int .u8 x] e)):=by
 have:=run_convert_bytes_arg (P:=P) (w.alloc (.cells #[.int .u8 x] e)) src e hs he w.heap.size 0 1 1 [x] rfl (fun i hi=>by
  obtain rfl:i=0:=by omega
  simp[World.cell?_alloc_new]) dst hd
 exact this
@[go_sem] theorem zI (l:LU_) (k:Nat) (h:k<(bs l).size):(bs l)[k]'h=l[k]'(by simpa using h):=by
 have e:(bs l)[k]'h=(bs l).data.toList[k]'(by simpa using h):=by simp;rfl
 rw[e];simp
@[go_sem] theorem BK (l:LU_) (a b:Nat):(bs l).extract a b=bs ((l.drop a).take (b-a)):=by
 rw[Lib.extract_eq,it];rfl
@[go_sem] theorem zV (l:LU_) (n:Nat):(l.drop n).take (l.length-n)=l.drop n:=DB (by simp)
@[go_sem] theorem xC (l:LU_):(bs l).toList=l:=by rw[ByteArray.toList_eq,it]
@[go_sem] theorem B2 (a:Array UInt8):(ByteArray.mk a).toList=a.toList:=by rw[ByteArray.toList_eq]
attribute [go_sem] fF
theorem C9 (w:World)(n:Nat):Below w.heap.size w (w.drewN n):=⟨rfl,rfl,rfl,DC _,fun _ _=>rfl⟩
def aM (l:LU_):List Value:=l.map fun c=>.int .u8 (c.toNat:Int)
theorem lV (l:LU_)(c:UInt8):aM l++[.int .u8 (c.toNat:Int)]=aM (l++[c]):=by simp[aM]
theorem aV (l:LU_):(aM l).length=l.length:=by simp[aM]
theorem nL (src dst e:TypeId)(hs:P.underlying src=some (.slice e))(he:P.underlying e=some (.int .u8))(hd:P.underlying dst=some .string)(w:World)(bZ:Nat)(v:Value)(n:Nat)(l:LU_)(h:w.ownsRow bZ e 1 v n (aM l)):(convert src dst v).run P w=.ok (.string (bs l)) w:=by
 obtain⟨h1,h2⟩:=id h;rw[aV,Nat.mul_one]at h1;rcases h2 with ⟨rfl,h3⟩|⟨g,cap,cur,rfl,hg,hh,hc⟩
 ·have:l=[]:=DD (by omega)
  subst this;exact run_convert_bytes_nil w src e hs he 0 0 dst hd
 ·subst h1
  refine run_convert_bytes_back w src dst e ⟨g,0,none⟩ cap l hs he hd (fun j hj=>?_);have hx:=World.ownsRow.cells h (g:=g) rfl j (.int .u8 (l[j].toNat:Int)) (by simp[aM,List.getElem?_eq_getElem hj]);exact hx
theorem GX {T:Prop} (h:T:=by
 rw[Addr.add_lit,DE,World.cell?_alloc_new];simpa using hj
):T:=h
theorem Gj {T:Prop} (h:T:=by
 intro j u hj
 have:j<news.length:=by
  rcases Nat.lt_or_ge j news.length with h|h
  ·exact h
  ·simp[List.getElem?_eq_none h]at hj
 exact GX
):T:=h
theorem Eg {T:Prop} (h:T:=by
 exact Gj
):T:=h
theorem append1 {ops:Array Oper}{rest:List Oper}{o:Oper}{a:Act}{Q:Exit→Act→World→Prop}(wr:World)(news:List Value)(e:TypeId)(hgd:o.guard=none)(s x:Operand)(t:TypeId)(ho:o.op=.call { callee:=.builtin .append,args:=#[s,x],argTypes:=#[t,t] })(bZ:Nat)(z:Value)(size bytes:Nat)(ht:P.underlying t=some (.slice e))(hinfo:(P.info? e).map (fun i=>(i.zero,i.size,i.bytes))=some (some z,size,bytes))(hzs:z.cells.size=size)(hsz:0<size)(v:Value)(n:Nat)(xs:List Value)(hs:a.eval s=v)(hown:wr.ownsRow bZ e size v n xs)(c:Nat)(hx:a.eval x=.slice (some ⟨wr.heap.size,0,none⟩) 1 c)(hl:news.length=size)(h1:∀ u∈news,u.oneCell'=true)(hbytes:(n+1)*bytes≤140737488355328)(hby:0<bytes)(hbase:bZ≤wr.heap.size)(h:∀ v' w',w'.ownsRow bZ e size v' (n+1) (xs++news)→Below bZ wr w'→wpList P ops Q rest (a.put o.dst v') w'):wpList P ops Q (o::rest) a (wr.alloc (.cells news.toArray e)):=by
 obtain⟨i,hi,hz,hi1,hi2⟩:=info_parts hinfo;have hn:n+1≤(n+1)*bytes:=Nat.le_mul_of_pos_right _ hby;refine wpList_append_own _ hgd s x t ho bZ e i z size bytes ht hi hz hi1 hi2 hzs hsz v n xs hs (hown.alloc _) ⟨wr.heap.size,0,none⟩ 1 c news hx (by simpa using hl) ?_ h1 (by unfold maxLen;omega) hbytes (by simp;omega) ?_
 ·exact Eg
 ·intro v' w' h2 h3 _
  refine h v' w' h2 (((DF bZ wr).alloc hbase _).grown h3 (by simp;omega) ?_);intro k hk;exact(hown.lt k hk).1
theorem GI {T:Prop} (h:T:=by
 refine h g cap w' h2 (((DF bZ wr).alloc hbase _).grown h3 (by simp;omega) ?_);intro k hk;exact(hown.lt k hk).1
):T:=h
theorem kd {ops:Array Oper}{o:Oper}{a:Act}{K:Act→World→Prop}{Q:Exit→Act→World→Prop}{E:Prop}(wr:World)(news:List Value)(e:TypeId)(hgd:o.guard=none)(s x:Operand)(t:TypeId)(ho:o.op=.call { callee:=.builtin .append,args:=#[s,x],argTypes:=#[t,t] })(bZ:Nat)(z:Value)(size bytes:Nat)(ht:P.underlying t=some (.slice e))(hinfo:(P.info? e).map (fun i=>(i.zero,i.size,i.bytes))=some (some z,size,bytes))(hzs:z.cells.size=size)(hsz:0<size)(v:Value)(n:Nat)(xs:List Value)(hs:a.eval s=v)(hown:wr.ownsRow bZ e size v n xs)(c:Nat)(hx:a.eval x=.slice (some ⟨wr.heap.size,0,none⟩) 1 c)(hl:news.length=size)(h1:∀ u∈news,u.oneCell'=true)(hbytes:(n+1)*bytes≤140737488355328)(hby:0<bytes)(hbase:bZ≤wr.heap.size)(h:∀ g cap w',w'.ownsRow bZ e size (.slice (some ⟨g,0,none⟩) (n+1) cap) (n+1) (xs++news)→Below bZ wr w'→K (a.put o.dst (.slice (some ⟨g,0,none⟩) (n+1) cap)) w'):if Region.wanted o (yielded ops a.tmps)=true then Oper.wp P o a (wr.alloc (.cells news.toArray e)) K Q else E:=by
 obtain⟨i,hi,hz,hi1,hi2⟩:=info_parts hinfo;have hn:n+1≤(n+1)*bytes:=Nat.le_mul_of_pos_right _ hby;refine step_append_lies _ hgd s x t ho bZ e i z size bytes ht hi hz hi1 hi2 hzs hsz v n xs hs (hown.alloc _) ⟨wr.heap.size,0,none⟩ 1 c news hx (by simpa using hl) ?_ h1 (by decide) (by unfold maxLen;omega) hbytes (by simp;omega) _ rfl ?_
 ·exact Eg
 ·intro g cap w' h2 h3 _ _
  exact GI
theorem bD {w w':World}{bZ:Nat}{e:TypeId}{size:Nat}{v:Value}{n:Nat}{xs:List Value}(h:w.ownsRow bZ e size v n xs)(hB:Below w.heap.size w w'):w'.ownsRow bZ e size v n xs:=by
 obtain⟨h1,h2⟩:=h;refine⟨h1,?_⟩;rcases h2 with h2|⟨g,cap,cur,hv,hg,hh,r⟩
 ·exact Or.inl h2
 ·have hlt:g<w.heap.size:=by
   rcases Nat.lt_or_ge g w.heap.size with h|h
   ·exact h
   ·simp[Array.getElem?_eq_none h]at hh
  exact Or.inr ⟨g,cap,cur,hv,hg,(hB.block g hlt).trans hh,r⟩
theorem bt {a b c:World}(h:Below a.heap.size a b)(k:Below b.heap.size b c):Below a.heap.size a c:=h.trans (k.mono h.size)
theorem af (w:World)(o:Obj):Below w.heap.size w (w.alloc o):=(DF _ _).alloc (DC _) _
theorem b_drew (w:World):Below w.heap.size w w.drew:=(DF _ _).drew
theorem dM (w:World):Below w.heap.size w w:=DF _ _
theorem ap {w:World}{bZ:Nat}{e:TypeId}{size:Nat}{v:Value}{n:Nat}{xs:List Value}(h:w.ownsRow bZ e size v n xs):∃ a cap,v=.slice a n cap:=by
 rcases h.2 with ⟨hv,h0⟩|⟨g,cap,cur,hv,_⟩
 ·exact⟨none,0,by rw[hv,h0]⟩
 ·exact⟨_,_,hv⟩
theorem dF {w:World}{bZ base':Nat}{e:TypeId}{size:Nat}{v:Value}{n:Nat}{xs:List Value}(h:w.ownsRow bZ e size v n xs)(hb:base'≤bZ):w.ownsRow base' e size v n xs:=by
 obtain⟨h1,h2⟩:=h;refine⟨h1,?_⟩;rcases h2 with h2|⟨g,cap,cur,hv,hg,r⟩
 ·exact .inl h2
 ·exact .inr ⟨g,cap,cur,hv,DG hb hg,r⟩
theorem jg (w:World)(o p:Obj):((w.alloc o).alloc p).heap[w.heap.size]?=some o∧((w.alloc o).alloc p).heap[w.heap.size+1]?=some p∧Below w.heap.size w ((w.alloc o).alloc p):=by
 refine⟨?_,?_,((DF _ _).alloc (DC _) _).alloc (by simp) _⟩
 ·show((w.heap.push o).push p)[w.heap.size]?=some o
  simp[Array.getElem?_push]
 ·show((w.heap.push o).push p)[w.heap.size+1]?=some p
  rw[Array.getElem?_push,if_pos (by simp)]
def aJ (w:World)(v:Value)(n:Nat)(xs:List Value):Prop :=
 ∃ a cap,v=.slice a n cap∧(a=none→n=0∧cap=0)∧∀ j u,xs[j]?=some u→∃ b off,a=some ⟨b,off,none⟩∧w.cell? ⟨b,off+j,none⟩=some u
theorem aD {w:World}{a:Addr}{u:Value}(h:w.cell? a=some u):a.block<w.heap.size:=World.block_lt_of_cell? w a h
theorem C8 {w w':World}(hB:Below w.heap.size w w'){a:Addr}{u:Value}(h:w.cell? a=some u):w'.cell? a=some u :=
 (hB.cell (p:=a) (aD h)).trans h
theorem aJ.below {w w':World}{v:Value}{n:Nat}{xs:List Value}(h:aJ w v n xs)(hB:Below w.heap.size w w'):aJ w' v n xs:=by
 obtain⟨a,cap,hv,hn,hc⟩:=h;exact⟨a,cap,hv,hn,fun j u hj=>by obtain⟨b,off,ha,hu⟩:=hc j u hj;exact⟨b,off,ha,C8 hB hu⟩⟩
theorem Dd {w:World}{bZ:Nat}{e:TypeId}{size:Nat}{v:Value}{n:Nat}{xs:List Value}(h:w.ownsRow bZ e size v n xs):aJ w v n xs:=by
 rcases id h.2 with ⟨hv,h0⟩|⟨g,cap,cur,hv,_⟩
 ·refine⟨none,0,by rw[hv,h0],fun _=>⟨h0,rfl⟩,fun j u hj=>?_⟩
  have:=h.1;rw[h0,Nat.zero_mul]at this;rw[DD this]at hj;simp at hj
 ·refine⟨some ⟨g,0,none⟩,cap,hv,(by simp),fun j u hj=>⟨g,0,rfl,?_⟩⟩
  have:=World.ownsRow.cells h (g:=g) (by rw[hv];rfl) j u hj
  rwa [Addr.add_lit]at this
theorem aJ.nil (w:World):aJ w (.slice none 0 0) 0 []:=⟨none,0,rfl,fun _=>⟨rfl,rfl⟩,fun j u hj=>by simp at hj⟩
theorem aJ.new (w:World)(xs:List Value)(n:Nat)(e:TypeId)(c:Nat):aJ (w.alloc (.cells xs.toArray e)) (.slice (some ⟨w.heap.size,0,none⟩) n c) n xs :=
 ⟨_,_,rfl,(by simp),fun j u hj=>⟨_,_,rfl,by rw[DE,World.cell?_alloc_new];simpa using hj⟩⟩
theorem Gn {T:Prop} (h:T:=by
 intro j u hj;obtain⟨b,off,ha,hu⟩:=hc j u hj
 cases ha
 rw[Addr.add_lit];exact hu
):T:=h
theorem kQ {ops:Array Oper}{rest:List Oper}{o:Oper}{a:Act}{Q:Exit→Act→World→Prop}(w:World)(news:List Value)(e:TypeId)(hgd:o.guard=none)(s x:Operand)(t:TypeId)(ho:o.op=.call { callee:=.builtin .append,args:=#[s,x],argTypes:=#[t,t] })(bZ:Nat)(z:Value)(size bytes:Nat)(ht:P.underlying t=some (.slice e))(hinfo:(P.info? e).map (fun i=>(i.zero,i.size,i.bytes))=some (some z,size,bytes))(hzs:z.cells.size=size)(hsz:0<size)(v:Value)(n:Nat)(xs:List Value)(hs:a.eval s=v)(hown:w.ownsRow bZ e size v n xs)(vx:Value)(m:Nat)(hx:a.eval x=vx)(hr:aJ w vx m news)(hl:news.length=m*size)(h1:∀ u∈news,u.oneCell'=true)(hbytes:(n+m)*bytes≤140737488355328)(hby:0<bytes)(hbase:bZ≤w.heap.size)(h:∀ v' w',w'.ownsRow bZ e size v' (n+m) (xs++news)→Below bZ w w'→wpList P ops Q rest (a.put o.dst v') w'):wpList P ops Q (o::rest) a w:=by
 obtain⟨i,hi,hz,hi1,hi2⟩:=info_parts hinfo;have hn:n+m≤(n+m)*bytes:=Nat.le_mul_of_pos_right _ hby;obtain⟨ax,cap,rfl,hnone,hc⟩:=hr
 cases ax with
 | none =>
  obtain⟨rfl,rfl⟩:=hnone rfl;have hnil:news=[]:=DD (by simpa using hl);subst hnil;refine wpList_append_own_none hgd s x t ho bZ e i size ht hi v n xs hs hown hx ?_;have:=h v w (by simpa using hown) (DF _ _);exact this
 | some ad =>
  refine wpList_append_own _ hgd s x t ho bZ e i z size bytes ht hi hz hi1 hi2 hzs hsz v n xs hs hown ad m cap news hx hl ?_ h1 (by unfold maxLen;omega) hbytes hbase ?_
  ·exact Gn
  ·intro v' w' h2 h3 _
   refine h v' w' h2 ((DF bZ w).grown h3 hbase ?_);intro k hk;exact(hown.lt k hk).1
def bO (r:LL_):List Value:=r.map fun l=>.string (bs l)
theorem oJ (r:LL_)(k:Nat)(h:k<r.length):(bO r)[k]?=some (.string (bs r[k])):=by simp[bO,h]
theorem iJ (r:LL_)(l:LU_):bO r++[.string (bs l)]=bO (r++[l]):=by simp[bO]
theorem ba_ {w W:World}{o:Obj}(h:W=w.alloc o):Below w.heap.size w W:=by rw[h];exact af _ _
end
section
open Go.RowKit Oct
theorem lj:(Tryz.prog.info? 5).map (fun i=>(i.zero,i.size,i.bytes))=some (some (.int .u8 0),1,1):=by kernel_rfl
theorem CG (w:World)(x:Int):(convert 132 9 (.slice (some ⟨w.heap.size,0,none⟩) 1 1)).run Tryz.prog (w.alloc (.cells #[.int .u8 x] 5))=.ok (.string (bs [UInt8.ofNat x.toNat])) (w.alloc (.cells #[.int .u8 x] 5)):=sw (P:=Tryz.prog) 132 9 5 Tryz.underlying132 Tryz.underlying5 Tryz.underlying9 w x
theorem vQ (s:ByteArray)(w:World)(hs:s.size≤8):Calls Tryz.prog 158 #[.string s] w fun e w'=>e=.returned (.int .u64 (val s.data.toList))∧w=w':=by
 go_enter Tryz.func158,Tryz.ntmps158;go_wp2
 go_loop [3,4] (fun v i=>∃ k:Nat,k≤s.size∧i=.int .i64 ((k:Int)-1)∧v=.int .u64 (val (s.data.toList.drop k))) (fun _ i=>(intOf i+1).toNat)
 case atStart=>exact⟨s.size,DC _,rfl,gI (by rw[List.drop_of_length_le (by simp)];rfl)⟩
 case round =>
  obtain⟨k,hk,rfl,rfl⟩:=hrel;have hl:s.data.toList.length=s.size:=by simp
  by_cases h0:0<k
  ·obtain⟨j,rfl⟩:∃ j,k=j+1:=⟨k-1,by omega⟩
   have hd:=Hid.o (ya s.data.toList j (by omega));have hb:=z6 (s.data.toList.drop j) (by simp;omega);have hc:=s[j].toNat_lt
   have H:Hid ((IntKind.u64.wrap (IntKind.u64.wrap (↑(val (s.data.toList.drop (j+1)))*256)+IntKind.u64.wrap (s[j].toNat:Int)))=(val (s.data.toList.drop j):Int)):=by
    have e:(s.data.toList[j]'(by omega))=s[j]:=by simp;rfl
    rw[e]at hd;rw[hd]at hb⊢;rw[IntWalk.u64_in (_*256) (by omega),IntWalk.u64_in (s[j].toNat:Int) (by omega),IntWalk.u64_in _ (by omega)];show _=_;omega
   clear hd hb hc;go_wp2
   go_round
   case rel=>exact⟨j,by omega,rfl,gI H.o⟩
   case measure=>simp[intOf]
  ·obtain rfl:k=0:=by omega
   go_wp2;go_ret;exact⟨by simp,rfl⟩
theorem kB (v n:Int)(w:World)(h1:0≤n)(h2:n≤8)(h3:0≤v)(h4:v<18446744073709551616):Calls Tryz.prog 89 #[.int .u64 v,.int .i64 n] w fun e w'=>e=.returned (.string (bs (num v.toNat n.toNat)))∧Bw_ w w':=by
 have hcv:=CG;go_enter Tryz.func89,Tryz.ntmps89;go_wp2
 go_loopw [0,5,6] (fun u s i wr=>∃ k:Nat,∃ x:Nat,∃ l:LU_,(k:Int)≤n∧i=.int .i64 k∧u=.int .u64 x∧x<18446744073709551616∧s=.string (bs l)∧l.length≤k∧Hid (x=v.toNat / 256 ^ k∧l=num v.toNat k)∧Below w.heap.size w wr) (fun _ _ i _=>(n-intOf i).toNat)
 case atStart=>exact⟨0,v.toNat,[],by omega,rfl,gI (by omega),by omega,rfl,by simp,⟨by simp,rfl⟩,DF _ _⟩
 case round =>
  obtain⟨k,x,l,hk,rfl,rfl,hx,rfl,hl,hH,hB⟩:=hrel
  by_cases h0:(k:Int)<n
  ·go_wp2
   go_roundw
   case rel =>
    obtain⟨rfl,rfl⟩:=hH.o;exact⟨k+1,_,_,by omega,by go_num,by go_num,Nat.lt_of_le_of_lt (Nat.div_le_self _ _) hx,rfl,by simp,⟨by rw[Nat.pow_succ,Nat.div_div_eq_div_mul],by rw[ng]⟩,hB.alloc hB.size _⟩
   case measure=>simp[intOf];omega
  ·obtain rfl:n=k:=by omega
   go_wp2;go_ret;obtain⟨_,rfl⟩:=hH.o;exact⟨rfl,hB⟩
def cb (v k:Nat):Array Value:=((num v k).map (fun c=>Value.int .u8 (c.toNat:Int))++List.replicate (8-k) (Value.int .u8 0)).toArray
theorem BH (v k:Nat)(h:k<8):(cb v k)[k]?=some (.int .u8 0):=by
 simp[cb,List.getElem?_append,aX,List.getElem?_replicate];omega
theorem CH (v k j:Nat)(h:j<k):(cb v k)[j]?=some (.int .u8 (((num v k)[j]'(by rw[aX];exact h)).toNat:Int)):=by
 have hl:j<(num v k).length:=by rw[aX];exact h
 simp[cb,List.getElem?_append,aX,h,hl]
theorem za (v m n j:Nat)(h:m≤n)(hj:j<m):(num v n)[j]'(by rw[aX];omega)=(num v m)[j]'(by rw[aX];omega):=by
 induction m generalizing v n j with
 | zero=>omega
 | succ m ih =>
  obtain⟨n,rfl⟩:∃ n',n=n'+1:=⟨n-1,by omega⟩
  cases j with
  | zero=>simp[num]
  | succ j=>simp only[num,DH];exact ih _ _ _ (by omega) (by omega)
theorem AU (v:Int)(k:Nat)(h:k<8)(h0:0≤v):(cb v.toNat k).setIfInBounds k (Value.int IntKind.u8 (v / 2 ^ (8*k)%256))=cb v.toNat (k+1):=by
 obtain⟨v,rfl⟩:=Int.eq_ofNat_of_zero_le h0
 have e:((v:Int) / 2 ^ (8*k)%256)=(((UInt8.ofNat (v / 256 ^ k%256)).toNat:Nat):Int):=by
  have:(2:Int) ^ (8*k)=((256 ^ k:Nat):Int):=by rw[Int.pow_mul];simp
  rw[this];simp
 rw[e];simp only[cb,DI,List.setIfInBounds_toArray,ng,DJ,DK];congr 1;rw[List.set_append_right _ _ (by simp[aX])];obtain⟨m,hm⟩:∃ m,8-k=m+1:=⟨7-k,by omega⟩
 have hm':8-(k+1)=m:=by omega
 simp[aX,hm,hm',List.replicate_succ]
theorem jq (v n:Int)(w:World)(h1:1≤n)(h2:n≤8)(h3:0≤v)(h4:v<18446744073709551616):Calls Tryz.prog 85 #[.int .u64 v,.int .i64 n] w fun e w'=>e=.returned (.string (bs (num v.toNat n.toNat)))∧Bw_ w w':=by
 obtain⟨m,rfl⟩:=Int.eq_ofNat_of_zero_le (show 0≤n by omega)
 have hfin:∀ c,(convert 132 9 (.slice (some ⟨w.heap.size,0,none⟩) m c)).run Tryz.prog (w.alloc (.cells (cb v.toNat 8) 205))=.ok (.string (bs (num v.toNat m))) (w.alloc (.cells (cb v.toNat 8) 205)):=by
  intro c
  have:=run_convert_bytes_back (P:=Tryz.prog) (w.alloc (.cells (cb v.toNat 8) 205)) 132 9 5 ⟨w.heap.size,0,none⟩ c (num v.toNat m) Tryz.underlying132 Tryz.underlying5 Tryz.underlying9 (fun j hj=>by
   rw[aX]at hj;have:=CH v.toNat 8 j (by omega);simp[World.cell?_alloc_new,Addr.add_lit,this,za v.toNat m 8 j (by omega) hj])
  rw[aX]at this;exact this
 go_enter Tryz.func85,Tryz.ntmps85;go_wp2
 go_loopw [7] (fun i wr=>∃ k:Nat,k≤8∧i=.int .i64 k∧wr=w.alloc (.cells (cb v.toNat k) 205)) (fun i _=>(8-intOf i).toNat)
 case atStart=>exact⟨0,by omega,rfl,rfl⟩
 case round =>
  obtain⟨k,hk,rfl,rfl⟩:=hrel
  by_cases h0:(k:Int)<8
  ·have hc:=BH v.toNat k (by omega)
   go_wp2;go_roundw
   case rel=>exact⟨k+1,by omega,by go_num,by rw[AU v k (by omega) h3]⟩
   case measure=>simp[intOf];omega
  ·obtain rfl:k=8:=by omega
   go_wp2;go_ret;exact⟨rfl,(DF _ _).alloc (DC _) _⟩
end
section
open Go.RowKit
structure Chg (X:Nat→Prop) (w w':World):Prop where
 os:w'.os=w.os
 tape:w'.tape=w.tape
 output:w'.output=w.output
 size:w.heap.size≤w'.heap.size
 block:∀ k,k<w.heap.size→¬X k→w'.heap[k]?=w.heap[k]?
theorem Chg.refl (X:Nat→Prop)(w:World):Chg X w w:=⟨rfl,rfl,rfl,DC _,fun _ _ _=>rfl⟩
theorem Chg.trans {X:Nat→Prop}{a b c:World}(h:Chg X a b)(k:Chg X b c):Chg X a c :=
 ⟨k.os.trans h.os,k.tape.trans h.tape,k.output.trans h.output,DG h.size k.size,fun i hi hx=>(k.block i (Dv hi h.size) hx).trans (h.block i hi hx)⟩
theorem Chg.mono {X X':Nat→Prop}{w w':World}(h:Chg X w w')(hx:∀ k,X k→X' k):Chg X' w w':=⟨h.os,h.tape,h.output,h.size,fun k hk hn=>h.block k hk fun hxk=>hn (hx k hxk)⟩
theorem Da {X:Nat→Prop}{w w':World}(h:Below w.heap.size w w'):Chg X w w':=⟨h.os,h.tape,h.output,h.size,fun k hk _=>h.block k hk⟩
theorem Dn {X:Nat→Prop}{B:Nat}{w w':World}(h:Below B w w')(hX:∀ k,B≤k→X k):Chg X w w' :=
 ⟨h.os,h.tape,h.output,h.size,fun k hk hn=>h.block k (Nat.lt_of_not_le fun hb=>hn (hX k hb))⟩
theorem Chg.below {X:Nat→Prop}{B:Nat}{w w':World}(h:Chg X w w')(hX:∀ k,X k→B≤k)(hB:B≤w.heap.size):Below B w w' :=
 ⟨h.os,h.tape,h.output,h.size,fun k hk=>h.block k (Dv hk hB) fun hx=>by have:=hX k hx;omega⟩
theorem Chg.alloc (X:Nat→Prop)(w:World)(o:Obj):Chg X w (w.alloc o):=Da (af w o)
theorem Chg.drew (X:Nat→Prop)(w:World):Chg X w w.drew:=Da (b_drew w)
theorem Chg.setCell {X:Nat→Prop}(w:World)(a:Addr)(u:Value)(h:X a.block):Chg X w (w.setCell a u) :=
 ⟨rfl,rfl,rfl,by simp[World.setCell],fun k _ hn=>Below.heap_setCell _ _ _ _ fun e=>hn (e▸h)⟩
theorem Chg.putObj {X:Nat→Prop}(w:World)(l:Nat)(o:Obj)(h:X l):Chg X w (w.putObj l o) :=
 ⟨rfl,rfl,rfl,by simp,fun k _ hn=>World.putObj_heap_other fun e=>hn (e▸h)⟩
theorem Chg.at {X:Nat→Prop}{w w':World}(h:Chg X w w'){k:Nat}{o:Obj}(hk:w.heap[k]?=some o)(hn:¬X k):w'.heap[k]?=some o :=
 (h.block k (Array.getElem?_eq_some_iff.1 hk).1 hn).trans hk
theorem Chg.cell {X:Nat→Prop}{w w':World}(h:Chg X w w'){a:Addr}{u:Value}(ha:w.cell? a=some u)(hn:¬X a.block):w'.cell? a=some u :=
 (World.cell?_of_block (w:=w) (h.block a.block (aD ha) hn)).trans ha
section
variable {F:Fence}{n:Nat}{P:Program}{α:Type}
def sQ (F:Fence)(n:Nat)(P:Program)(gf:Nat)(lb:Array Value)(X Y:Nat→Prop)(El:α→Array Value→World→Prop)(out:List α)(W:World):Prop :=
 ∀ (l:Nat) (J Jx:List α→World→Prop),
  (∀ pre U U',J pre U→Chg X U U'→J pre U')→(∀ pre U U',Jx pre U→Chg X U U'→Jx pre U') →
  (∀ pre x vs U,J pre U→El x vs U→pre++[x] <+: out→YieldAt F (n-1) P l vs U fun e U' =>
   (e=.returned (.bool true)∧J (pre++[x]) U'∧Chg (fun k=>¬Y k) U U')∨(e=.returned (.bool false)∧Jx (pre++[x]) U')) →
  J [] W→CallsIn F n P gf (#[.func (.yield l) #[] #[]]++lb) W fun e W'=>(∃ v,e=.returned v)∧(J out W'∨∃ pre,pre <+: out∧Jx pre W')
def ro (D:Nat)(Y:Nat→Prop)(I:List α→World→Prop)(Ix:Code→List α→World→Prop)(pre:List α)(U:World):Exit→Act→World→Prop
 | .normal,_,U'=>Chg (fun k=>¬(Y k∨k=D∨k=D+1)) U U'∧I pre U'
 | .ret,_,U'=>Chg (fun k=>¬(k=D∨k=D+1)) U U'∧Ix .ret pre U'
 | .exit id,_,U'=>Chg (fun k=>¬(k=D∨k=D+1)) U U'∧Ix (.exit id) pre U'
 | .goto t,_,U'=>Chg (fun k=>¬(k=D∨k=D+1)) U U'∧Ix (.goto t) pre U'
 | .panic _,_,_=>False
 | .outgrown,_,_=>False
theorem GN {T:Prop} (h:T:=by
 intro f' hf';simp[Target.leads]at hf';subst hf';exact hFg
):T:=h
theorem GW {T:Prop} (h:T:=by
 rw[←hW1,hrec];exact run_enterLoop_outer _ _ _ _ _
):T:=h
theorem sV {g:Operand}{ps:Array Tmp}{assign body:Code}{Q:Exit→Act→World→Prop}{a:Act}{w:World}(hro:F.round=none)(h1:1≤n){gf:Nat}{lb:Array Value}(hg:a.eval g=.func (.func gf) #[] lb)(hFg:F.fn gf)(eg:∀ args w,(callFunc gf args).run P w=.ok (.enter gf args) w){X Y:Nat→Prop}{El:α→Array Value→World→Prop}{out:List α}(hX:∀ k,X k→k<w.heap.size)(hY:∀ k,Y k→k<w.heap.size)(hseq:∀ W,Below w.heap.size w W→sQ F (n-1) P gf lb X Y El out W)(hps:∀ x vs U,El x vs U→vs.size=ps.size)(hEl:∀ x vs U U',El x vs U→Chg (fun k=>k=w.heap.size∨k=w.heap.size+1) U U'→El x vs U')(I:List α→World→Prop)(Ix:Code→List α→World→Prop)(hI:∀ pre U U',I pre U→Chg (fun k=>X k∨k=w.heap.size∨k=w.heap.size+1) U U'→I pre U')(hIx:∀ c pre U U',Ix c pre U→Chg (fun k=>X k∨k=w.heap.size∨k=w.heap.size+1) U U'→Ix c pre U')(h0:I [] w)(hround:∀ (l:Nat) (pre:List α) (x:α) (vs:Array Value) (U:World),w.heap.size+2≤U.heap.size→I pre U→El x vs U→pre++[x] <+: out → assign.wpIn (F.inRound l) (n-1-1) P (Exit.then (fun a' U1=>Below U.heap.size U U1∧∀ U2,w.heap.size+2≤U2.heap.size→I pre U2→El x vs U2→Chg (fun k=>k=w.heap.size∨k=w.heap.size+1) U1 U2 → body.wpIn (F.inRound l) (n-1-1) P (ro w.heap.size Y I Ix (pre++[x]) U2) a' U2) (fun _ _ _=>False)) { tmps:=(ps.zip vs).foldl (fun t (p,v)=>t.setIfInBounds p v) a.tmps,defers:=[] } U)(hdone:∀ W,w.heap.size+2≤W.heap.size→I out W→W.heap[w.heap.size]?=some (.deferred (some []))→Q .normal { a with defers:={ target:=.collected w.heap.size,args:=#[] }::a.defers } W)(hstop:∀ c pre W,w.heap.size+2≤W.heap.size→pre <+: out→Ix c pre W→W.heap[w.heap.size]?=some (.deferred (some []))→c.wpIn F n P Q { a with defers:={ target:=.collected w.heap.size,args:=#[] }::a.defers } W):(Code.rangeFunc g ps assign body).wpIn F n P Q a w:=by
 refine wpIn_rangeFunc fun fn hfn=>?_;rw[hro];obtain⟨rec,hrec⟩:∃ rec:LoopState→Option Code→Loop,rec=fun st pe=>{ state:=st,pending:=pe,fn,tmps:=a.tmps,params:=ps,assign,body,defers:=w.heap.size }:=⟨_,rfl⟩
 obtain⟨W1,hW1⟩:∃ W1,(w.alloc (.deferred (some []))).alloc (.loop (rec .ready none))=W1:=⟨_,rfl⟩
 obtain⟨hK1,hL1,hb1⟩:=jg w (.deferred (some [])) (.loop (rec .ready none));rw[hW1]at hK1 hL1 hb1;have hsz1:w.heap.size+2≤W1.heap.size:=by have:=(Array.getElem?_eq_some_iff.1 hL1).1;omega
 refine⟨w.heap.size+1,[{ target:=.collected w.heap.size,args:=#[] }],W1,{ target:=.fn (.func gf) lb,args:=#[.func (.yield (w.heap.size+1)) #[] #[]] },W1,gf,
  #[.func (.yield (w.heap.size+1)) #[] #[]]++lb,W1,?_,?_,?_,?_,fun _=>h1,?_⟩
 ·exact GW
 ·simp only[resolve,hg]
  simp[go_sem]
 ·exact GN
 ·simp[invoke,go_sem,eg]
 have xD:∀ k,X k→k≠w.heap.size∧k≠w.heap.size+1:=fun k hk=>by have:=hX k hk;omega
 have keep:∀ {U U':World} {o o':Obj},Chg X U U'→U.heap[w.heap.size+1]?=some o→U.heap[w.heap.size]?=some o'→U'.heap[w.heap.size+1]?=some o∧U'.heap[w.heap.size]?=some o' :=
  fun hc h h'=>⟨hc.at h fun hx=>(xD _ hx).2 rfl,hc.at h' fun hx=>(xD _ hx).1 rfl⟩
 refine(hseq W1 hb1 (w.heap.size+1)
  (fun pre U=>I pre U∧U.heap[w.heap.size+1]?=some (.loop (rec .ready none))∧U.heap[w.heap.size]?=some (.deferred (some [])))
  (fun pre U=>∃ c,Ix c pre U∧U.heap[w.heap.size+1]?=some (.loop (rec .done (some c)))∧U.heap[w.heap.size]?=some (.deferred (some [])))
  (fun pre U U' hs hc=>⟨hI _ _ _ hs.1 (hc.mono fun _ h=>.inl h),keep hc hs.2.1 hs.2.2⟩)
  (fun pre U U' ⟨c,hs,hl,hk⟩ hc=>⟨c,hIx _ _ _ _ hs (hc.mono fun _ h=>.inl h),keep hc hl hk⟩)
  ?_ ⟨hI _ _ _ h0 (Da hb1),hL1,hK1⟩).mono ?_
 ·rintro pre x vs U ⟨hi,hl,hk⟩ hel hpre
  have hy:=run_yield (P:=P) (args:=vs) hl (by rw[hrec];exact hps x vs U hel);rw[hrec]at hy;refine⟨fn,_,assign,body,hy,roundIn_of_wpIn hfn (wpIn_mono (hround _ pre x vs U (by have:=(Array.getElem?_eq_some_iff.1 hl).1;omega) hi hel hpre) ?_)⟩;clear hy;intro ea a' U1 hea
  cases ea with
  | normal=>?_
  | _=>exact hea
  obtain⟨hbel,hbody⟩:=hea;have c1:∀ {Z:Nat→Prop},Chg Z U U1:=fun {Z}=>Da hbel;replace hl:=c1.at (X:=fun _=>False) hl (fun h=>h);replace hk:=c1.at (X:=fun _=>False) hk (fun h=>h);replace hi:=hI _ _ _ hi c1;replace hel:=hEl _ _ _ _ hel c1;have hlt:=(Array.getElem?_eq_some_iff.1 hl).1;refine⟨_,run_beginRound hl (by rw[hrec]),?_⟩;obtain⟨U2,hU2⟩:∃ U2,U1.putObj (w.heap.size+1) (.loop { rec .ready none with state:=.busy })=U2:=⟨_,rfl⟩
  have hl2:U2.heap[w.heap.size+1]?=some (.loop { rec .ready none with state:=.busy }):=by rw[←hU2];exact World.putObj_heap_same hlt
  have hk2:U2.heap[w.heap.size]?=some (.deferred (some [])):=by rw[←hU2];exact(World.putObj_heap_other (by omega)).trans hk
  have c2:∀ {Z:Nat→Prop},Z (w.heap.size+1)→Chg Z U1 U2:=fun {Z} hz=>by rw[←hU2];exact Chg.putObj _ _ _ hz
  rw[hU2];refine wpIn_mono (hbody U2 (by have:=(Array.getElem?_eq_some_iff.1 hl2).1;omega) (hI _ _ _ hi (c2 (.inr (.inr rfl)))) (hEl _ _ _ _ hel (c2 (.inr rfl))) (c2 (.inr rfl))) ?_
  have fin:∀ (jump:Option Code) (U3:World),U3.heap[w.heap.size+1]?=some (.loop { rec .ready none with state:=.busy })→U3.heap[w.heap.size]?=some (.deferred (some [])) →
    (Instr.endRound (w.heap.size+1) jump).run P U3=.ok (.bool jump.isNone) (U3.putObj (w.heap.size+1) (.loop (rec (if jump.isNone then .ready else .done) jump))) ∧
    (U3.putObj (w.heap.size+1) (.loop (rec (if jump.isNone then .ready else .done) jump))).heap[w.heap.size+1]?=some (.loop (rec (if jump.isNone then .ready else .done) jump)) ∧
    (U3.putObj (w.heap.size+1) (.loop (rec (if jump.isNone then .ready else .done) jump))).heap[w.heap.size]?=some (.deferred (some [])):=fun jump U3 hl3 hk3=>by
   have:=run_endRound (P:=P) jump hl3;rw[hrec]at this⊢;exact⟨this,World.putObj_heap_same (Array.getElem?_eq_some_iff.1 hl3).1,(World.putObj_heap_other (by omega)).trans hk3⟩
  have stop:∀ (c:Code) (U3:World),Chg (fun k=>¬(k=w.heap.size∨k=w.heap.size+1)) U2 U3→Ix c (pre++[x]) U3→∃ v U4,(Instr.endRound (w.heap.size+1) (some c)).run P U3=.ok v U4 ∧
    ((Ending.returned v=.returned (.bool true)∧(I (pre++[x]) U4∧U4.heap[w.heap.size+1]?=some (.loop (rec .ready none))∧U4.heap[w.heap.size]?=some (.deferred (some [])))∧Chg (fun k=>¬Y k) U U4) ∨
     (Ending.returned v=.returned (.bool false)∧∃ c,Ix c (pre++[x]) U4∧U4.heap[w.heap.size+1]?=some (.loop (rec .done (some c)))∧U4.heap[w.heap.size]?=some (.deferred (some [])))):=fun c U3 hc hx=>by
   obtain⟨hr,hl4,hk4⟩:=fin (some c) U3 (hc.at hl2 fun h=>h (.inr rfl)) (hc.at hk2 fun h=>h (.inl rfl));exact⟨_,_,hr,.inr ⟨rfl,c,hIx _ _ _ _ hx (Chg.putObj _ _ _ (.inr (.inr rfl))),hl4,hk4⟩⟩
  rintro e a3 U3 hp
  cases e with
  | normal =>
   obtain⟨hc,hi3⟩:=hp;obtain⟨hr,hl4,hk4⟩:=fin none U3 (hc.at hl2 fun h=>h (.inr (.inr rfl))) (hc.at hk2 fun h=>h (.inr (.inl rfl)));have yD:¬Y (w.heap.size+1):=fun h=>by have:=hY _ h;omega
   exact⟨_,_,hr,.inl ⟨rfl,⟨hI _ _ _ hi3 (Chg.putObj _ _ _ (.inr (.inr rfl))),hl4,hk4⟩,
    (((c1.trans (c2 yD)).trans (hc.mono fun k hk hy=>hk (.inl hy))).trans (Chg.putObj _ _ _ yD))⟩⟩
  | ret=>exact stop .ret U3 hp.1 hp.2
  | exit id=>exact stop (.exit id) U3 hp.1 hp.2
  | goto t=>exact stop (.goto t) U3 hp.1 hp.2
  | panic ch=>exact hp.elim
  | outgrown=>exact hp.elim
 ·rintro e W2 ⟨⟨v,rfl⟩,(⟨hi,hl,hk⟩|⟨pre,hpre,c,hi,hl,hk⟩)⟩
  ·have hlt:=(Array.getElem?_eq_some_iff.1 hl).1
   exact⟨none,_,by have:=run_endLoop (P:=P) hl (by rw[hrec];simp);rw[hrec]at this;exact this,hdone _ (by simp;omega) (hI _ _ _ hi (Chg.putObj _ _ _ (.inr (.inr rfl)))) ((World.putObj_heap_other (by omega)).trans hk)⟩
  ·have hlt:=(Array.getElem?_eq_some_iff.1 hl).1
   exact⟨some c,_,by have:=run_endLoop (P:=P) hl (by rw[hrec];simp);rw[hrec]at this;exact this,hstop c pre _ (by simp;omega) hpre (hIx _ _ _ _ hi (Chg.putObj _ _ _ (.inr (.inr rfl)))) ((World.putObj_heap_other (by omega)).trans hk)⟩
theorem qy {g:Operand}{ps:Array Tmp}{assign body:Code}{Q:Exit→Act→World→Prop}{a:Act}{w:World}{D:Nat}(hD:w.heap.size=D){gf:Nat}{lb:Array Value}(hg:a.eval g=.func (.func gf) #[] lb)(eg:∀ args w,(callFunc gf args).run P w=.ok (.enter gf args) w){X Y:Nat→Prop}{El:α→Array Value→World→Prop}{out:List α}(hX:∀ k,X k→k<D)(hY:∀ k,Y k→k<D)(hseq:∀ W,Below D w W→sQ Fence.wide 2 P gf lb X Y El out W)(hps:∀ x vs U,El x vs U→vs.size=ps.size)(hEl:∀ x vs U U',El x vs U→Chg (fun k=>k=D∨k=D+1) U U'→El x vs U')(I:List α→World→Prop)(Ix:Code→List α→World→Prop)(hI:∀ pre U U',I pre U→Chg (fun k=>X k∨k=D∨k=D+1) U U'→I pre U')(hIx:∀ c pre U U',Ix c pre U→Chg (fun k=>X k∨k=D∨k=D+1) U U'→Ix c pre U')(h0:I [] w)(hround:∀ (l:Nat) (pre:List α) (x:α) (vs:Array Value) (U:World),D+2≤U.heap.size→I pre U→El x vs U→pre++[x] <+: out → assign.wpIn (Fence.wide.inRound l) 1 P (Exit.then (fun a' U1=>Below U.heap.size U U1∧∀ U2,D+2≤U2.heap.size→I pre U2→El x vs U2→Chg (fun k=>k=D∨k=D+1) U1 U2 → body.wpIn (Fence.wide.inRound l) 1 P (ro D Y I Ix (pre++[x]) U2) a' U2) (fun _ _ _=>False)) { tmps:=(ps.zip vs).foldl (fun t (p,v)=>t.setIfInBounds p v) a.tmps,defers:=[] } U)(hdone:∀ W,D+2≤W.heap.size→I out W→W.heap[D]?=some (.deferred (some []))→Q .normal { a with defers:={ target:=.collected D,args:=#[] }::a.defers } W)(hstop:∀ c pre W,D+2≤W.heap.size→pre <+: out→Ix c pre W→W.heap[D]?=some (.deferred (some []))→c.wp P Q { a with defers:={ target:=.collected D,args:=#[] }::a.defers } W):(Code.rangeFunc g ps assign body).wp P Q a w:=by
 subst hD;exact(wpIn_wide (n:=3)).1 (sV rfl (by decide) hg trivial eg hX hY hseq hps hEl I Ix hI hIx h0 hround hdone fun c pre W h1 h2 h3 h4=>wpIn_wide.2 (hstop c pre W h1 h2 h3 h4))
end
end
