/- Lemmas for DeltaJobs: walks, plain laws. -/
import Derived.WalkKit
import Derived.WalkSpells
import Derived.WalkLawsBesides
import Derived.Lib.Strings
import Derived.Lib.Hide
import Derived.Deep.QuietTactic
import Derived.BigQuiet
import Derived.Deep.AppendLies
import Derived.Laws.AppendOwnNone
import Derived.Deep.RegionLaw
import Derived.Test.YtehllcbnheicoaaGreatDoorRows
import Derived.StillTail
import Derived.OrdersIn
import Derived.TacticsIn
import Derived.AtR
set_option linter.unusedSimpArgs false
set_option linter.unusedVariables false
set_option maxRecDepth 100000
set_option maxHeartbeats 16000000
namespace Go.RowKit
theorem Hid.o {p:Prop}(h:Hid p):p:=h
end Go.RowKit
namespace Go.Proofs.YtehllcbnheicoaaGreatDoor
open Go.RowKit
abbrev Ea := @List.length_cons
abbrev Eb := @Nat.lt_of_lt_of_le
abbrev Ec := @List.drop_eq_getElem_cons
abbrev Ed := @List.cons_append
abbrev Ee := @Nat.add_assoc
abbrev Ef := @List.take_succ_eq_append_getElem
abbrev Eg := @Nat.le_of_lt
abbrev Eh := @List.take_of_length_le
abbrev Ei := @Nat.le_refl
abbrev Ej := @List.eq_nil_of_length_eq_zero
abbrev Ek := @Nat.zero_add
abbrev Em := @Below.refl
abbrev En := @Nat.le_trans
abbrev Ep := @List.append_nil
abbrev Er := @List.mem_cons_self
abbrev Es := @List.mem_cons_of_mem
abbrev Et := @List.append_assoc
abbrev Eu := @List.nil_append
abbrev Ev := @List.length_append
abbrev Ew := @List.length_drop
abbrev Ex := @List.drop_eq_nil_of_le
abbrev Ey := @List.mem_append
abbrev Ez := @List.getElem_cons_zero
abbrev EA := @List.drop_succ_cons
abbrev EC := @List.drop_drop
abbrev ED := @List.take_succ_cons
abbrev EE := @Bool.and_eq_true
abbrev EF := @List.take_zero
abbrev EG := @Nat.zero_le
abbrev EH := @Nat.le_succ_of_le
abbrev EI := @List.length_set
abbrev EJ := @List.length_take
abbrev EK := @Nat.mul_le_mul_right
abbrev EL := @List.drop_zero
abbrev EM := @List.getElem_mem
abbrev EN := @List.mem_singleton
abbrev EO := @List.map_append
abbrev EP := @Int.toNat_natCast
abbrev EQ := @List.length_replicate
abbrev ER := @List.getElem_cons_succ
abbrev ES := @List.length_singleton
abbrev ET := @List.length_nil
abbrev EU := @List.getElem_toArray
abbrev EV := @List.length_map
abbrev EW := @List.mem_cons
abbrev EX := @List.getElem_append_left
abbrev EY := @List.getElem_append_right
abbrev Bw_ (w w' : World) : Prop := Below w.heap.size w w'
abbrev LU_ := List UInt8
abbrev LL_ := List (List UInt8)
theorem zH {p : Prop} (h : p) : Hid p := h
theorem nn_ (k : Nat) : (0 : Int) ≤ (k : Int) := Int.natCast_nonneg k
theorem ex_ {α : Sort _} (a : α) : ∃ x, x = a := ⟨_, rfl⟩
end Go.Proofs.YtehllcbnheicoaaGreatDoor
namespace Go.Proofs.YtehllcbnheicoaaGreatDoor.Oct
def bs (l:List UInt8):ByteArray:=⟨l.toArray⟩
@[simp] theorem jY (l:List UInt8):(bs l).data.toList=l:=by simp[bs]
@[go_sem,simp] theorem bY (l:List UInt8):(bs l).size=l.length:=by simp[bs,ByteArray.size]
theorem B2 (s:ByteArray):bs s.data.toList=s:=by simp[bs]
theorem jZ (a b:List UInt8):bs a++bs b=bs (a++b):=by
 apply ByteArray.ext;simp[bs]
def val:List UInt8→Nat
 | []=>0
 | c::l=>c.toNat+256*val l
theorem tU:∀ l:List UInt8,val l<256 ^ l.length
 | []=>by simp[val]
 | c::l=>by
  have:=tU l;have hc:=c.toNat_lt;simp only[val,Ea,Nat.pow_succ];omega
theorem xK {n m:Nat}(h:n≤m):256 ^ n≤256 ^ m:=Nat.pow_le_pow_right (by decide) h
theorem AX (l:List UInt8)(h:l.length≤8):val l<18446744073709551616 :=
 Eb (tU l) (by have:=xK h;simpa using this)
theorem yX (l:List UInt8)(k:Nat)(h:k<l.length):val (l.drop k)=l[k].toNat+256*val (l.drop (k+1)):=by
 rw[Ec h];rfl
def num:Nat→Nat→List UInt8
 | _,0=>[]
 | v,n+1=>UInt8.ofNat (v%256)::num (v / 256) n
@[go_sem,simp] theorem uK:∀ (n v:Nat),(num v n).length=n
 | 0,_=>rfl
 | n+1,v=>by simp[num,uK n]
theorem nf:∀ a b:List UInt8,val (a++b)=val a+256 ^ a.length*val b
 | [],b=>by simp[val]
 | c::a,b=>by
  simp only[Ed,val,nf a b,Ea,Nat.pow_succ];rw[Nat.mul_add,Nat.mul_comm (256 ^ a.length) 256,Nat.mul_assoc,Ee]
theorem yW (l:List UInt8)(k:Nat)(h:k<l.length):val (l.take (k+1))=val (l.take k)+l[k].toNat*256 ^ k:=by
 rw[Ef h,nf];simp[val,Nat.min_eq_left (Eg h),Nat.mul_comm]
def zk:Nat→Nat→List UInt8
 | 0,_=>[]
 | f+1,v=>if v<128 then [UInt8.ofNat v] else (UInt8.ofNat (v%128)+128)::zk f (v / 128)
def short (v:Nat):List UInt8:=zk 10 v
end Go.Proofs.YtehllcbnheicoaaGreatDoor.Oct
namespace Go.Proofs.YtehllcbnheicoaaGreatDoor
section
open Go.RowKit Oct
variable {P:Program}
theorem jj {k:IntKind}{a b:Int}(h:a=b):Value.int k a=.int k b:=by rw[h]
theorem BO {a b:ByteArray}(h:a=b):Value.string a=.string b:=by rw[h]
theorem Az (src dst e:TypeId)(hs:P.underlying src=some (.slice e))(he:P.underlying e=some (.int .u8))(hd:P.underlying dst=some .string)(w:World)(x:Int):(convert src dst (.slice (some ⟨w.heap.size,0,none⟩) 1 1)).run P (w.alloc (.cells #[.int .u8 x] e))=.ok (.string (bs [UInt8.ofNat x.toNat])) (w.alloc (.cells #[.int .u8 x] e)):=by
 have:=run_convert_bytes_arg (P:=P) (w.alloc (.cells #[.int .u8 x] e)) src e hs he w.heap.size 0 1 1 [x] rfl (fun i hi=>by
  obtain rfl:i=0:=by omega
  simp[World.cell?_alloc_new]) dst hd
 exact this
@[go_sem] theorem AE (l:LU_) (k:Nat) (h:k<(bs l).size):(bs l)[k]'h=l[k]'(by simpa using h):=by
 have e:(bs l)[k]'h=(bs l).data.toList[k]'(by simpa using h):=by simp;rfl
 rw[e];simp
@[go_sem] theorem Cu (l:LU_) (a b:Nat):(bs l).extract a b=bs ((l.drop a).take (b-a)):=by
 rw[Lib.extract_eq,jY];rfl
@[go_sem] theorem AS (l:LU_) (n:Nat):(l.drop n).take (l.length-n)=l.drop n:=Eh (by simp)
@[go_sem] theorem yw (l:LU_):(bs l).toList=l:=by rw[ByteArray.toList_eq,jY]
@[go_sem] theorem CE (a:Array UInt8):(ByteArray.mk a).toList=a.toList:=by rw[ByteArray.toList_eq]
attribute [go_sem] jZ
theorem DL (w:World)(n:Nat):Below w.heap.size w (w.drewN n):=⟨rfl,rfl,rfl,Ei _,fun _ _=>rfl⟩
def aT (l:LU_):List Value:=l.map fun c=>.int .u8 (c.toNat:Int)
theorem mG (l:LU_)(c:UInt8):aT l++[.int .u8 (c.toNat:Int)]=aT (l++[c]):=by simp[aT]
theorem bo (l:LU_):(aT l).length=l.length:=by simp[aT]
theorem s9 (src dst e:TypeId)(hs:P.underlying src=some (.slice e))(he:P.underlying e=some (.int .u8))(hd:P.underlying dst=some .string)(w:World)(bZ:Nat)(v:Value)(n:Nat)(l:LU_)(h:w.ownsRow bZ e 1 v n (aT l)):(convert src dst v).run P w=.ok (.string (bs l)) w:=by
 obtain⟨h1,h2⟩:=id h;rw[bo,Nat.mul_one]at h1;rcases h2 with ⟨rfl,h3⟩|⟨g,cap,cur,rfl,hg,hh,hc⟩
 ·have:l=[]:=Ej (by omega)
  subst this;exact run_convert_bytes_nil w src e hs he 0 0 dst hd
 ·subst h1
  refine run_convert_bytes_back w src dst e ⟨g,0,none⟩ cap l hs he hd (fun j hj=>?_);have hx:=World.ownsRow.cells h (g:=g) rfl j (.int .u8 (l[j].toNat:Int)) (by simp[aT,List.getElem?_eq_getElem hj]);exact hx
theorem Hj {T:Prop} (h:T:=by
 intro j u hj
 have:j<news.length:=by
  rcases Nat.lt_or_ge j news.length with h|h
  ·exact h
  ·simp[List.getElem?_eq_none h]at hj
 rw[Addr.add_lit,Ek,World.cell?_alloc_new];simpa using hj
):T:=h
theorem EZ {T:Prop} (h:T:=by
 exact Hj
):T:=h
theorem append1 {ops:Array Oper}{rest:List Oper}{o:Oper}{a:Act}{Q:Exit→Act→World→Prop}(wr:World)(news:List Value)(e:TypeId)(hgd:o.guard=none)(s x:Operand)(t:TypeId)(ho:o.op=.call { callee:=.builtin .append,args:=#[s,x],argTypes:=#[t,t] })(bZ:Nat)(z:Value)(size bytes:Nat)(ht:P.underlying t=some (.slice e))(hinfo:(P.info? e).map (fun i=>(i.zero,i.size,i.bytes))=some (some z,size,bytes))(hzs:z.cells.size=size)(hsz:0<size)(v:Value)(n:Nat)(xs:List Value)(hs:a.eval s=v)(hown:wr.ownsRow bZ e size v n xs)(c:Nat)(hx:a.eval x=.slice (some ⟨wr.heap.size,0,none⟩) 1 c)(hl:news.length=size)(h1:∀ u∈news,u.oneCell'=true)(hbytes:(n+1)*bytes≤140737488355328)(hby:0<bytes)(hbase:bZ≤wr.heap.size)(h:∀ v' w',w'.ownsRow bZ e size v' (n+1) (xs++news)→Below bZ wr w'→wpList P ops Q rest (a.put o.dst v') w'):wpList P ops Q (o::rest) a (wr.alloc (.cells news.toArray e)):=by
 obtain⟨i,hi,hz,hi1,hi2⟩:=info_parts hinfo;have hn:n+1≤(n+1)*bytes:=Nat.le_mul_of_pos_right _ hby;refine wpList_append_own _ hgd s x t ho bZ e i z size bytes ht hi hz hi1 hi2 hzs hsz v n xs hs (hown.alloc _) ⟨wr.heap.size,0,none⟩ 1 c news hx (by simpa using hl) ?_ h1 (by unfold maxLen;omega) hbytes (by simp;omega) ?_
 ·exact EZ
 ·intro v' w' h2 h3 _
  refine h v' w' h2 (((Em bZ wr).alloc hbase _).grown h3 (by simp;omega) ?_);intro k hk;exact(hown.lt k hk).1
theorem Ij {T:Prop} (h:T:=by
 refine h g cap w' h2 (((Em bZ wr).alloc hbase _).grown h3 (by simp;omega) ?_);intro k hk;exact(hown.lt k hk).1
):T:=h
theorem ql {ops:Array Oper}{o:Oper}{a:Act}{K:Act→World→Prop}{Q:Exit→Act→World→Prop}{E:Prop}(wr:World)(news:List Value)(e:TypeId)(hgd:o.guard=none)(s x:Operand)(t:TypeId)(ho:o.op=.call { callee:=.builtin .append,args:=#[s,x],argTypes:=#[t,t] })(bZ:Nat)(z:Value)(size bytes:Nat)(ht:P.underlying t=some (.slice e))(hinfo:(P.info? e).map (fun i=>(i.zero,i.size,i.bytes))=some (some z,size,bytes))(hzs:z.cells.size=size)(hsz:0<size)(v:Value)(n:Nat)(xs:List Value)(hs:a.eval s=v)(hown:wr.ownsRow bZ e size v n xs)(c:Nat)(hx:a.eval x=.slice (some ⟨wr.heap.size,0,none⟩) 1 c)(hl:news.length=size)(h1:∀ u∈news,u.oneCell'=true)(hbytes:(n+1)*bytes≤140737488355328)(hby:0<bytes)(hbase:bZ≤wr.heap.size)(h:∀ g cap w',w'.ownsRow bZ e size (.slice (some ⟨g,0,none⟩) (n+1) cap) (n+1) (xs++news)→Below bZ wr w'→K (a.put o.dst (.slice (some ⟨g,0,none⟩) (n+1) cap)) w'):if Region.wanted o (yielded ops a.tmps)=true then Oper.wp P o a (wr.alloc (.cells news.toArray e)) K Q else E:=by
 obtain⟨i,hi,hz,hi1,hi2⟩:=info_parts hinfo;have hn:n+1≤(n+1)*bytes:=Nat.le_mul_of_pos_right _ hby;refine step_append_lies _ hgd s x t ho bZ e i z size bytes ht hi hz hi1 hi2 hzs hsz v n xs hs (hown.alloc _) ⟨wr.heap.size,0,none⟩ 1 c news hx (by simpa using hl) ?_ h1 (by decide) (by unfold maxLen;omega) hbytes (by simp;omega) _ rfl ?_
 ·exact EZ
 ·intro g cap w' h2 h3 _ _
  exact Ij
theorem bn {w w':World}{bZ:Nat}{e:TypeId}{size:Nat}{v:Value}{n:Nat}{xs:List Value}(h:w.ownsRow bZ e size v n xs)(hB:Below w.heap.size w w'):w'.ownsRow bZ e size v n xs:=by
 obtain⟨h1,h2⟩:=h;refine⟨h1,?_⟩;rcases h2 with h2|⟨g,cap,cur,hv,hg,hh,r⟩
 ·exact Or.inl h2
 ·have hlt:g<w.heap.size:=by
   rcases Nat.lt_or_ge g w.heap.size with h|h
   ·exact h
   ·simp[Array.getElem?_eq_none h]at hh
  exact Or.inr ⟨g,cap,cur,hv,hg,(hB.block g hlt).trans hh,r⟩
theorem bt {a b c:World}(h:Below a.heap.size a b)(k:Below b.heap.size b c):Below a.heap.size a c:=h.trans (k.mono h.size)
theorem af (w:World)(o:Obj):Below w.heap.size w (w.alloc o):=(Em _ _).alloc (Ei _) _
theorem b_drew (w:World):Below w.heap.size w w.drew:=(Em _ _).drew
theorem dB (w:World):Below w.heap.size w w:=Em _ _
theorem ap {w:World}{bZ:Nat}{e:TypeId}{size:Nat}{v:Value}{n:Nat}{xs:List Value}(h:w.ownsRow bZ e size v n xs):∃ a cap,v=.slice a n cap:=by
 rcases h.2 with ⟨hv,h0⟩|⟨g,cap,cur,hv,_⟩
 ·exact⟨none,0,by rw[hv,h0]⟩
 ·exact⟨_,_,hv⟩
theorem dL {w:World}{bZ base':Nat}{e:TypeId}{size:Nat}{v:Value}{n:Nat}{xs:List Value}(h:w.ownsRow bZ e size v n xs)(hb:base'≤bZ):w.ownsRow base' e size v n xs:=by
 obtain⟨h1,h2⟩:=h;refine⟨h1,?_⟩;rcases h2 with h2|⟨g,cap,cur,hv,hg,r⟩
 ·exact .inl h2
 ·exact .inr ⟨g,cap,cur,hv,En hb hg,r⟩
theorem mP (w:World)(o p:Obj):((w.alloc o).alloc p).heap[w.heap.size]?=some o∧((w.alloc o).alloc p).heap[w.heap.size+1]?=some p∧Below w.heap.size w ((w.alloc o).alloc p):=by
 refine⟨?_,?_,((Em _ _).alloc (Ei _) _).alloc (by simp) _⟩
 ·show((w.heap.push o).push p)[w.heap.size]?=some o
  simp[Array.getElem?_push]
 ·show((w.heap.push o).push p)[w.heap.size+1]?=some p
  rw[Array.getElem?_push,if_pos (by simp)]
def aZ (w:World)(v:Value)(n:Nat)(xs:List Value):Prop :=
 ∃ a cap,v=.slice a n cap∧(a=none→n=0∧cap=0)∧∀ j u,xs[j]?=some u→∃ b off,a=some ⟨b,off,none⟩∧w.cell? ⟨b,off+j,none⟩=some u
theorem aD {w:World}{a:Addr}{u:Value}(h:w.cell? a=some u):a.block<w.heap.size:=World.block_lt_of_cell? w a h
theorem DK {w w':World}(hB:Below w.heap.size w w'){a:Addr}{u:Value}(h:w.cell? a=some u):w'.cell? a=some u :=
 (hB.cell (p:=a) (aD h)).trans h
theorem aZ.below {w w':World}{v:Value}{n:Nat}{xs:List Value}(h:aZ w v n xs)(hB:Below w.heap.size w w'):aZ w' v n xs:=by
 obtain⟨a,cap,hv,hn,hc⟩:=h;exact⟨a,cap,hv,hn,fun j u hj=>by obtain⟨b,off,ha,hu⟩:=hc j u hj;exact⟨b,off,ha,DK hB hu⟩⟩
theorem DQ {w:World}{bZ:Nat}{e:TypeId}{size:Nat}{v:Value}{n:Nat}{xs:List Value}(h:w.ownsRow bZ e size v n xs):aZ w v n xs:=by
 rcases id h.2 with ⟨hv,h0⟩|⟨g,cap,cur,hv,_⟩
 ·refine⟨none,0,by rw[hv,h0],fun _=>⟨h0,rfl⟩,fun j u hj=>?_⟩
  have:=h.1;rw[h0,Nat.zero_mul]at this;rw[Ej this]at hj;simp at hj
 ·refine⟨some ⟨g,0,none⟩,cap,hv,(by simp),fun j u hj=>⟨g,0,rfl,?_⟩⟩
  have:=World.ownsRow.cells h (g:=g) (by rw[hv];rfl) j u hj
  rwa [Addr.add_lit]at this
theorem aZ.nil (w:World):aZ w (.slice none 0 0) 0 []:=⟨none,0,rfl,fun _=>⟨rfl,rfl⟩,fun j u hj=>by simp at hj⟩
theorem aZ.new (w:World)(xs:List Value)(n:Nat)(e:TypeId)(c:Nat):aZ (w.alloc (.cells xs.toArray e)) (.slice (some ⟨w.heap.size,0,none⟩) n c) n xs :=
 ⟨_,_,rfl,(by simp),fun j u hj=>⟨_,_,rfl,by rw[Ek,World.cell?_alloc_new];simpa using hj⟩⟩
theorem Ho {T:Prop} (h:T:=by
 intro j u hj;obtain⟨b,off,ha,hu⟩:=hc j u hj
 cases ha
 rw[Addr.add_lit];exact hu
):T:=h
theorem lu {ops:Array Oper}{rest:List Oper}{o:Oper}{a:Act}{Q:Exit→Act→World→Prop}(w:World)(news:List Value)(e:TypeId)(hgd:o.guard=none)(s x:Operand)(t:TypeId)(ho:o.op=.call { callee:=.builtin .append,args:=#[s,x],argTypes:=#[t,t] })(bZ:Nat)(z:Value)(size bytes:Nat)(ht:P.underlying t=some (.slice e))(hinfo:(P.info? e).map (fun i=>(i.zero,i.size,i.bytes))=some (some z,size,bytes))(hzs:z.cells.size=size)(hsz:0<size)(v:Value)(n:Nat)(xs:List Value)(hs:a.eval s=v)(hown:w.ownsRow bZ e size v n xs)(vx:Value)(m:Nat)(hx:a.eval x=vx)(hr:aZ w vx m news)(hl:news.length=m*size)(h1:∀ u∈news,u.oneCell'=true)(hbytes:(n+m)*bytes≤140737488355328)(hby:0<bytes)(hbase:bZ≤w.heap.size)(h:∀ v' w',w'.ownsRow bZ e size v' (n+m) (xs++news)→Below bZ w w'→wpList P ops Q rest (a.put o.dst v') w'):wpList P ops Q (o::rest) a w:=by
 obtain⟨i,hi,hz,hi1,hi2⟩:=info_parts hinfo;have hn:n+m≤(n+m)*bytes:=Nat.le_mul_of_pos_right _ hby;obtain⟨ax,cap,rfl,hnone,hc⟩:=hr
 cases ax with
 | none =>
  obtain⟨rfl,rfl⟩:=hnone rfl;have hnil:news=[]:=Ej (by simpa using hl);subst hnil;refine wpList_append_own_none hgd s x t ho bZ e i size ht hi v n xs hs hown hx ?_;have:=h v w (by simpa using hown) (Em _ _);exact this
 | some ad =>
  refine wpList_append_own _ hgd s x t ho bZ e i z size bytes ht hi hz hi1 hi2 hzs hsz v n xs hs hown ad m cap news hx hl ?_ h1 (by unfold maxLen;omega) hbytes hbase ?_
  ·exact Ho
  ·intro v' w' h2 h3 _
   refine h v' w' h2 ((Em bZ w).grown h3 hbase ?_);intro k hk;exact(hown.lt k hk).1
def fk (r:LL_):List Value:=r.map fun l=>.string (bs l)
theorem xf (r:LL_)(k:Nat)(h:k<r.length):(fk r)[k]?=some (.string (bs r[k])):=by simp[fk,h]
theorem lZ (r:LL_)(l:LU_):fk r++[.string (bs l)]=fk (r++[l]):=by simp[fk]
theorem ba_ {w W:World}{o:Obj}(h:W=w.alloc o):Below w.heap.size w W:=by rw[h];exact af _ _
end
section
open Go.RowKit Oct
theorem nZ:(Tryz.prog.info? 5).map (fun i=>(i.zero,i.size,i.bytes))=some (some (.int .u8 0),1,1):=by kernel_rfl
theorem wX (s:ByteArray)(w:World)(hs:s.size≤8):Calls Tryz.prog 130 #[.string s] w fun e w'=>e=.returned (.int .u64 (val s.data.toList))∧w=w':=by
 go_enter Tryz.func130,Tryz.ntmps130;go_wp2
 go_loop [3,4] (fun v i=>∃ k:Nat,k≤s.size∧i=.int .i64 ((k:Int)-1)∧v=.int .u64 (val (s.data.toList.drop k))) (fun _ i=>(intOf i+1).toNat)
 case atStart=>exact⟨s.size,Ei _,rfl,jj (by rw[List.drop_of_length_le (by simp)];rfl)⟩
 case round =>
  obtain⟨k,hk,rfl,rfl⟩:=hrel;have hl:s.data.toList.length=s.size:=by simp
  by_cases h0:0<k
  ·obtain⟨j,rfl⟩:∃ j,k=j+1:=⟨k-1,by omega⟩
   have hd:=Hid.o (yX s.data.toList j (by omega));have hb:=AX (s.data.toList.drop j) (by simp;omega);have hc:=s[j].toNat_lt
   have H:Hid ((IntKind.u64.wrap (IntKind.u64.wrap (↑(val (s.data.toList.drop (j+1)))*256)+IntKind.u64.wrap (s[j].toNat:Int)))=(val (s.data.toList.drop j):Int)):=by
    have e:(s.data.toList[j]'(by omega))=s[j]:=by simp;rfl
    rw[e]at hd;rw[hd]at hb⊢;rw[IntWalk.u64_in (_*256) (by omega),IntWalk.u64_in (s[j].toNat:Int) (by omega),IntWalk.u64_in _ (by omega)];show _=_;omega
   clear hd hb hc;go_wp2
   go_round
   case rel=>exact⟨j,by omega,rfl,jj H.o⟩
   case measure=>simp[intOf]
  ·obtain rfl:k=0:=by omega
   go_wp2;go_ret;exact⟨by simp,rfl⟩
def cb (v k:Nat):Array Value:=((num v k).map (fun c=>Value.int .u8 (c.toNat:Int))++List.replicate (8-k) (Value.int .u8 0)).toArray
end
section
open Go.RowKit
section
variable {P:Program}{ops:Array Oper}{md:Region.Mode}{C:World→Prop}{R:World→World→Prop}
structure aJ (R:World→World→Prop) where
 α:Type
 val:α→Value
 fact:α→Option (World→Prop)
 stable:∀ x φ,fact x=some φ→∀ w w',φ w→R w w'→φ w'
def aJ.exact(R:World→World→Prop)(v:Value):aJ R:=⟨Unit,fun _=>v,fun _=>none,fun _ _ h=>by cases h⟩
abbrev au:=(Oper×(World→Prop))→Prop
def au.none:au:=fun _=>False
def au.add (o:Oper)(φ:Option (World→Prop))(S:au):au:=fun q=>(∃ ψ,φ=some ψ∧q=(o,ψ))∨S q
def au.all (S:au)(w:World):Prop:=∀ p,S p→p.2 w
def au.at (S:au)(ops:Array Oper)(o:Oper)(w:World):Prop:=∀ p,S p→p.1.apart ops o=false→p.2 w
def au.kept (R:World→World→Prop)(S:au):Prop:=∀ p,S p→∀ w w',p.2 w→R w w'→p.2 w'
theorem DN (o:Oper)(S:au):S.add o Option.none=S:=by
 funext q;simp[au.add]
theorem au.add_comm (o o':Oper)(φ φ':Option (World→Prop))(S:au):(S.add o φ).add o' φ'=(S.add o' φ').add o φ:=by
 funext q;simp only[au.add,eq_iff_iff];grind
theorem au.all_add {S:au}{o:Oper}{φ:Option (World→Prop)}{w:World}:(S.add o φ).all w↔(∀ ψ,φ=some ψ→ψ w)∧S.all w:=by
 constructor
 ·intro h;exact⟨fun ψ hψ=>h (o,ψ) (.inl ⟨ψ,hψ,rfl⟩),fun p hp=>h p (.inr hp)⟩
 ·rintro⟨h1,h2⟩ p (⟨ψ,hψ,rfl⟩|hp)
  ·exact h1 ψ hψ
  ·exact h2 p hp
theorem au.all_some {S:au}{o:Oper}{φ:World→Prop}{w:World}:(S.add o (some φ)).all w↔φ w∧S.all w:=by
 rw[au.all_add];simp
theorem DP {w:World}:au.none.all w↔True:=by simp[au.all,au.none]
theorem au.at_some {S:au}{o o':Oper}{φ:World→Prop}{w:World}(h:(S.add o (some φ)).at ops o' w):(o.apart ops o'=false→φ w)∧S.at ops o' w :=
 ⟨fun ha=>h (o,φ) (.inl ⟨φ,rfl,rfl⟩) ha,fun p hp=>h p (.inr hp)⟩
theorem DO {S:au}{o:Oper}{w:World}(h:S.all w):S.at ops o w:=fun p hp _=>h p hp
theorem DR {S:au}(h:S.kept R)(o:Oper)(g:aJ R)(x:g.α):(S.add o (g.fact x)).kept R:=by
 rintro p (⟨ψ,hψ,rfl⟩|hp)
 ·exact g.stable x ψ hψ
 ·exact h p hp
theorem DT {S:au}(h:S.kept R){w w':World}(ha:S.all w)(hR:R w w'):S.all w':=fun p hp=>h p hp w w' (ha p hp) hR
def cY (P:Program)(w:World)(G:Value→World→Prop):Result Next→Prop
 | .ok (.value u) w'=>G u w'
 | .ok .skip w'=>G undef w'
 | .ok (.enter f args) w'=>w'=w∧Calls P f args w fun e w''=>∃ u,e=.returned u∧G u w''
 | _=>False
def bP (P:Program)(o:Oper)(a:Act)(w:World)(G:Value→World→Prop):Prop:=cY P w G ((execOp a.eval o).run P w)
def dV (w:World)(v:Value):Result Next→Prop
 | .ok (.value u) w'=>w'=w∧u=v
 | .ok .skip w'=>w'=w∧v=undef
 | _=>False
def eu (P:Program)(o:Oper)(a:Act)(w:World)(v:Value):Prop:=dV w v ((execOp a.eval o).run P w)
def ed (P:Program)(ops:Array Oper)(C:World→Prop)(R:World→World→Prop)(F:Nat→Option (aJ R))(i:Nat)(o:Oper)(S:au)(a:Act)(g:aJ R):Prop :=
 if Region.wanted o (yielded ops a.tmps)=true then
  match F i with
  | none=>∃ v,g=.exact R v∧∀ w,C w→S.at ops o w→eu P o a w v
  | some g'=>g=g'∧∀ w,C w→S.at ops o w→bP P o a w fun u w'=>R w w'∧∃ x,u=g'.val x∧∀ φ,g'.fact x=some φ→φ w'
 else g=.exact R undef
def gOp (P:Program)(ops:Array Oper)(C:World→Prop)(R:World→World→Prop)(F:Nat→Option (aJ R))(i:Nat)(K:au→Act→Prop)(S:au)(a:Act):Prop :=
 match ops[i]? with
 | none=>K S a
 | some o=>∃ g,ed P ops C R F i o S a g∧∀ x,K (S.add o (g.fact x)) (a.put o.dst (g.val x))
def Inh (C:World→Prop)(S:au):Prop:=∃ w,C w∧S.all w
def jh (P:Program)(md:Region.Mode)(ops:Array Oper)(C:World→Prop)(R:World→World→Prop)(F:Nat→Option (aJ R))(Q:Array Bool→au→Act→Prop):Nat→Array Bool→au→Act→Prop
 | 0,listed,S,a=>Inh C S→Q listed S a
 | fuel+1,listed,S,a=>Inh C S →
  Region.ready md ops listed≠[] ∧
  ∀ i∈Region.ready md ops listed,gOp P ops C R F i (jh P md ops C R F Q fuel (listed.setIfInBounds i true)) S a
variable {F:Nat→Option (aJ R)}{Q:Array Bool→au→Act→Prop}
theorem tP {n:Nat}{listed:Array Bool}{S:au}{a:Act}(h:Inh C S→jh P md ops C R F Q n listed S a):jh P md ops C R F Q n listed S a:=by
 cases n<;>exact fun hi=>h hi hi
theorem Hd {T:Prop} (h:T:=by
 simp only[hF]at hok;obtain⟨rfl,hr⟩:=hok;have hr:=hr w hw (DO hS)
 have on:∀ u w',(R w w'∧∃ x,u=g.val x∧∀ φ,g.fact x=some φ→φ w')→N (a.put o.dst u) w':=by
  rintro u w' ⟨hR,x,rfl,hx⟩;exact hN _ _ _ (DR hk o g x) (hCR _ _ hw hR) (au.all_add.2 ⟨hx,DT hk hS hR⟩) (hK x)
 unfold bP at hr⊢;generalize (execOp a.eval o).run P w=r at *
 cases r with
 | ok n w' =>
  cases n<;>simp only[cY]at hr⊢
  case value u=>exact on _ _ hr
  case skip=>exact on _ _ hr
  case enter f args =>
   obtain⟨rfl,hc⟩:=hr;exact⟨rfl,hc.mono fun e w'' ⟨u,he,hG⟩=>⟨u,he,on _ _ hG⟩⟩
 | halt x w'=>simp only[cY]at hr
):T:=h
theorem Hh {T:Prop} (h:T:=by
 simp only[hF]at hok;obtain⟨v,rfl,hr⟩:=hok;have hr:=hr w hw (DO hS);have hK:=hK ();simp only[aJ.exact,DN]at hK;unfold eu at hr;unfold bP;generalize (execOp a.eval o).run P w=r at *
 cases r with
 | ok n w' =>
  cases n<;>simp only[dV]at hr<;>simp only[cY]
  case value u=>obtain⟨rfl,rfl⟩:=hr;exact hN S _ _ hk hw hS hK
  case skip=>obtain⟨rfl,rfl⟩:=hr;exact hN S _ _ hk hw hS hK
 | halt x w'=>simp only[dV]at hr
):T:=h
theorem Bw {i:Nat}{o:Oper}{S:au}{a:Act}{w:World}{g:aJ R}{K:au→Act→Prop}{N:Act→World→Prop}(hCR:∀ w w',C w→R w w'→C w')(hk:S.kept R)(hw:C w)(hS:S.all w)(hwant:Region.wanted o (yielded ops a.tmps)=true)(hok:ed P ops C R F i o S a g)(hK:∀ x,K (S.add o (g.fact x)) (a.put o.dst (g.val x)))(hN:∀ S' a' w',S'.kept R→C w'→S'.all w'→K S' a'→N a' w'):bP P o a w fun u w'=>N (a.put o.dst u) w':=by
 unfold ed at hok;rw[if_pos hwant]at hok
 cases hF:F i with
 | none =>
  exact Hh
 | some g' =>
  exact Hd
theorem mW {o:Oper}{a:Act}{w:World}{N:Act→World→Prop}{Q':Exit→Act→World→Prop}(h:bP P o a w fun u w'=>N (a.put o.dst u) w'):o.wp P a w N Q':=by
 unfold bP at h;unfold Oper.wp;generalize (execOp a.eval o).run P w=r at *
 cases r with
 | ok n w' =>
  cases n<;>simp only[cY]at h<;>simp only[Oper.upon]
  case value u=>exact h
  case skip=>exact h
  case enter f args =>
   obtain⟨rfl,hc⟩:=h;refine hc.mono fun e w'' ⟨u,he,hG⟩=>?_;subst he;exact hG
 | halt x w'=>simp only[cY]at h
theorem nz {listed:Array Bool}{X:Prop}(h:Region.ready md ops listed≠[]):Region.ready md ops listed=[]→X:=fun e=>absurd e h
theorem iz {Q':Exit→Act→World→Prop}(hCR:∀ w w',C w→R w w'→C w')(rest:Nat)(hQ:∀ listed S a w,C w→S.all w→Q listed S a→wpAny P md ops Q' rest listed a w):∀ (fuel:Nat) (listed:Array Bool) (S:au) (a:Act) (w:World),S.kept R→C w→S.all w→jh P md ops C R F Q fuel listed S a→wpAny P md ops Q' (fuel+rest) listed a w
 | 0,_,_,_,w,_,hw,hS,h=>by rw[Ek];exact hQ _ _ _ _ hw hS (h ⟨w,hw,hS⟩)
 | fuel+1,listed,S,a,w,hk,hw,hS,h=>by
  have h:=h ⟨w,hw,hS⟩;rw[show fuel+1+rest=(fuel+rest)+1 by omega];refine⟨nz h.1,fun i hi=>?_⟩;have h2:=h.2 i hi;unfold gOp at h2;unfold wpOp
  cases ho:ops[i]? with
  | none=>simp only[ho]at h2⊢;exact iz hCR rest hQ fuel _ S a w hk hw hS h2
  | some o =>
   simp only[ho]at h2⊢;obtain⟨g,hok,hK⟩:=h2
   by_cases hwant:Region.wanted o (yielded ops a.tmps)=true
   ·rw[if_pos hwant]
    exact .inl (mW (Bw hCR hk hw hS hwant hok hK fun S' a' w' hk' hw' hS' hA=>iz hCR rest hQ fuel _ S' a' w' hk' hw' hS' hA))
   ·unfold ed at hok
    rw[if_neg hwant]at hok⊢;subst hok;have hK:=hK ();simp only[aJ.exact,DN]at hK;exact iz hCR rest hQ fuel _ S _ w hk hw hS hK
theorem Hf {T:Prop} (h:T:=by
 simp only[hF]at h;obtain⟨rfl,hr⟩:=h;have hr:=hr w hw (DO hS);unfold bP at hr
 have on:∀ u w',(R w w'∧∃ x,u=g.val x∧∀ φ,g.fact x=some φ→φ w')→∃ x,Inh C (S.add o (g.fact x)):=by
  rintro u w' ⟨hR,x,rfl,hx⟩;exact⟨x,w',hCR _ _ hw hR,au.all_add.2 ⟨hx,DT hk hS hR⟩⟩
 generalize (execOp a.eval o).run P w=r at *
 cases r with
 | ok n w' =>
  cases n<;>simp only[cY]at hr
  case value u=>exact on _ _ hr
  case skip=>exact on _ _ hr
  case enter f args =>
   obtain⟨rfl,hc⟩:=hr;obtain⟨e,w'',_,⟨u,_,hG⟩,_⟩:=hc [];exact on _ _ hG
 | halt x w'=>simp only[cY]at hr
):T:=h
theorem Ib {T:Prop} (h:T:=by
 exact⟨(),w,hw,by simp only[aJ.exact,DN];exact hS⟩
):T:=h
theorem pI (hCR:∀ w w',C w→R w w'→C w'){i:Nat}{o:Oper}{S:au}{a:Act}{g:aJ R}(hk:S.kept R)(h:ed P ops C R F i o S a g)(hI:Inh C S):∃ x,Inh C (S.add o (g.fact x)):=by
 obtain⟨w,hw,hS⟩:=hI;unfold ed at h
 by_cases hwant:Region.wanted o (yielded ops a.tmps)=true
 ·rw[if_pos hwant]at h
  cases hF:F i with
  | none =>
   simp only[hF]at h;obtain⟨v,rfl,_⟩:=h;exact Ib
  | some g' =>
   exact Hf
 ·rw[if_neg hwant]at h
  subst h;exact Ib
theorem Hk {T:Prop} (h:T:=by
 simp only[hF]at h h';obtain⟨v,rfl,hv⟩:=h;obtain⟨v',rfl,hv'⟩:=h';have hv:=hv w hw (DO hS);have hv':=hv' w hw (DO hS);unfold eu at hv hv'
 have:v=v':=by
  generalize (execOp a.eval o).run P w=r at *
  cases r with
  | ok n w'=>cases n<;>simp only[dV]at hv hv'<;>grind
  | halt x w'=>simp only[dV]at hv
 rw[this]
):T:=h
theorem xS {i:Nat}{o:Oper}{S:au}{a:Act}{g g':aJ R}(h:ed P ops C R F i o S a g)(h':ed P ops C R F i o S a g')(hI:Inh C S):g=g':=by
 obtain⟨w,hw,hS⟩:=hI;unfold ed at h h'
 by_cases hwant:Region.wanted o (yielded ops a.tmps)=true
 ·rw[if_pos hwant]at h h'
  cases hF:F i with
  | none =>
   exact Hk
  | some q =>
   simp only[hF]at h h';rw[h.1,h'.1]
 ·rw[if_neg hwant]at h h'
  rw[h,h']
theorem uH {i:Nat}{o:Oper}{S S':au}{a:Act}{g:aJ R}(h:ed P ops C R F i o S a g)(hS:∀ p,S p→S' p):ed P ops C R F i o S' a g:=by
 have hat:∀ w,S'.at ops o w→S.at ops o w:=fun w hw p hp=>hw p (hS p hp);unfold ed at *
 split
 ·rename_i hwant
  rw[if_pos hwant]at h
  cases hF:F i with
  | none=>simp only[hF]at h⊢;obtain⟨v,e,hv⟩:=h;exact⟨v,e,fun w hw ha=>hv w hw (hat w ha)⟩
  | some q=>simp only[hF]at h⊢;exact⟨h.1,fun w hw ha=>h.2 w hw (hat w ha)⟩
 ·rename_i hwant
  rw[if_neg hwant]at h;exact h
theorem Ip {T:Prop} (h:T:=by
 rintro w hw p (⟨ψ,hψ,rfl⟩|hp) hap'
 ·simp only[hap]at hap';cases hap'
 ·exact hw p hp hap'
):T:=h
theorem sy {j:Nat}{oi oj:Oper}{S:au}{a:Act}{u:Value}{φ:Option (World→Prop)}{g:aJ R}(hap:oi.apart ops oj=true)(hsj:∀ cs b,oj.op≠.select cs b)(h:ed P ops C R F j oj (S.add oi φ) (a.put oi.dst u) g):ed P ops C R F j oj S a g:=by
 obtain⟨h1,h2,h3⟩:=Oper.apart_spec hap
 have hat:∀ w,S.at ops oj w→(S.add oi φ).at ops oj w:=by
  exact Ip
 unfold ed bP eu at *;rw[wanted_put oj a oi.dst u h1,execOp_put oj hsj a oi.dst u h1]at h
 split
 ·rename_i hwant
  rw[if_pos hwant]at h
  cases hF:F j with
  | none=>simp only[hF]at h⊢;obtain⟨v,e,hv⟩:=h;exact⟨v,e,fun w hw ha=>hv w hw (hat w ha)⟩
  | some q=>simp only[hF]at h⊢;exact⟨h.1,fun w hw ha=>h.2 w hw (hat w ha)⟩
 ·rename_i hwant
  rw[if_neg hwant]at h;exact h
theorem uI {i:Nat}{oi oj:Oper}{S:au}{a:Act}{u:Value}{g:aJ R}(hap:oi.apart ops oj=true)(hsi:∀ cs b,oi.op≠.select cs b)(h:ed P ops C R F i oi S a g):ed P ops C R F i oi S (a.put oj.dst u) g:=by
 obtain⟨h1,h2,h3⟩:=Oper.apart_spec hap;unfold ed bP eu at *;rw[wanted_put oi a oj.dst u h3,execOp_put oi hsi a oj.dst u h3];exact h
theorem Hw {T:Prop} (h:T:=by
 have:=hK y;rw[au.add_comm,Act.put_comm a _ _ (fun d hd=>(Oper.apart_spec hap).2.1 d hd),Array.setIfInBounds_comm _ _ (Ne.symm hji)]at this;exact this
):T:=h
theorem qg (hCR:∀ w w',C w→R w w'→C w'){n i:Nat}{oi:Oper}(hi:ops[i]?=some oi)(hsel:∀ (j:Nat) (o:Oper) cs b,ops[j]?=some o→o.op≠.select cs b)(hin:i<n)(htail:∀ listed,HeadInv md ops n listed→∀ i,i<n→listed.getD i true=false→∀ j∈Region.ready md ops listed,j<n)(hdone:∀ listed S a,Q listed S a→∀ j∈Region.ready md ops listed,n≤j):∀ (fuel:Nat) (listed:Array Bool) (S:au) (a:Act) (g:aJ R),S.kept R→HeadInv md ops n listed → (∀ j oj,ops[j]?=some oj→j≠i→listed.getD j true=false→(∀ e∈oj.after,Region.binds md e=true→e.on≠i)→oi.apart ops oj=true) → i∈Region.ready md ops listed→ed P ops C R F i oi S a g → (∀ x,jh P md ops C R F Q fuel (listed.setIfInBounds i true) (S.add oi (g.fact x)) (a.put oi.dst (g.val x)))→jh P md ops C R F Q (fuel+1) listed S a:=by
 intro fuel
 induction fuel with
 | zero =>
  intro listed S a g hk inv _ hr hok H hI;have hun:=(mem_ready.1 hr).1;refine⟨fun h=>(by rw[h]at hr;cases hr),fun j hj=>?_⟩;have hjn:=htail listed inv i hin hun j hj
  by_cases hji:j=i
  ·subst hji;unfold gOp;simp only[hi];exact⟨g,hok,H⟩
  ·obtain⟨x,hx⟩:=pI hCR hk hok hI
   have:=hdone _ _ _ (H x hx) j (ready_mono hj hji);omega
 | succ fuel ih =>
  intro listed S a g hk inv hfree hr hok H hI;have hun:=(mem_ready.1 hr).1;refine⟨fun h=>(by rw[h]at hr;cases hr),fun j hj=>?_⟩;have hjn:=htail listed inv i hin hun j hj
  by_cases hji:j=i
  ·subst hji;unfold gOp;simp only[hi];exact⟨g,hok,H⟩
  ·obtain⟨hjun,oj,hoj,hall⟩:=mem_ready.1 hj
   have hnot:∀ e∈oj.after,Region.binds md e=true→e.on≠i:=fun e he hb heq=>by
    have h1:=hall e he hb;rw[heq,getD_both hun]at h1
    cases h1
   have hap:=hfree j oj hoj hji hjun hnot;have hsi:∀ cs b,oi.op≠.select cs b:=fun cs b=>hsel i oi cs b hi;have hsj:∀ cs b,oj.op≠.select cs b:=fun cs b=>hsel j oj cs b hoj
   have hfree':∀ k ok,ops[k]?=some ok→k≠i→(listed.setIfInBounds j true).getD k true=false →
     (∀ e∈ok.after,Region.binds md e=true→e.on≠i)→oi.apart ops ok=true:=fun k ok hk hki hun hno=>by
    refine hfree k ok hk hki ?_ hno
    by_cases hjk:j=k
    ·subst hjk;exact hjun
    ·rw[getD_set_ne true hjk]at hun;exact hun
   have step:∀ x,Inh C (S.add oi (g.fact x))→∃ gj,ed P ops C R F j oj S a gj∧∀ y,jh P md ops C R F Q fuel ((listed.setIfInBounds i true).setIfInBounds j true) ((S.add oi (g.fact x)).add oj (gj.fact y)) ((a.put oi.dst (g.val x)).put oj.dst (gj.val y)):=by
    intro x hx;have h2:=(H x hx).2 j (ready_mono hj hji);unfold gOp at h2;simp only[hoj]at h2;obtain⟨gj,hgj,hK⟩:=h2;exact⟨gj,sy hap hsj hgj,hK⟩
   obtain⟨x1,hx1⟩:=pI hCR hk hok hI;obtain⟨gj,hgj,_⟩:=step x1 hx1;unfold gOp;simp only[hoj];refine⟨gj,hgj,fun y=>?_⟩
   refine ih (listed.setIfInBounds j true) (S.add oj (gj.fact y)) (a.put oj.dst (gj.val y)) g (DR hk oj gj y) (inv.set hj hjn) hfree' (ready_mono hr (Ne.symm hji))
    (uI hap hsi (uH hok fun p hp=>.inr hp)) fun x=>tP fun hI2=>?_
   have hx:Inh C (S.add oi (g.fact x)):=by
    obtain⟨w,hw,hS⟩:=hI2;rw[au.add_comm]at hS;exact⟨w,hw,(au.all_add.1 hS).2⟩
   obtain⟨gj',hgj',hK⟩:=step x hx;obtain rfl:=xS hgj hgj' hI;exact Hw
def wpG (P:Program)(ops:Array Oper)(C:World→Prop)(R:World→World→Prop)(F:Nat→Option (aJ R))(Q:au→Act→Prop):Nat→List Oper→au→Act→Prop
 | _,[],S,a=>Q S a
 | k,o::rest,S,a=>if Region.wanted o (yielded ops a.tmps)=true then
   match F k with
   | none=>∃ v,(∀ w,C w→S.at ops o w→eu P o a w v)∧wpG P ops C R F Q (k+1) rest S (a.put o.dst v)
   | some g=>(∀ w,C w→S.at ops o w→bP P o a w fun u w'=>R w w'∧∃ x,u=g.val x∧∀ φ,g.fact x=some φ→φ w')∧∀ x,wpG P ops C R F Q (k+1) rest (S.add o (g.fact x)) (a.put o.dst (g.val x))
  else wpG P ops C R F Q (k+1) rest S (a.put o.dst undef)
theorem Im {T:Prop} (h:T:=by
 rename_i hwant;exact⟨.exact R undef,by rw[if_neg hwant],fun _=>by simpa only[aJ.exact,DN] using h⟩
):T:=h
theorem AU {Q:au→Act→Prop}{k:Nat}{o:Oper}{rest:List Oper}{S:au}{a:Act}(h:wpG P ops C R F Q k (o::rest) S a):∃ g,ed P ops C R F k o S a g∧∀ x,wpG P ops C R F Q (k+1) rest (S.add o (g.fact x)) (a.put o.dst (g.val x)):=by
 unfold wpG at h;unfold ed
 split at h
 ·rename_i hwant
  simp only[hwant,if_true]
  cases hF:F k with
  | none=>simp only[hF]at h;obtain⟨v,h1,h2⟩:=h;exact⟨.exact R v,⟨v,rfl,h1⟩,fun _=>by simpa only[aJ.exact,DN] using h2⟩
  | some g=>simp only[hF]at h;exact⟨g,⟨rfl,h.1⟩,h.2⟩
 ·exact Im
theorem Iw {T:Prop} (h:T:=by
 have:k=n:=by simpa using hk
 subst this;exact⟨by simpa[Region.lexHead] using hB,h⟩
):T:=h
theorem mZ {Q:au→Act→Prop}(hCR:∀ w w',C w→R w w'→C w'){n g:Nat}(hs:Region.noSelect ops=true)(htail:∀ listed,HeadInv md ops n listed→∀ i,i<n→listed.getD i true=false→∀ j∈Region.ready md ops listed,j<n):∀ (l:List Oper) (k:Nat) (listed:Array Bool) (S:au) (a:Act),S.kept R→(∀ j,j<l.length→l[j]?=ops[k+j]?)→k+l.length=n→HeadInv md ops n listed → Region.lexHead md ops g l.length k listed=true→wpG P ops C R F Q k l S a→jh P md ops C R F (fun listed' S' a'=>Region.seqB md ops g n listed'=true∧Q S' a') l.length listed S a
 | [],k,listed,_,_,_,_,hk,_,hB,h=>fun _=>by
  exact Iw
 | o::l,k,listed,S,a,hk,hl,hkn,inv,hB,h=>by
  have h0:ops[k]?=some o:=by simpa using (hl 0 (by simp)).symm
  simp only[Ea,Region.lexHead,EE]at hB;obtain⟨⟨hr,hf⟩,hB'⟩:=hB;have hkn':k<n:=by simp only[Ea]at hkn;omega
  have hr':k∈Region.ready md ops listed:=by simpa using hr
  obtain⟨gg,hg,hK⟩:=AU h
  exact qg hCR h0 (Region.noSelect_spec hs) hkn' htail (fun listed' S' a' hL=>seqB_ready hL.1) l.length listed S a gg hk inv (Region.free_spec h0 hf) hr' hg
   fun x=>mZ hCR hs htail l (k+1) _ _ _ (DR hk o gg x) (fun j hj=>by have:=hl (j+1) (by simp;omega);simpa[Ee,Nat.add_comm 1 j] using this) (by simp only[Ea]at hkn;omega) (inv.set hr' hkn') hB' (hK x)
def iC (ops:Array Oper)(n:Nat):Bool :=
 Region.noSelect ops&&(decide (n=ops.size)||(decide (n<ops.size)&&Region.sinkB .any ops n&&Region.chainB .any ops n))&&Region.lexHead .any ops (ops.size-n) n 0 (Array.replicate ops.size false)
theorem nn {n:Nat}(h:iC ops n=true):Region.noSelect ops=true∧n≤ops.size∧Region.lexHead .any ops (ops.size-n) n 0 (Array.replicate ops.size false)=true ∧∀ listed,HeadInv .any ops n listed→∀ i,i<n→listed.getD i true=false→∀ j∈Region.ready .any ops listed,j<n:=by
 simp only[iC,EE,Bool.or_eq_true,decide_eq_true_eq]at h;obtain⟨⟨hs,hn⟩,hl⟩:=h;rcases hn with rfl|⟨⟨hn,h1⟩,h2⟩
 ·exact⟨hs,Ei _,hl,fun listed _ i _ _ j hj=>by obtain⟨_,o,ho,_⟩:=mem_ready.1 hj;exact(Array.getElem?_eq_some_iff.1 ho).1⟩
 ·refine⟨hs,Eg hn,hl,fun listed inv i hi hun j hj=>?_⟩
  rcases Nat.lt_or_ge j n with h|h
  ·exact h
  ·exact absurd hj (tail_waits h1 h2 hn inv _ i rfl hi hun j h)
theorem fO {id:Nat}{Q:Exit→Act→World→Prop}{a:Act}{w:World}{l:List Oper}(F:Nat→Option (aJ R))(n:Nat)(hm:P.follows .mixedOrders=true)(hB:iC l.toArray n=true)(hCR:∀ w w',C w→R w w'→C w')(hC:C w.drew)(h:wpG P l.toArray C R F (fun S a'=>∀ w',C w'→S.all w'→wpList P l.toArray Q (l.drop n) a' w') 0 (l.take n) au.none a):(Code.region id l.toArray true).wp P Q a w:=by
 obtain⟨hs,hn,hlex,htail⟩:=nn hB;have hk:au.none.kept R:=fun p hp=>hp.elim;have ha:∀ w',au.none.all w':=fun w' p hp=>hp.elim;have hn':n≤l.length:=by simpa using hn
 have htl:(l.take n).length=n:=by simp;omega
 have hdl:(l.drop n).length=l.toArray.size-n:=by simp
 have inv0:HeadInv .any l.toArray n (Array.replicate l.toArray.size false) :=
  ⟨by simp,fun j oj _ hl=>(by rw[getD_replicate_false]at hl;cases hl),fun t _ ht=>getD_in (by simpa using ht) (getD_replicate_false _ _)⟩
 have H:=mZ hCR hs htail (l.take n) 0 _ au.none a hk (fun j hj=>by
  have hj':j<n:=by rw[htl]at hj;exact hj
  simp[hj']) (by simpa using htl) inv0 (by rw[htl];exact hlex) h
 have:=iz (Q':=Q) hCR (l.toArray.size-n) (fun listed S a' w' hw hS hL=>by
  have:=wpAny_of_seq (md:=.any) (Q':=Q) (l.drop n) n listed a' w' (fun j=>by simp[List.getElem?_drop]) (by rw[hdl];exact hL.1) (hL.2 w' hw hS)
  rwa [hdl]at this) _ _ _ _ _ hk hC (ha _) H
 rw[htl,show n+(l.toArray.size-n)=l.toArray.size by omega]at this;exact wp_region_any hm this
end
end
section
open Go.RowKit
attribute [go_sem] bP cY
def Bel (w w':World):Prop:=Below w.heap.size w w'
theorem Bel.refl (w:World):Bel w w:=Em _ _
theorem Bel.trans {a b c:World}(h:Bel a b)(k:Bel b c):Bel a c:=bt h k
def fW {R:World→World→Prop}:List (Nat×aJ R)→Nat→Option (aJ R)
 | [],_=>none
 | (n,g)::l,k=>if n=k then some g else fW l k
def kY:Op→Bool
 | .move _|.assign _|.pick ..|.load ..|.binOp ..|.unOp ..|.convert ..|.slice ..|.fieldAddr ..|.field ..|.indexAddr ..|.index ..|.extract ..|.build ..|.makeInterface ..|.makeFunc ..=>true
 | .call { callee:=.builtin .len,.. }|.call { callee:=.builtin .cap,.. }|.call { callee:=.builtin .min,.. }|.call { callee:=.builtin .max,.. }=>true
 | _=>false
section
variable {P:Program}{ops:Array Oper}{C:World→Prop}{R:World→World→Prop}{F:Nat→Option (aJ R)}{Q:au→Act→Prop}
theorem nP {α:Type}{r:Result α}{g:α→Value}{f:FuncId}{args:Array Value}{w:World}:r.andThen (fun x w=>.ok (Next.value (g x)) w)≠.ok (.enter f args) w:=by
 cases r<;>simp[Result.andThen]
theorem nB {ρ:Operand→Value}{o:Oper}(h:kY o.op=true){w w':World}{f:FuncId}{args:Array Value}:(execOp ρ o).run P w≠.ok (.enter f args) w':=by
 unfold execOp;unfold kY at h
 split at h
 all_goals first
  | (rename_i he;simp only[he];simp only[Sem.run_bind,Sem.run_pure];first|exact nP|exact nP (g:=fun x=>x)|(simp;done))
  | (rename_i he;simp only[he,resolve,invoke,builtin,Sem.run_bind,Sem.run_pure,Result.andThen_ok];exact nP (g:=fun x=>x))
  | cases h
theorem iW {o:Oper}{a:Act}{C':World→Prop}{w:World}{v:Value}(hp:kY o.op=true)(h:o.quietAt P a C' w v):eu P o a w v:=by
 unfold Oper.quietAt at h;unfold eu;have hne:=fun f args w'=>nB (P:=P) (ρ:=a.eval) hp (w:=w) (w':=w') (f:=f) (args:=args);generalize (execOp a.eval o).run P w=r at *
 cases r with
 | ok n w' =>
  cases n<;>simp only[Oper.quietUpon]at h<;>simp only[dV]
  case value u=>exact h
  case skip=>exact h
  case enter f args=>exact absurd rfl (hne f args w')
 | halt x w'=>simp only[Oper.quietUpon]at h
theorem wpG_skip {k:Nat}{o:Oper}{rest:List Oper}{S:au}{a:Act}(hw:Region.wanted o (yielded ops a.tmps)=false)(h:∀ K:Act→Prop,(∀ a,wpG P ops C R F Q (k+1) rest S a→K a)→wpQuiet P ops C K [o] a):wpG P ops C R F Q k (o::rest) S a:=by
 have:=h _ fun _ h=>h;unfold wpQuiet at this;rw[if_neg (by rw[hw];exact Bool.false_ne_true)]at this;unfold wpG;rw[if_neg (by rw[hw];exact Bool.false_ne_true)];exact this
theorem If {T:Prop} (h:T:=by
 rename_i hw;rw[if_pos hw]at this;obtain⟨v,h1,h2⟩:=this;simp only[hF];exact⟨v,fun w hw _=>iW hp (h1 w trivial),h2⟩
):T:=h
theorem wpG_quiet {k:Nat}{o:Oper}{rest:List Oper}{S:au}{a:Act}(hF:F k=none)(hp:kY o.op=true)(h:∀ K:Act→Prop,(∀ a,wpG P ops C R F Q (k+1) rest S a→K a)→wpQuiet P ops (fun _=>True) K [o] a):wpG P ops C R F Q k (o::rest) S a:=by
 have:=h _ fun _ h=>h;unfold wpQuiet at this;unfold wpG
 split
 ·exact If
 ·rename_i hw
  rw[if_neg hw]at this;exact this
theorem aR {k:Nat}{o:Oper}{rest:List Oper}{S:au}{a:Act}(g:aJ R)(hF:F k=some g)(hw:Region.wanted o (yielded ops a.tmps)=true)(h1:∀ (w':World) (G:Value→World→Prop),C w'→S.at ops o w'→(∀ x w'',R w' w''→(∀ φ,g.fact x=some φ→φ w'')→G (g.val x) w'')→bP P o a w' G)(h2:∀ x (K:Act→Prop),(∀ a,wpG P ops C R F Q (k+1) rest (S.add o (g.fact x)) a→K a)→K (a.put o.dst (g.val x))):wpG P ops C R F Q k (o::rest) S a:=by
 unfold wpG;rw[if_pos hw];simp only[hF];exact⟨fun w' hC hS=>h1 w' _ hC hS fun x w'' hR hφ=>⟨hR,x,rfl,hφ⟩,fun x=>h2 x _ fun _ h=>h⟩
theorem ag {k:Nat}{o:Oper}{rest:List Oper}{S:au}{a:Act}{v:Value}(hF:F k=some (.exact R v))(hw:Region.wanted o (yielded ops a.tmps)=true)(h1:∀ (w':World) (G:Value→World→Prop),C w'→S.at ops o w'→(∀ w'',R w' w''→G v w'')→bP P o a w' G)(h2:∀ (K:Act→Prop),(∀ a,wpG P ops C R F Q (k+1) rest S a→K a)→K (a.put o.dst v)):wpG P ops C R F Q k (o::rest) S a:=by
 refine aR (.exact R v) hF hw (fun w' G hC hS hG=>h1 w' G hC hS fun w'' hR=>hG () w'' hR (fun _ h=>by cases h)) (fun x K hK=>h2 K fun a ha=>hK a ?_);simp only[aJ.exact,DN];exact ha
theorem wpG_nilOk {k:Nat}{o:Oper}{rest:List Oper}{S:au}{a:Act}{x:Operand}{p:Addr}(hF:F k=none)(ho:o.op=.nilCheck x)(hx:a.eval x=.pointer (some p))(hw:Region.wanted o (yielded ops a.tmps)=true)(h:∀ (K:Act→Prop),(∀ a,wpG P ops C R F Q (k+1) rest S a→K a)→K (a.put o.dst (.pointer (some p)))):wpG P ops C R F Q k (o::rest) S a:=by
 unfold wpG;rw[if_pos hw];simp only[hF];refine⟨.pointer (some p),fun w _ _=>?_,h _ fun _ h=>h⟩;unfold eu execOp;rw[ho];simp only[hx,Sem.run_pure,dV,and_self]
theorem at0 {S:au}{o o':Oper}{φ:World→Prop}{w:World}(h:(S.add o (some φ)).at ops o' w)(ha:o.apart ops o'=false):φ w:=(au.at_some h).1 ha
theorem Dq {S:au}{o o':Oper}{φ:Option (World→Prop)}{w:World}(h:(S.add o φ).at ops o' w):S.at ops o' w:=fun p hp=>h p (.inr hp)
theorem at1 {S:au}{o o' o1:Oper}{φ:World→Prop}{φ1:Option (World→Prop)}{w:World}(h:((S.add o (some φ)).add o1 φ1).at ops o' w)(ha:o.apart ops o'=false):φ w:=at0 (Dq h) ha
theorem lA {S:au}{o:Oper}{φ:World→Prop}{w:World}(h:(S.add o (some φ)).all w):φ w:=(au.all_some.1 h).1
theorem AJ {S:au}{o:Oper}{φ:Option (World→Prop)}{w:World}(h:(S.add o φ).all w):S.all w:=fun p hp=>h p (.inr hp)
theorem DD {S:au}{o o1 o2:Oper}{φ:World→Prop}{φ1 φ2:Option (World→Prop)}{w:World}(h:(((S.add o (some φ)).add o1 φ1).add o2 φ2).all w):φ w:=lA (AJ (AJ h))
theorem aq {id:Nat}{Q:Exit→Act→World→Prop}{a:Act}{w:World}{l:List Oper}(L:List (Nat×aJ Bel))(hm:P.follows .mixedOrders=true)(hB:iC l.toArray l.length=true)(h:wpG P l.toArray (Bel w) Bel (fW L) (fun S a'=>∀ w',Bel w w'→S.all w'→Q .normal a' w') 0 l au.none a):(Code.region id l.toArray true).wp P Q a w :=
 fO (fW L) l.length hm hB (fun _ _ h k=>Bel.trans h k) (b_drew w) (by rw[List.take_length,List.drop_length];exact h)
theorem bp {id:Nat}{Q:Exit→Act→World→Prop}{a:Act}{w:World}{l:List Oper}(n:Nat)(L:List (Nat×aJ Bel))(hm:P.follows .mixedOrders=true)(hB:iC l.toArray n=true)(h:wpG P l.toArray (Bel w) Bel (fW L) (fun S a'=>∀ w',Bel w w'→S.all w'→wpList P l.toArray Q (l.drop n) a' w') 0 (l.take n) au.none a):(Code.region id l.toArray true).wp P Q a w :=
 fO (fW L) n hm hB (fun _ _ h k=>Bel.trans h k) (b_drew w) h
theorem aH {f:FuncId}{args:Array Value}{w:World}{v:Value}{G:Value→World→Prop}(hG:∀ w'',Bel w w''→G v w'')(h:Calls P f args w fun e w'=>e=.returned v∧Below w.heap.size w w'):Calls P f args w fun e w''=>∃ u,e=.returned u∧G u w'':=h.mono fun _ _ ⟨he,hb⟩=>⟨v,he,hG _ hb⟩
end
theorem cG {T T':Prop}(k:T')(h:Hid T'→T:=by intro k;(repeat(first|(refine wpG_skip (by kernel_rfl) (fun K hK=>?_);go_big_quiet_skip;refine wpQuiet_nil (hK _ ?_);clear hK K)|(refine wpG_quiet (by rfl) (by rfl) (fun K hK=>?_);go_big_quiet_want;go_big_quiet_op;go_big_quiet_on;refine wpQuiet_nil (hK _ ?_);clear hK K)|(refine wpG_nilOk rfl rfl rfl (by kernel_rfl) (fun K hK=>?_);go_simp;refine hK _ ?_;clear hK K)));exact k.o):T:=h k
theorem cO {T T':Prop}(k:T')(h:Hid T'→T:=by intro k;go_simp;refine hK _ ?_;(repeat(first|(refine wpG_skip (by kernel_rfl) (fun K hK=>?_);go_big_quiet_skip;refine wpQuiet_nil (hK _ ?_);clear hK K)|(refine wpG_quiet (by rfl) (by rfl) (fun K hK=>?_);go_big_quiet_want;go_big_quiet_op;go_big_quiet_on;refine wpQuiet_nil (hK _ ?_);clear hK K)|(refine wpG_nilOk rfl rfl rfl (by kernel_rfl) (fun K hK=>?_);go_simp;refine hK _ ?_;clear hK K)));exact k.o):T:=h k
theorem gE_ {P:Program}{ops:Array Oper}{C:World→Prop}{R:World→World→Prop}{F:Nat→Option (aJ R)}{Q:au→Act→Prop}{k:Nat}{o:Oper}{rest:List Oper}{S:au}{a:Act}{v:Value}(h1:∀ (w':World) (G:Value→World→Prop),C w'→S.at ops o w'→(∀ w'',R w' w''→G v w'')→bP P o a w' G)(h2:∀ (K:Act→Prop),(∀ a,wpG P ops C R F Q (k+1) rest S a→K a)→K (a.put o.dst v))(hF:F k=some (.exact R v):=by rfl)(hw:Region.wanted o (yielded ops a.tmps)=true:=by kernel_rfl):wpG P ops C R F Q k (o::rest) S a:=ag hF hw h1 h2
theorem gk_ {P:Program}{ops:Array Oper}{C:World→Prop}{R:World→World→Prop}{F:Nat→Option (aJ R)}{Q:au→Act→Prop}{k:Nat}{o:Oper}{rest:List Oper}{S:au}{a:Act}(g:aJ R)(h1:∀ (w':World) (G:Value→World→Prop),C w'→S.at ops o w'→(∀ x w'',R w' w''→(∀ φ,g.fact x=some φ→φ w'')→G (g.val x) w'')→bP P o a w' G)(h2:∀ x (K:Act→Prop),(∀ a,wpG P ops C R F Q (k+1) rest (S.add o (g.fact x)) a→K a)→K (a.put o.dst (g.val x)))(hF:F k=some g:=by rfl)(hw:Region.wanted o (yielded ops a.tmps)=true:=by kernel_rfl):wpG P ops C R F Q k (o::rest) S a:=aR g hF hw h1 h2
theorem rk_ {P:Program}{id:Nat}{Q:Exit→Act→World→Prop}{a:Act}{w:World}{l:List Oper}(L:List (Nat×aJ Bel))(h:wpG P l.toArray (Bel w) Bel (fW L) (fun S a'=>∀ w',Bel w w'→S.all w'→Q .normal a' w') 0 l au.none a)(hm:P.follows .mixedOrders=true:=by kernel_rfl)(hB:iC l.toArray l.length=true:=by kernel_rfl):(Code.region id l.toArray true).wp P Q a w:=aq L hm hB h
end
