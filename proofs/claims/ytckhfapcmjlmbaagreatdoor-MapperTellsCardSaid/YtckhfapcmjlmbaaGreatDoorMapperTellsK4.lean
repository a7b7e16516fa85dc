/- Lemmas for MapperTells: walks, plain laws. -/
import Derived.Lib.MinMaxS
import Derived.Maps.RangeWalk
import Derived.Deep.DeepCutAuto
import Derived.OwnWalkIn
import Derived.TacticsInMore
import Derived.LoopNIn
import Derived.LoopIn
import Derived.Test.YtckhfapcmjlmbaaGreatDoorMapperTellsK1
set_option linter.unusedSimpArgs false
set_option linter.unusedVariables false
set_option maxRecDepth 100000
set_option maxHeartbeats 16000000
namespace Go.Proofs.YtckhfapcmjlmbaaGreatDoor
open Go.RowKit Oct
section
abbrev PR:=LU_×LU_
def rE (p:PR):List Value:=[.string (bs p.1),.string (bs p.2)]
def aU:List PR→List Value
 | []=>[]
 | p::l=>.string (bs p.1)::.string (bs p.2)::aU l
theorem jB:∀ l:List PR,(aU l).length=l.length*2
 | []=>rfl
 | p::l=>by simp[aU,jB l];omega
theorem dt:∀ a b:List PR,aU (a++b)=aU a++aU b
 | [],_=>rfl
 | p::a,b=>by simp[aU,dt a b]
theorem mX:∀ (l:List PR) (k:Nat) (h:k<l.length),(aU l)[k*2]?=some (.string (bs l[k].1))
 | p::l,0,_=>rfl
 | p::l,k+1,h=>by
  have:=mX l k (by simpa using h);rw[show(k+1)*2=k*2+2 by omega];simpa[aU] using this
theorem mW:∀ (l:List PR) (k:Nat) (h:k<l.length),(aU l)[k*2+1]?=some (.string (bs l[k].2))
 | p::l,0,_=>rfl
 | p::l,k+1,h=>by
  have:=mW l k (by simpa using h);rw[show(k+1)*2+1=k*2+1+2 by omega];simpa[aU] using this
theorem lK:∀ (l:List PR) (k:Nat),(aU l).drop (k*2)=aU (l.drop k)
 | l,0=>by simp
 | [],k+1=>by simp[aU]
 | p::l,k+1=>by
  rw[show(k+1)*2=k*2+2 by omega];simp[aU,lK l k]
theorem lJ:∀ (l:List PR) (k:Nat),(aU l).take (k*2)=aU (l.take k)
 | l,0=>by simp[aU]
 | [],k+1=>by simp[aU]
 | p::l,k+1=>by
  rw[show(k+1)*2=k*2+2 by omega];simp[aU,lJ l k]
theorem jL (l:List PR):∀ u∈aU l,u.oneCell'=true:=by
 induction l with
 | nil=>simp[aU]
 | cons p l ih=>intro u hu;simp[aU]at hu;rcases hu with rfl|rfl|hu<;>first|rfl|exact ih u hu
def RP (w:World)(v:Value)(l:List PR):Prop:=aJ w v l.length (aU l)∧∃ a cap,v=.slice a l.length cap∧l.length≤cap
theorem RP.below {w w':World}{v:Value}{l:List PR}(h:RP w v l)(hB:Below w.heap.size w w'):RP w' v l:=⟨aJ.below h.1 hB,h.2⟩
def OP (w:World)(bZ:Nat)(v:Value)(l:List PR):Prop:=w.ownsRow bZ 70 2 v l.length (aU l)
theorem GA {T:Prop} (h:T:=by
 refine⟨Dd h,?_⟩;rcases h.2 with ⟨hv,h0⟩|⟨g,cap,cur,hv,_,_,hc,_⟩
 ·exact⟨none,0,by rw[hv,h0],by omega⟩
 ·exact⟨_,_,hv,hc⟩
):T:=h
theorem OP.reads {w:World}{bZ:Nat}{v:Value}{l:List PR}(h:OP w bZ v l):RP w v l:=by
 exact GA
theorem OP.below {w w':World}{bZ:Nat}{v:Value}{l:List PR}(h:OP w bZ v l)(hB:Below w.heap.size w w'):OP w' bZ v l:=bD h hB
theorem OP.nil (w:World)(bZ:Nat):OP w bZ (.slice none 0 0) []:=⟨rfl,.inl ⟨rfl,rfl⟩⟩
theorem RP.new (w:World)(l:List PR)(e:TypeId):RP (w.alloc (.cells (aU l).toArray e)) (.slice (some ⟨w.heap.size,0,none⟩) l.length l.length) l:=⟨aJ.new w _ _ _ _,_,_,rfl,DC _⟩
theorem fT:(Tryz.prog.info? 70).map (fun i=>(i.zero,i.size,i.bytes))=some (some (.agg #[.string ByteArray.empty,.string ByteArray.empty]),2,32):=by kernel_rfl
theorem RP.open {w:World}{v:Value}{l:List PR}(h:RP w v l):∃ a cap,v=.slice a l.length cap∧l.length≤cap ∧∀ k (hk:k<l.length),∃ b off,a=some ⟨b,off,none⟩∧w.cell? ⟨b,off+k*2,none⟩=some (.string (bs l[k].1))∧w.cell? ⟨b,off+k*2+1,none⟩=some (.string (bs l[k].2)):=by
 obtain⟨⟨a,cap,rfl,hn,hc⟩,a',cap',hv,hle⟩:=h;injection hv with _ _ h3
 subst h3;refine⟨a,cap,rfl,hle,fun k hk=>?_⟩;obtain⟨b,off,rfl,h1⟩:=hc _ _ (mX l k hk);obtain⟨b',off',hb,h2⟩:=hc _ _ (mW l k hk)
 cases hb
 exact⟨b,off,rfl,h1,h2⟩
theorem df {ops:Array Oper}{rest:List Oper}{o:Oper}{a:Act}{Q:Exit→Act→World→Prop}(w:World)(hgd:o.guard=none)(s x:Operand)(t:TypeId)(ho:o.op=.call { callee:=.builtin .append,args:=#[s,x],argTypes:=#[t,t] })(ht:Tryz.prog.underlying t=some (.slice 70))(bZ:Nat)(v:Value)(xs:List PR)(hs:a.eval s=v)(hown:OP w bZ v xs)(vx:Value)(ys:List PR)(hx:a.eval x=vx)(hr:RP w vx ys)(hbytes:(xs.length+ys.length)*32≤140737488355328)(hbase:bZ≤w.heap.size)(h:∀ v' w',OP w' bZ v' (xs++ys)→Below bZ w w'→wpList Tryz.prog ops Q rest (a.put o.dst v') w'):wpList Tryz.prog ops Q (o::rest) a w :=
 kQ w (aU ys) 70 hgd s x t ho bZ (.agg #[.string ByteArray.empty,.string ByteArray.empty]) 2 32 ht fT rfl (by decide) v xs.length (aU xs) hs hown vx ys.length hx hr.1 (jB ys) (jL ys) hbytes (by decide) hbase
  (fun v' w' h1 h2=>h v' w' (by unfold OP;rw[dt,DL];exact h1) h2)
theorem kR {ops:Array Oper}{rest:List Oper}{o:Oper}{a:Act}{Q:Exit→Act→World→Prop}(w:World)(p:PR)(hgd:o.guard=none)(s x:Operand)(t:TypeId)(ho:o.op=.call { callee:=.builtin .append,args:=#[s,x],argTypes:=#[t,t] })(ht:Tryz.prog.underlying t=some (.slice 70))(bZ:Nat)(v:Value)(xs:List PR)(hs:a.eval s=v)(hown:OP w bZ v xs)(c:Nat)(hx:a.eval x=.slice (some ⟨w.heap.size,0,none⟩) 1 c)(hbytes:(xs.length+1)*32≤140737488355328)(hbase:bZ≤w.heap.size)(h:∀ v' w',OP w' bZ v' (xs++[p])→Below bZ w w'→wpList Tryz.prog ops Q rest (a.put o.dst v') w'):wpList Tryz.prog ops Q (o::rest) a (w.alloc (.cells (rE p).toArray 70)) :=
 append1 w (rE p) 70 hgd s x t ho bZ (.agg #[.string ByteArray.empty,.string ByteArray.empty]) 2 32 ht fT rfl (by decide) v xs.length (aU xs) hs hown c hx rfl (by simp[rE,Value.oneCell']) hbytes (by decide) hbase
  (fun v' w' h1 h2=>h v' w' (by unfold OP;rw[dt,DL];exact h1) h2)
theorem gA {ops:Array Oper}{o:Oper}{a:Act}{K:Act→World→Prop}{Q:Exit→Act→World→Prop}{E:Prop}(w:World)(p:PR)(hgd:o.guard=none)(s x:Operand)(t:TypeId)(ho:o.op=.call { callee:=.builtin .append,args:=#[s,x],argTypes:=#[t,t] })(ht:Tryz.prog.underlying t=some (.slice 70))(bZ:Nat)(v:Value)(xs:List PR)(hs:a.eval s=v)(hown:OP w bZ v xs)(c:Nat)(hx:a.eval x=.slice (some ⟨w.heap.size,0,none⟩) 1 c)(hbytes:(xs.length+1)*32≤140737488355328)(hbase:bZ≤w.heap.size)(h:∀ g cap w',OP w' bZ (.slice (some ⟨g,0,none⟩) (xs.length+1) cap) (xs++[p])→Below bZ w w'→K (a.put o.dst (.slice (some ⟨g,0,none⟩) (xs.length+1) cap)) w'):if Region.wanted o (yielded ops a.tmps)=true then Oper.wp Tryz.prog o a (w.alloc (.cells #[.string (bs p.1),.string (bs p.2)] 70)) K Q else E :=
 kd w (rE p) 70 hgd s x t ho bZ (.agg #[.string ByteArray.empty,.string ByteArray.empty]) 2 32 ht fT rfl (by decide) v xs.length (aU xs) hs hown c hx rfl (by simp[rE,Value.oneCell']) hbytes (by decide) hbase
  (fun g cap w' h1 h2=>h g cap w' (by unfold OP;rw[dt,DL];exact h1) h2)
theorem aJ.mk {w:World}{a:Option Addr}{n cap:Nat}{xs:List Value}(h1:a=none→n=0∧cap=0)(h2:∀ j u,xs[j]?=some u→∃ b off,a=some ⟨b,off,none⟩∧w.cell? ⟨b,off+j,none⟩=some u):aJ w (.slice a n cap) n xs:=⟨a,cap,rfl,h1,h2⟩
theorem nh {w:World}{a:Option Addr}{n cap:Nat}{xs:List Value}(h:aJ w (.slice a n cap) n xs):a=none→n=0∧cap=0:=by
 obtain⟨a',cap',hv,hn,_⟩:=h;injection hv with h1 _ h3
 subst h1 h3;exact hn
theorem GK {T:Prop} (h:T:=by
 intro ha
 by_cases e:cap=lo
 ·omega
 ·rw[if_neg e]at ha
  have:a=none:=by simpa using ha
  have:=hn this;omega
):T:=h
theorem RP.sub {w:World}{a:Option Addr}{cap:Nat}{l:List PR}(h:RP w (.slice a l.length cap) l)(lo hi:Nat)(h1:lo≤hi)(h2:hi≤l.length):RP w (sliced a lo hi cap 2) ((l.drop lo).take (hi-lo)):=by
 have hlen:((l.drop lo).take (hi-lo)).length=hi-lo:=by simp;omega
 obtain⟨hr,a',cap',hv,hle⟩:=h;injection hv with _ _ h3
 subst h3;have hn:=nh hr;obtain⟨a',cap',hv,_,hc⟩:=hr;injection hv with e1 _ e3
 subst e1 e3;unfold sliced;refine⟨?_,_,_,by rw[hlen],by rw[hlen];omega⟩;rw[hlen];refine aJ.mk ?_ ?_
 ·exact GK
 ·intro j u hj
  rw[←lJ,←lK,List.getElem?_take]at hj
  split at hj
  ·rename_i hlt
   rw[List.getElem?_drop]at hj;obtain⟨b,off,rfl,hu⟩:=hc _ _ hj;rw[if_neg (by omega)];refine⟨b,off+lo*2,?_,?_⟩
   ·rw[Option.map_some,Addr.add_lit]
   ·rw[←hu,Dy]
  ·simp at hj
theorem RP.cut {w:World}{a:Option Addr}{cap:Nat}{l:List PR}(h:RP w (.slice a l.length cap) l)(k:Nat)(hk:k≤l.length):RP w (sliced a k l.length cap 2) (l.drop k):=by
 have:=h.sub k l.length hk (DC _)
 rwa [DB (by simp)]at this
theorem RP.head {w:World}{a:Option Addr}{cap:Nat}{l:List PR}(h:RP w (.slice a l.length cap) l)(k:Nat)(hk:k≤l.length):RP w (sliced a 0 k cap 2) (l.take k):=by
 have:=h.sub 0 k (by omega) hk;simpa using this
theorem RP.cutRun {w:World}{a:Option Addr}{cap:Nat}{l:List PR}(h:RP w (.slice a l.length cap) l)(k:Nat)(c:Int)(hc:c=(k:Int))(hk:k≤l.length):∃ A C,(∀ wx,(Instr.slice 29 (.slice a l.length cap) (some (.int .i64 c)) none none).run Tryz.prog wx=.ok (.slice A (l.length-k) C) wx)∧RP w (.slice A (l.length-k) C) (l.drop k):=by
 subst hc;refine⟨_,_,fun wx=>?_,h.cut k hk⟩;obtain⟨i,hi,hz,hi1,hi2⟩:=info_parts fT;rw[run_slice_l wx 29 a l.length cap (by kernel_rfl) .i64 k (by omega) (by omega)];have he:(sizeOf (Tryz.prog.elem 29)).run Tryz.prog wx=.ok 2 wx:=by kernel_rfl
 rw[he];simp[Result.andThen,sliced]
theorem RP.headRun {w:World}{a:Option Addr}{cap:Nat}{l:List PR}(h:RP w (.slice a l.length cap) l)(k:Nat)(c:Int)(hc:c=(k:Int))(hk:k≤l.length):∃ A C,(∀ wx,(Instr.slice 29 (.slice a l.length cap) none (some (.int .i64 c)) none).run Tryz.prog wx=.ok (.slice A k C) wx)∧RP w (.slice A k C) (l.take k):=by
 subst hc;obtain⟨_,a',cap',hv,hle⟩:=id h;injection hv with _ _ h3
 subst h3;refine⟨if cap=0 then a else a.map (·.add (0*2)),cap-0,fun wx=>?_,by have:=RP.head h k hk;simpa[sliced] using this⟩;rw[run_slice_h wx 29 a l.length cap (by kernel_rfl) .i64 k (by omega) (by omega)];have he:(sizeOf (Tryz.prog.elem 29)).run Tryz.prog wx=.ok 2 wx:=by kernel_rfl
 rw[he];simp[Result.andThen,sliced]
def lt (a b:LU_):Bool:=Op.bytesLess a b
def aW:List PR→Bool
 | []=>true
 | [_]=>true
 | p::q::l=>!lt q.1 p.1&&aW (q::l)
theorem fI (l:List PR):aW l=true↔∀ k (h:k+1<l.length),lt l[k+1].1 l[k].1=false:=by
 match l with
 | []=>simp[aW]
 | [_]=>simp[aW]
 | p::q::l =>
  have ih:=fI (q::l);simp only[aW,DS,Bool.not_eq_true',ih];constructor
  ·rintro⟨h1,h2⟩ k hk
   cases k with
   | zero=>exact h1
   | succ k=>exact h2 k (by simpa using hk)
  ·intro h
   exact⟨h 0 (by simp),fun k hk=>h (k+1) (by simpa using hk)⟩
def chk (l:List PR):Int:=if aW l then 0 else 2
theorem ke (l:List PR)(k:Nat)(h:k+1<l.length)(hlt:lt l[k+1].1 l[k].1=true):aW l=false:=by
 cases hs:aW l
 ·rfl
 ·rw[(fI l).1 hs k h]at hlt;simp at hlt
theorem lB (l:List PR)(k:Nat)(hk:l.length≤k+1)(h:∀ j (h:j+1<l.length),j<k→lt l[j+1].1 l[j].1=false):aW l=true :=
 (fI l).2 fun j hj=>h j hj (by omega)
theorem FL {T:Prop} (h:T:=by
 have HL:=zH hlt;unfold lt at hlt;go_wp2;go_quiet (fail);go_wp2;go_roundw
 case rel =>
  refine⟨k+1,.inr (by omega),by go_num,?_,bt hB (C9 _ _)⟩;intro j h hj
  by_cases hjk:j=k
  ·subst hjk;exact HL.o
  ·exact hH.o j h (by omega)
 case measure=>simp[intOf];omega
):T:=h
theorem lH (v:Value)(l:List PR)(w:World)(hr:RP w v l)(hl:l.length≤140737488355328):Calls Tryz.prog 91 #[v] w fun e w'=>e=.returned (.bool (aW l))∧Bw_ w w':=by
 obtain⟨a,cap,rfl,_,hc⟩:=hr.open;go_enter Tryz.func91,Tryz.ntmps91;go_wp2
 go_loopw [3] (fun i wr=>∃ k:Nat,(k=0∨k+1≤l.length)∧i=.int .i64 ((k:Int)+1)∧Hid (∀ j (h:j+1<l.length),j<k→lt l[j+1].1 l[j].1=false)∧Below w.heap.size w wr) (fun i _=>(l.length+1-(intOf i).toNat))
 case atStart=>exact⟨0,.inl rfl,rfl,by intro j _ h;omega,DF _ _⟩
 case round =>
  obtain⟨k,hk,rfl,hH,hB⟩:=hrel
  by_cases h0:k+1<l.length
  ·obtain⟨b,off,rfl,c1,_⟩:=hc (k+1) h0
   obtain⟨b',off',hb,c2,_⟩:=hc k (by omega)
   cases hb
   have d1:=C8 hB c1;have d2:=C8 hB c2;have kk1:(k:Int)+1<(l.length:Int):=by omega
   have kk2:(k:Int)<(l.length:Int):=by omega
   clear hc hk
   cases hlt:lt l[k+1].1 l[k].1
   ·exact FL
   ·have HL:=zH hlt
    unfold lt at hlt;go_wp2;go_quiet (fail);go_wp2;go_ret;exact⟨by rw[ke l k h0 HL.o];rfl,bt hB (C9 _ _)⟩
  ·have hs:=zH (lB l k (by omega) hH.o)
   go_wp2;go_ret;exact⟨by rw[hs.o];rfl,hB⟩
theorem ju (v:Value)(l:List PR)(w:World)(hr:RP w v l)(hl:l.length≤140737488355328):Calls Tryz.prog 83 #[v] w fun e w'=>e=.returned (.int .i64 (chk l))∧Bw_ w w':=by
 obtain⟨a,cap,rfl,_,hc⟩:=hr.open;go_enter Tryz.func83,Tryz.ntmps83;go_wp2
 go_loopw [3] (fun i wr=>∃ k:Nat,(k=0∨k+1≤l.length)∧i=.int .i64 ((k:Int)+1)∧Hid (∀ j (h:j+1<l.length),j<k→lt l[j+1].1 l[j].1=false)∧Below w.heap.size w wr) (fun i _=>(l.length+1-(intOf i).toNat))
 case atStart=>exact⟨0,.inl rfl,rfl,by intro j _ h;omega,DF _ _⟩
 case round =>
  obtain⟨k,hk,rfl,hH,hB⟩:=hrel
  by_cases h0:k+1<l.length
  ·obtain⟨b,off,rfl,c1,_⟩:=hc (k+1) h0
   obtain⟨b',off',hb,c2,_⟩:=hc k (by omega)
   cases hb
   have d1:=C8 hB c1;have d2:=C8 hB c2;have kk1:(k:Int)+1<(l.length:Int):=by omega
   have kk2:(k:Int)<(l.length:Int):=by omega
   clear hc hk
   cases hlt:lt l[k+1].1 l[k].1
   ·exact FL
   ·have HL:=zH hlt
    unfold lt at hlt;go_wp2;go_quiet (fail);go_wp2;go_ret;exact⟨by rw[chk,ke l k h0 HL.o];rfl,bt hB (C9 _ _)⟩
  ·have hs:=zH (lB l k (by omega) hH.o)
   go_wp2;go_ret;exact⟨by rw[chk,hs.o];rfl,hB⟩
theorem jR (a b:LU_):lt a b=true↔a<b:=by simp[lt,Proofs.bytesLess_eq]
theorem lg {a b c:LU_}(h1:lt a b=true)(h2:lt b c=true):lt a c=true:=by
 rw[jR]at *;exact List.lt_trans h1 h2
theorem lh (a:LU_):lt a a=false:=by
 cases h:lt a a
 ·rfl
 ·rw[jR]at h;exact absurd h (List.lt_irrefl a)
theorem jo {a b c:LU_}(h1:lt b a=false)(h2:lt c b=false):lt c a=false:=by
 have h1':¬b<a:=by rw[←jR,h1];simp
 have h2':¬c<b:=by rw[←jR,h2];simp
 cases h:lt c a
 ·rfl
 ·rw[jR]at h
  exact absurd (List.lt_of_le_of_lt (List.not_lt.1 h2') h) h1'
theorem jm {a b:LU_}(h:lt a b=true):lt b a=false:=by
 cases h2:lt b a
 ·rfl
 ·rw[←lh a,lg h h2]
theorem Bg (a b:LU_):(!(lt a b||a==b))=lt b a:=by
 cases h1:lt a b
 ·cases h2:a==b
  ·have n1:¬a<b:=by rw[←jR,h1];simp
   have n2:a≠b:=by intro e;simp[e]at h2
   cases h3:lt b a
   ·have n3:¬b<a:=by rw[←jR,h3];simp
    exact absurd (List.le_antisymm (List.not_lt.1 n3) (List.not_lt.1 n1)) n2
   ·rfl
  ·have e:a=b:=by simpa using h2
   rw[e,lh];rfl
 ·rw[jm h1];rfl
def mrg:List PR→List PR→List PR
 | [],b=>b
 | a,[]=>a
 | x::a,y::b=>if lt y.1 x.1 then y::mrg (x::a) b else x::mrg a (y::b)
termination_by a b=>a.length+b.length
theorem k9 (b:List PR):mrg [] b=b:=by rw[mrg]
theorem jl (a:List PR):mrg a []=a:=by cases a<;>simp[mrg]
theorem dg (x y:PR)(a b:List PR):mrg (x::a) (y::b)=if lt y.1 x.1 then y::mrg (x::a) b else x::mrg a (y::b):=by rw[mrg]
def ins (p:PR):List PR→List PR
 | []=>[p]
 | x::l=>if lt p.1 x.1 then p::x::l else x::ins p l
def srt (l:List PR):List PR:=l.foldl (fun o p=>ins p o) []
theorem iK (l:List PR)(p:PR):srt (l++[p])=ins p (srt l):=by simp[srt]
theorem nA (p:PR):∀ l:List PR,(ins p l).length=l.length+1
 | []=>rfl
 | x::l=>by rw[ins];split<;>simp[nA p l]
theorem bK (l:List PR):(srt l).length=l.length:=by
 suffices h:∀ (l o:List PR),(l.foldl (fun o p=>ins p o) o).length=o.length+l.length by simpa[srt] using h l []
 intro l
 induction l with
 | nil=>simp
 | cons p l ih=>intro o;simp[ih,nA];omega
theorem Az (p:PR):∀ a b:List PR,mrg a (ins p b)=ins p (mrg a b):=by
 intro a b
 induction a,b using mrg.induct with
 | case1 b=>simp[k9]
 | case2 a h =>
  rw[jl];clear h
  induction a with
  | nil=>simp[k9,ins]
  | cons x a ih =>
   rw[ins,ins,dg]
   split
   ·rw[jl]
   ·have:mrg a [p]=mrg a (ins p []):=rfl
    rw[this,ih]
 | case3 x a y b h ih =>
  cases hp:lt p.1 y.1
  ·rw[ins,if_neg (by rw[hp];simp),dg,if_pos h,ih,dg,if_pos h,ins,if_neg (by rw[hp];simp)]
  ·rw[ins,if_pos hp,dg,if_pos (lg hp h),dg,if_pos h,ins,if_pos hp]
 | case4 x a y b h ih =>
  have h':lt y.1 x.1=false:=by simpa using h
  cases hp:lt p.1 y.1
  ·have hx:lt p.1 x.1=false:=jo h' hp
   rw[ins,if_neg (by rw[hp];simp)]at ih⊢;rw[dg,if_neg h,ih,dg,if_neg h,ins,if_neg (by rw[hx];simp)]
  ·rw[ins,if_pos hp]at ih⊢
   rw[dg x y,if_neg h,ins,dg]
   split
   ·rw[dg,if_neg h]
   ·rw[ih]
theorem uU (a b:List PR):mrg (srt a) (srt b)=srt (a++b):=by
 have:∀ n (b:List PR),b.length=n→mrg (srt a) (srt b)=srt (a++b):=by
  intro n
  induction n with
  | zero=>intro b hb;rw[DD hb];simp[srt,jl]
  | succ n ih =>
   intro b hb;obtain⟨b',p,rfl⟩:∃ b' p,b=b'++[p]:=⟨b.dropLast,b.getLast (by intro e;rw[e]at hb;simp at hb),(List.dropLast_concat_getLast _).symm⟩
   rw[iK,Az,ih b' (by simpa using hb),←DK,iK]
 exact this _ b rfl
theorem Aa (p q:PR):srt [p,q]=if lt q.1 p.1 then [q,p] else [p,q]:=by simp[srt,ins]
theorem dV {x:PR}{l:List PR}:aW (x::l)=true↔(∀ y∈l,lt y.1 x.1=false)∧aW l=true:=by
 induction l generalizing x with
 | nil=>simp[aW]
 | cons y l ih =>
  rw[aW,DS,Bool.not_eq_true'];constructor
  ·rintro⟨h1,h2⟩
   refine⟨?_,h2⟩;intro z hz;rcases List.mem_cons.1 hz with rfl|hz
   ·exact h1
   ·exact jo h1 ((ih.1 h2).1 z hz)
  ·rintro⟨h1,h2⟩
   exact⟨h1 y (by simp),h2⟩
theorem mem_ins {p z:PR}:∀ {l:List PR},z∈ins p l↔z=p∨z∈l
 | []=>by simp[ins]
 | x::l=>by
  rw[ins]
  split
  ·simp
  ·simp[mem_ins (l:=l)]
   constructor
   ·rintro (h|h|h)<;>simp[h]
   ·rintro (h|h|h)<;>simp[h]
theorem nz (p:PR):∀ l:List PR,aW l=true→aW (ins p l)=true
 | [],_=>rfl
 | x::l,h=>by
  rw[ins]
  split
  ·rename_i hp
   rw[aW,h,jm hp];rfl
  ·rename_i hp
   have hp':lt p.1 x.1=false:=by simpa using hp
   obtain⟨h1,h2⟩:=dV.1 h;refine dV.2 ⟨?_,nz p l h2⟩;intro z hz;rcases mem_ins.1 hz with rfl|hz
   ·exact hp'
   ·exact h1 z hz
theorem dT (l:List PR):aW (srt l)=true:=by
 suffices h:∀ (l o:List PR),aW o=true→aW (l.foldl (fun o p=>ins p o) o)=true from h l [] rfl
 intro l
 induction l with
 | nil=>intro o h;exact h
 | cons p l ih=>intro o h;exact ih _ (nz p o h)
theorem r8 (p:PR):∀ l:List PR,(∀ x∈l,lt p.1 x.1=false)→ins p l=l++[p]
 | [],_=>rfl
 | x::l,h=>by
  rw[ins,if_neg (by rw[h x (by simp)];simp),r8 p l (fun y hy=>h y (by simp[hy]))];rfl
theorem lC {p:PR}:∀ {l:List PR},aW (l++[p])=true→aW l=true∧∀ x∈l,lt p.1 x.1=false
 | [],_=>by simp[aW]
 | x::l,h=>by
  rw[Dx,dV]at h;obtain⟨h1,h2⟩:=h;obtain⟨h3,h4⟩:=lC h2;refine⟨dV.2 ⟨fun y hy=>h1 y (by simp[hy]),h3⟩,?_⟩;intro y hy;rcases List.mem_cons.1 hy with rfl|hy
  ·exact h1 p (by simp)
  ·exact h4 y hy
theorem nZ (l:List PR)(h:aW l=true):srt l=l:=by
 have:∀ n (l:List PR),l.length=n→aW l=true→srt l=l:=by
  intro n
  induction n with
  | zero=>intro l hl _;rw[DD hl];rfl
  | succ n ih =>
   intro l hl h;obtain⟨l',p,rfl⟩:∃ b' p,l=b'++[p]:=⟨l.dropLast,l.getLast (by intro e;rw[e]at hl;simp at hl),(List.dropLast_concat_getLast _).symm⟩
   obtain⟨h1,h2⟩:=lC h;rw[iK,ih l' (by simpa using hl) h1,r8 p l' h2]
 exact this _ l rfl h
theorem Ab (l:List PR):srt (srt l)=srt l:=nZ _ (dT l)
theorem ug (p:PR):∀ (l:List PR) (k:Nat),k≤l.length→aW l=true→(∀ j (h:j<l.length),k≤j→lt p.1 l[j].1=true)→(∀ (h:0<k) (h':k-1<l.length),lt p.1 l[k-1].1=false)→ins p l=l.take k++p::l.drop k
 | [],k,hk,_,_,_=>by simp[ins]
 | x::l,0,_,_,h,_=>by
  have:=h 0 (by simp) (DC _);rw[ins,if_pos (by simpa using this)];rfl
 | x::l,k+1,hk,hs,h,h'=>by
  obtain⟨h1,h2⟩:=dV.1 hs
  have hpx:lt p.1 x.1=false:=by
   have hq:=h' (by omega) (by simp at hk⊢;omega)
   cases k with
   | zero=>simpa using hq
   | succ k =>
    have hm:((x::l)[k+1+1-1]'(by simp at hk⊢;omega))∈l:=by simp
    exact jo (h1 _ hm) hq
  rw[ins,if_neg (by rw[hpx];simp),ug p l k (by simpa using hk) h2]
  ·rfl
  ·intro j hj hkj
   have:=h (j+1) (by simpa using hj) (by omega);simpa using this
  ·intro hk0 hj
   obtain⟨m,rfl⟩:∃ m,k=m+1:=⟨k-1,by omega⟩
   have:=h' (by omega) (by simp at hj⊢;omega);simpa using this
theorem ky {a b:List PR}(k:Nat)(h:k<a.length)(h':k<b.length)(hne:a[k]≠b[k]):a≠b:=by
 rintro rfl;exact hne rfl
theorem Bd (p q:PR):(p.1==q.1&&p.2==q.2)=decide (p=q):=by
 rw[Bool.eq_iff_iff];simp[Prod.ext_iff]
theorem GL {T:Prop} (h:T:=by
 go_wp2;go_quiet (fail);go_wp2;go_ret;exact⟨by rw[decide_eq_false (ky k h0 h0b HE.o)];rfl,bt hB (C9 _ _)⟩
):T:=h
theorem FM {T:Prop} (h:T:=by
 exact GL
):T:=h
theorem Gk {T:Prop} (h:T:=by
 have he2:(a[k].1==b[k].1)=true:=by simp[he]
 have he3:(a[k].2==b[k].2)=true:=by simp[he]
 have HE:=zH he;clear he;go_wp2;go_quiet (fail);go_wp2;go_roundw
 case rel =>
  refine⟨k+1,by omega,by go_num,?_,bt hB (C9 _ _)⟩;intro j h h' hj
  by_cases hjk:j=k
  ·subst hjk;exact HE.o
  ·exact hH.o j h h' (by omega)
 case measure=>simp[intOf];omega
):T:=h
theorem GB {T:Prop} (h:T:=by
 obtain rfl:k=a.length:=by omega
 go_wp2;go_ret;exact⟨by rw[decide_eq_true (List.ext_getElem hL.o (fun j h h'=>hH.o j h h' h))];rfl,hB⟩
):T:=h
theorem tH (va vb:Value)(a b:List PR)(w:World)(ha:RP w va a)(hb:RP w vb b)(hla:a.length≤140737488355328)(hlb:b.length≤140737488355328):Calls Tryz.prog 73 #[va,vb] w fun e w'=>e=.returned (.bool (decide (a=b)))∧Bw_ w w':=by
 obtain⟨aa,ca,rfl,_,hca⟩:=ha.open;obtain⟨ab,cb,rfl,_,hcb⟩:=hb.open
 by_cases hl:a.length=b.length
 ·have hL:=zH hl
  have t1:((a.length:Int) != (b.length:Int))=false:=by rw[bne_eq_false_iff_eq];omega
  clear hl;go_enter Tryz.func73,Tryz.ntmps73;go_wp2
  go_loopw [5] (fun i wr=>∃ k:Nat,k≤a.length∧i=.int .i64 k∧Hid (∀ j (h:j<a.length) (h':j<b.length),j<k→a[j]=b[j])∧Below w.heap.size w wr) (fun i _=>a.length-(intOf i).toNat)
  case atStart=>exact⟨0,by omega,rfl,by intro j _ _ h;omega,DF _ _⟩
  case round =>
   obtain⟨k,hk,rfl,hH,hB⟩:=hrel
   by_cases h0:k<a.length
   ·have h0b:k<b.length:=by have:=hL.o;omega
    obtain⟨b1,o1,rfl,hc1,hc2⟩:=hca k h0;obtain⟨b2,o2,rfl,hc3,hc4⟩:=hcb k h0b;have hd1:=C8 hB hc1;have hd2:=C8 hB hc2;have hd3:=C8 hB hc3;have hd4:=C8 hB hc4;have kk1:(k:Int)<(a.length:Int):=by omega
    have kk2:(k:Int)<(b.length:Int):=by omega
    clear hca hcb
    by_cases he:a[k]=b[k]
    ·exact Gk
    ·have HE:=zH he
     have he4:=Bd a[k] b[k];rw[decide_eq_false he]at he4;clear he
     cases he2:(a[k].1==b[k].1)
     ·exact FM
     ·have he3:(a[k].2==b[k].2)=false:=by rw[he2,Bool.true_and]at he4;exact he4
      clear he4;exact FM
   ·exact GB
 ·have t1:((a.length:Int) != (b.length:Int))=true:=by rw[bne_iff_ne];omega
  go_enter Tryz.func73,Tryz.ntmps73;go_wp2;go_ret;exact⟨by rw[decide_eq_false (fun e=>hl (by rw[e]))];rfl,DF _ _⟩
theorem kH (p q:PR)(w:World):Calls Tryz.prog 191 #[.agg #[.string (bs p.1),.string (bs p.2)],.agg #[.string (bs q.1),.string (bs q.2)]] w fun e w'=>e=.returned (.bool (lt p.1 q.1))∧Bw_ w w':=by
 go_enter Tryz.func191,Tryz.ntmps191;go_wp2;go_ret;exact⟨rfl,bt (af _ _) (af _ _)⟩
theorem u9 (w:World)(b:Nat):Below b w w.drew:=(DF _ _).drew
theorem OP.empty (w:World):OP (w.alloc (.cells #[] 70)) w.heap.size (.slice (some ⟨w.heap.size,0,none⟩) 0 0) [] :=
 ⟨rfl,.inr ⟨w.heap.size,0,#[],rfl,DC _,by show(w.heap.push _)[w.heap.size]?=_;simp,DC _,by decide,rfl,rfl⟩⟩
theorem gX (v:Value)(l:List PR)(w:World)(hr:RP w v l)(hl:l.length*32≤140737488355328):Calls Tryz.prog 39 #[v] w fun e w'=>∃ v',e=.returned v'∧OP w' w.heap.size v' l∧Bw_ w w':=by
 obtain⟨hr0,a,cap,rfl,hle⟩:=id hr;have hnil:=nh hr0
 cases a with
 | none =>
  obtain⟨h0,rfl⟩:=hnil rfl;have hl0:l=[]:=DD h0;subst hl0;go_enter Tryz.func39,Tryz.ntmps39;have q:=fun w:World=>Lib.run_eql_slice_nil w 29 70 none 0 0 0 0 Tryz.underlying29;go_wp2;go_ret;exact⟨_,rfl,OP.nil _ _,DF _ _⟩
 | some ad =>
  have q:=fun w:World=>Lib.run_eql_slice_nil w 29 70 (some ad) l.length cap 0 0 Tryz.underlying29;have H:=zH hr;clear hr hr0 hnil;go_enter Tryz.func39,Tryz.ntmps39;go_wp2_with (at_builtin;refine df _ rfl _ _ _ rfl Tryz.underlying29 w.heap.size _ [] rfl (OP.empty w) _ l rfl (H.o.below (af _ _)) (by simpa using hl) (by simp) ?_;intro v' w1 hown1 hB1);go_ret;exact⟨_,rfl,hown1,(af w _).trans hB1⟩
def Ae:Value→Nat
 | .slice _ n _=>n
 | _=>0
theorem CB (w:World)(n:Nat)(hb:32*n≤281474976710656):∃ w',(Instr.makeSlice 29 (.int .i64 0) (.int .i64 (n:Int))).run Tryz.prog w=.ok (.slice (some ⟨w.heap.size,0,none⟩) 0 n) w' ∧OP w' w.heap.size (.slice (some ⟨w.heap.size,0,none⟩) 0 n) []∧Bw_ w w':=by
 obtain⟨i,hi,hz,hi1,hi2⟩:=info_parts fT;obtain⟨w',h1,h2,h3⟩:=run_make_own (P:=Tryz.prog) w w.heap.size 29 70 i _ 2 Tryz.underlying29 hi hz hi1 .i64 .i64 n (by rw[hi2];exact hb) (by unfold maxLen;omega) (DC _);exact⟨w',h1,h2,(DF _ _).grown h3 (DC _) (by simp)⟩
theorem nj (va vb:Value)(la lb:List PR)(w:World)(ha:RP w va la)(hb:RP w vb lb)(hl:(la.length+lb.length)*32≤140737488355328):Calls Tryz.prog 190 #[va,vb,.func (.func 191) #[] #[]] w fun e w'=>∃ v',e=.returned v'∧OP w' w.heap.size v' (mrg la lb)∧Bw_ w w':=by
 obtain⟨_,aa,ca,rfl,hca⟩:=id ha;obtain⟨_,ab,cb,rfl,hcb⟩:=id hb;obtain⟨w1,hmk,hown1,hB1⟩:=CB w (la.length+lb.length) (by omega);rw[Int.natCast_add]at hmk;have HA:=zH ha;have HB:=zH hb;clear ha hb;go_enter Tryz.func190,Tryz.ntmps190;go_wp2
 go_loopw [7,0,1] (fun vo xa xb wr=>∃ o xs ys,OP wr w.heap.size vo o∧RP w xa xs∧RP w xb ys∧Hid (o++mrg xs ys=mrg la lb)∧o.length+xs.length+ys.length=la.length+lb.length∧Below w.heap.size w wr) (fun vo xa xb _=>Ae xa+Ae xb)
 case atStart=>exact⟨[],la,lb,hown1,HA.o,HB.o,rfl,by simp,hB1⟩
 case round =>
  obtain⟨o,xs,ys,hown,hxs,hys,hH,hlen,hB⟩:=hrel;clear HA HB hown1 hmk hB1;obtain⟨a1,c1,rfl,hc1,hx⟩:=hxs.open;obtain⟨a2,c2,rfl,hc2,hy⟩:=hys.open;obtain⟨ao,co,rfl⟩:=ap hown;have HXS:=zH hxs;have HYS:=zH hys
  by_cases h1:0<xs.length
  ·by_cases h2:0<ys.length
   ·obtain⟨b1,o1,rfl,d1,d2⟩:=hx 0 h1
    obtain⟨b2,o2,rfl,d3,d4⟩:=hy 0 h2;rw[Nat.zero_mul,Nat.add_zero]at d1 d2 d3 d4;obtain⟨A1,C1,s1,hc1'⟩:=hxs.cutRun 1 1 rfl h1;obtain⟨A2,C2,s2,hc2'⟩:=hys.cutRun 1 1 rfl h2;have HC1:=zH hc1';have HC2:=zH hc2';clear hc1' hc2';clear hxs hys;replace d1:=C8 hB d1;replace d2:=C8 hB d2;replace d3:=C8 hB d3;replace d4:=C8 hB d4;have kk1:(0:Int)<(xs.length:Int):=by omega
    have kk2:(0:Int)<(ys.length:Int):=by omega
    have kk3:(1:Int)≤(xs.length:Int):=by omega
    have kk4:(1:Int)≤(ys.length:Int):=by omega
    have hX:xs=xs[0]::xs.drop 1:=by cases xs with|nil=>simp at h1|cons x xs=>rfl
    have hY:ys=ys[0]::ys.drop 1:=by cases ys with|nil=>simp at h2|cons x xs=>rfl
    have HX:=zH hX;have HY:=zH hY;clear hX hY hx hy
    cases hlt:lt ys[0].1 xs[0].1
    ·have HL:=zH hlt;clear hlt
     go_wp2;go_region_with (go_at_call 191;refine(kH _ _ _).mono ?_;rw[HL.o];rintro e w2 ⟨rfl,hB2⟩)
     all_goals
      have hB2':Below wr.heap.size wr w2:=(b_drew wr).trans hB2;have e1:=C8 hB2' d1;have e2:=C8 hB2' d2;have hown2:=World.ownsRow.drew (hown.below hB2');have hby:(o.length+1)*32≤140737488355328:=by omega
      have hbase:w.heap.size≤w2.drew.heap.size:=by have:=hB.size;have:=hB2'.size;show w.heap.size≤w2.heap.size;omega
      clear hown d1 d2 d3 d4;go_wp2;go_region_law (refine gA w2.drew xs[0] rfl _ _ 29 rfl Tryz.underlying29 w.heap.size _ o rfl hown2 _ rfl hby hbase ?_;intro g cap w3 hown3 hB3)
      all_goals
       simp only[Ec,DH,DN];go_frame;go_wp2;go_roundw
       case rel =>
        refine⟨o++[xs[0]],xs.drop 1,ys,hown3,HC1.o,HYS.o,?_,by simp;omega,hB.trans ((hB2'.mono hB.size).trans ((u9 w2 _).trans hB3))⟩;have hh:=hH.o;rw[HX.o,HY.o,dg,if_neg (by rw[HL.o];simp),←HY.o]at hh;unfold Hid;rw[←hh];simp
       case measure=>simp[Ae];omega
    ·have HL:=zH hlt;clear hlt
     go_wp2;go_region_with (go_at_call 191;refine(kH _ _ _).mono ?_;rw[HL.o];rintro e w2 ⟨rfl,hB2⟩)
     all_goals
      have hB2':Below wr.heap.size wr w2:=(b_drew wr).trans hB2;have e1:=C8 hB2' d3;have e2:=C8 hB2' d4;have hown2:=World.ownsRow.drew (hown.below hB2');have hby:(o.length+1)*32≤140737488355328:=by omega
      have hbase:w.heap.size≤w2.drew.heap.size:=by have:=hB.size;have:=hB2'.size;show w.heap.size≤w2.heap.size;omega
      clear hown d1 d2 d3 d4;go_wp2;go_region_law (refine gA w2.drew ys[0] rfl _ _ 29 rfl Tryz.underlying29 w.heap.size _ o rfl hown2 _ rfl hby hbase ?_;intro g cap w3 hown3 hB3)
      all_goals
       simp only[Ec,DH,DN];go_frame;go_wp2;go_roundw
       case rel =>
        refine⟨o++[ys[0]],xs,ys.drop 1,hown3,HXS.o,HC2.o,?_,by simp;omega,hB.trans ((hB2'.mono hB.size).trans ((u9 w2 _).trans hB3))⟩;have hh:=hH.o;rw[HX.o,HY.o,dg,if_pos HL.o,←HX.o]at hh;unfold Hid;rw[←hh];simp
       case measure=>simp[Ae];omega
   ·obtain rfl:ys=[]:=DD (by omega)
    have kk1:(0:Int)<(xs.length:Int):=by omega
    clear hx hy hxs hys;have hby:(o.length+xs.length)*32≤140737488355328:=by simp at hlen;omega
    have hby2:((o++xs).length+0)*32≤140737488355328:=by simp at hlen⊢;omega
    have hbase:=hB.size;have hx:=HXS.o.below hB;go_wp2_with (first|(at_builtin;refine df w2 rfl _ _ _ rfl Tryz.underlying29 w.heap.size _ (o++xs) rfl hown2 _ [] rfl (HYS.o.below hB2') hby2 hB2'.size ?_;intro v3 w3 hown3 hB3)|(at_builtin;refine df wr rfl _ _ _ rfl Tryz.underlying29 w.heap.size _ o rfl hown _ xs rfl hx hby hbase ?_;intro v2 w2 hown2 hB2;have hB2':=hB.trans hB2));go_ret;have hh:=hH.o;rw[jl]at hh;rw[hh,DR]at hown3;exact⟨_,rfl,hown3,hB2'.trans hB3⟩
  ·obtain rfl:xs=[]:=DD (by omega)
   clear hx hy hxs hys;have hby:(o.length+0)*32≤140737488355328:=by simp at hlen;omega
   have hby2:((o++[]).length+ys.length)*32≤140737488355328:=by simp at hlen⊢;omega
   have hbase:=hB.size;have hx:=HXS.o.below hB;go_wp2_with (first|(at_builtin;refine df w2 rfl _ _ _ rfl Tryz.underlying29 w.heap.size _ (o++[]) rfl hown2 _ ys rfl (HYS.o.below hB2') hby2 hB2'.size ?_;intro v3 w3 hown3 hB3)|(at_builtin;refine df wr rfl _ _ _ rfl Tryz.underlying29 w.heap.size _ o rfl hown _ [] rfl hx hby hbase ?_;intro v2 w2 hown2 hB2;have hB2':=hB.trans hB2));go_ret;have hh:=hH.o;rw[k9]at hh;rw[DR,hh]at hown3;exact⟨_,rfl,hown3,hB2'.trans hB3⟩
theorem OP.mono {w:World}{bZ base':Nat}{v:Value}{l:List PR}(h:OP w bZ v l)(hb:base'≤bZ):OP w base' v l:=dF h hb
theorem rH {w:World}{bZ:Nat}{v:Value}{p q:PR}(h:OP w bZ v [p,q]):∃ g cap,v=.slice (some ⟨g,0,none⟩) 2 cap∧bZ≤g:=by
 rcases h.2 with ⟨_,h0⟩|⟨g',cap',cur,hv,hg,_⟩
 ·simp at h0
 ·exact⟨g',cap',hv,hg⟩
theorem iO {w:World}{bZ g cap:Nat}{p q:PR}(h:OP w bZ (.slice (some ⟨g,0,none⟩) 2 cap) [p,q]):w.cell? ⟨g,0,none⟩=some (.string (bs p.1))∧w.cell? ⟨g,1,none⟩=some (.string (bs p.2))∧w.cell? ⟨g,2,none⟩=some (.string (bs q.1))∧w.cell? ⟨g,3,none⟩=some (.string (bs q.2)) ∧w.frozen? ⟨g,0,none⟩=false∧w.frozen? ⟨g,1,none⟩=false∧w.frozen? ⟨g,2,none⟩=false∧w.frozen? ⟨g,3,none⟩=false:=by
 have hc:=World.ownsRow.cells (g:=g) h rfl
 have hf:∀ j,w.frozen? ⟨g,j,none⟩=false:=by
  rcases h.2 with ⟨hv,_⟩|⟨g',cap',cur,hv,_,hh,_⟩
  ·simp at hv
  ·simp only[Value.slice.injEq,Option.some.injEq,Addr.mk.injEq,and_true,true_and]at hv
   obtain⟨rfl,_,rfl⟩:=hv;intro j;simp[World.frozen?,hh]
 refine⟨?_,?_,?_,?_,hf _,hf _,hf _,hf _⟩
 ·have:=hc 0 _ rfl;rwa [Addr.add_lit]at this
 ·have:=hc 1 _ rfl;rwa [Addr.add_lit]at this
 ·have:=hc 2 _ rfl;rwa [Addr.add_lit]at this
 ·have:=hc 3 _ rfl;rwa [Addr.add_lit]at this
theorem wS {w:World}{bZ g cap:Nat}{p q:PR}(h:OP w bZ (.slice (some ⟨g,0,none⟩) 2 cap) [p,q])(hb:bZ≤g)(hs:bZ≤w.heap.size):OP ((((w.setCell ⟨g,0,none⟩ (.string (bs q.1))).setCell ⟨g,1,none⟩ (.string (bs q.2))).setCell ⟨g,2,none⟩ (.string (bs p.1))).setCell ⟨g,3,none⟩ (.string (bs p.2))).drew bZ (.slice (some ⟨g,0,none⟩) 2 cap) [q,p] ∧Below bZ w ((((w.setCell ⟨g,0,none⟩ (.string (bs q.1))).setCell ⟨g,1,none⟩ (.string (bs q.2))).setCell ⟨g,2,none⟩ (.string (bs p.1))).setCell ⟨g,3,none⟩ (.string (bs p.2))).drew:=by
 have h1:=(World.ownsRow.stored h 0 (.string (bs q.1))).1;have h2:=(World.ownsRow.stored h1 1 (.string (bs q.2))).1;have h3:=(World.ownsRow.stored h2 2 (.string (bs p.1))).1;have h4:=(World.ownsRow.stored h3 3 (.string (bs p.2))).1;exact⟨World.ownsRow.drew h4,(((((DF bZ w).setCell hb _).setCell hb _).setCell hb _).setCell hb _).drew⟩
theorem zO (v:Value)(p q:PR)(w:World)(hr:RP w v [p,q])(hl:[p,q].length*32≤140737488355328):Calls Tryz.prog 189 #[v] w fun e w'=>∃ v',e=.returned v'∧OP w' w.heap.size v' (srt [p,q])∧Bw_ w w':=by
 rw[Aa]
 cases hlt:lt q.1 p.1
 ·skip
  have HL:=zH hlt;clear hlt;go_enter Tryz.func189,Tryz.ntmps189;go_wp2_with (go_at_call 39;refine(gX _ [p,q] _ hr hl).mono ?_;rintro e w1 ⟨vc,rfl,hown,hB1⟩;obtain⟨g,cc,rfl,hgb⟩:=rH hown;obtain⟨c0,c1,c2,c3,f0,f1,f2,f3⟩:=iO hown);have HO:=zH hown;clear hown;go_region_with (go_at_call 191;refine(kH _ _ _).mono ?_;rw[HL.o];rintro e w2 ⟨rfl,hB2⟩)
  all_goals
   have hB3:=(b_drew w1).trans hB2;go_wp2;go_ret;exact⟨_,rfl,HO.o.below hB3,bt hB1 hB3⟩
 ·skip
  have HL:=zH hlt;clear hlt;go_enter Tryz.func189,Tryz.ntmps189;go_wp2_with (go_at_call 39;refine(gX _ [p,q] _ hr hl).mono ?_;rintro e w1 ⟨vc,rfl,hown,hB1⟩;obtain⟨g,cc,rfl,hgb⟩:=rH hown;obtain⟨c0,c1,c2,c3,f0,f1,f2,f3⟩:=iO hown);have HO:=zH hown;clear hown;go_region_with (go_at_call 191;refine(kH _ _ _).mono ?_;rw[HL.o];rintro e w2 ⟨rfl,hB2⟩)
  all_goals
   have hB3:=(b_drew w1).trans hB2;have ho2:=HO.o.below hB3;clear c0 c1 c2 c3 f0 f1 f2 f3 HO;obtain⟨c0,c1,c2,c3,f0,f1,f2,f3⟩:=iO ho2;have HO2:=zH ho2;clear ho2;go_wp2;go_region
   all_goals
    go_wp2;go_ret;obtain⟨k1,k2⟩:=wS (HO2.o) hgb ((bt hB1 hB3).size);exact⟨_,rfl,k1,(bt hB1 hB3).trans k2⟩
theorem sN:∀ (n:Nat) (v:Value) (l:List PR) (w:World),l.length≤n→RP w v l→l.length*32≤140737488355328 → Calls Tryz.prog 189 #[v] w fun e w'=>∃ v',e=.returned v'∧OP w' w.heap.size v' (srt l)∧Bw_ w w':=by
 intro n
 induction n with
 | zero =>
  intro v l w hn hr hl;obtain rfl:l=[]:=DD (by omega);go_enter Tryz.func189,Tryz.ntmps189;go_wp2_with (go_at_call 39;refine(gX _ _ _ hr hl).mono ?_;rintro e w1 ⟨vc,rfl,hown,hB1⟩;obtain⟨ac,cc,rfl⟩:=ap hown);go_ret;exact⟨_,rfl,hown,hB1⟩
 | succ n ih =>
  intro v l w hn hr hl
  by_cases h1:l.length<2
  ·have hi1:(l.length:Int)<2:=by omega
   have hs:srt l=l:=by
    match l,h1 with
    | [],_=>rfl
    | [p],_=>rfl
   have HS:=zH hs;clear hs;go_enter Tryz.func189,Tryz.ntmps189;go_wp2_with (go_at_call 39;refine(gX _ l _ hr hl).mono ?_;rintro e w1 ⟨vc,rfl,hown,hB1⟩;obtain⟨ac,cc,rfl⟩:=ap hown);go_ret;exact⟨_,rfl,by rw[HS.o];exact hown,hB1⟩
  ·by_cases h2:l.length=2
   ·obtain⟨p,q,rfl⟩:∃ p q,l=[p,q]:=by
     match l,h2 with
     | [p,q],_=>exact⟨p,q,rfl⟩
    exact zO v p q w hr hl
   ·have hi1:¬(l.length:Int)<2:=by omega
    have hi2:((l.length:Int)==2)=false:=by rw[beq_eq_false_iff_ne];omega
    clear h1 h2;go_enter Tryz.func189,Tryz.ntmps189;go_wp2_with (go_at_call 39;refine(gX _ l _ hr hl).mono ?_;rintro e w1 ⟨vc,rfl,hown,hB1⟩;obtain⟨ac,cc,rfl⟩:=ap hown);have hrp:=hown.reads;obtain⟨A1,C1,s1,r1⟩:=hrp.headRun (l.length / 2) ((l.length:Int) / 2) (by omega) (by omega);obtain⟨A2,C2,s2,r2⟩:=hrp.cutRun (l.length / 2) ((l.length:Int) / 2) (by omega) (by omega);have R1:=zH r1;have R2:=zH r2;have hn1:(l.take (l.length / 2)).length≤n:=by simp;omega
    have hn2:(l.drop (l.length / 2)).length≤n:=by simp;omega
    have hl1:(l.take (l.length / 2)).length*32≤140737488355328:=by simp;omega
    have hl2:(l.drop (l.length / 2)).length*32≤140737488355328:=by simp;omega
    have hl3:((srt (l.take (l.length / 2))).length+(srt (l.drop (l.length / 2))).length)*32≤140737488355328:=by rw[bK,bK];simp;omega
    clear r1 r2 hown hrp
    go_region_with (first
     | (go_at_call 190;refine(nj _ _ _ _ _ ha3 hb3 hl3).mono ?_;rintro e w4 ⟨v4,rfl,hown4,hB4⟩)
     | (go_at_call 189;refine(ih _ (l.drop (l.length / 2)) w2 hn2 (R2.o.below hB2') hl2).mono ?_;rintro e w3 ⟨vb,rfl,hown3,hB3⟩;have ha3:=hown2.reads.below hB3;have hb3:=hown3.reads;have hB3':=bt hB2' hB3;obtain⟨ab,cb,rfl⟩:=ap hown3)
     | (go_at_call 189;refine(ih _ (l.take (l.length / 2)) w1.drew hn1 (R1.o.below (b_drew w1)) hl1).mono ?_;rintro e w2 ⟨va,rfl,hown2,hB2⟩;have hB2':Below w1.heap.size w1 w2:=(b_drew w1).trans hB2;obtain⟨aa,ca,rfl⟩:=ap hown2))
    all_goals
     go_wp2;go_ret;rw[uU,List.take_append_drop]at hown4;have hB5:=bt hB1 (bt hB3' hB4);exact⟨_,rfl,hown4.mono (bt hB1 hB3').size,hB5⟩
def RR (w:World)(v:Value)(rows:List (List PR)):Prop:=∃ a cap,v=.slice a rows.length cap∧rows.length≤cap∧(a=none→rows.length=0∧cap=0) ∧
 ∀ k (hk:k<rows.length),∃ b off u,a=some ⟨b,off,none⟩∧w.cell? ⟨b,off+k,none⟩=some u∧RP w u rows[k]
theorem RR.below {w w':World}{v:Value}{rows:List (List PR)}(h:RR w v rows)(hB:Below w.heap.size w w'):RR w' v rows:=by
 obtain⟨a,cap,hv,hle,hn,hc⟩:=h;refine⟨a,cap,hv,hle,hn,fun k hk=>?_⟩;obtain⟨b,off,u,ha,hu,hr⟩:=hc k hk;exact⟨b,off,u,ha,C8 hB hu,hr.below hB⟩
theorem jp (rows:List (List PR))(k:Nat)(h:k<rows.length):(rows.take (k+1)).flatten=(rows.take k).flatten++rows[k]:=by
 rw[Dz h,List.flatten_append];simp only[List.flatten_cons,List.flatten_nil,DR]
theorem qk (rows:List (List PR))(k:Nat):(rows.take k).flatten.length≤rows.flatten.length:=by
 have h:rows.flatten=(rows.take k).flatten++(rows.drop k).flatten:=by rw[←List.flatten_append,List.take_append_drop]
 rw[h,DL];omega
theorem xH (v:Value)(rows:List (List PR))(w:World)(hr:RR w v rows)(hn:rows.length≤140737488355328)(hl:rows.flatten.length*32≤140737488355328):Calls Tryz.prog 142 #[v] w fun e w'=>∃ v',e=.returned v'∧OP w' w.heap.size v' (srt rows.flatten)∧Bw_ w w':=by
 obtain⟨a,cap,rfl,_,_,hc⟩:=hr;go_enter Tryz.func142,Tryz.ntmps142;go_wp2
 go_loopw [2,7] (fun out i wr=>∃ (k:Nat) (o:List PR),k≤rows.length∧i=.int .i64 k∧OP wr w.heap.size out o∧Hid (o=srt (rows.take k).flatten)∧Below w.heap.size w wr) (fun _ i _=>rows.length-(intOf i).toNat)
 case atStart=>exact⟨0,[],by omega,rfl,OP.nil _ _,rfl,DF _ _⟩
 case round =>
  obtain⟨k,o,hk,rfl,hown,hH,hB⟩:=hrel;obtain⟨ao,co,rfl⟩:=ap hown;have hO:=zH hown;clear hown
  by_cases h0:k<rows.length
  ·obtain⟨b,off,u,rfl,hu,hru⟩:=hc k h0
   obtain⟨ar,cr,rfl,_,_⟩:=hru.open;replace hu:=C8 hB hu;have kk1:(k:Int)<(rows.length:Int):=by omega
   have hru2:=hru.below hB;have hf:=jp rows k h0;have hf2:=qk rows (k+1);rw[hf,DL]at hf2;have hl1:rows[k].length*32≤140737488355328:=by omega
   have hl2:(o.length+(srt rows[k]).length)*32≤140737488355328:=by rw[hH.o,bK,bK];omega
   have HF:=zH hf;clear hf hru hc hf2
   go_wp2_with (first
    | (go_at_call 190;refine(nj _ _ _ _ _ (hO.o.below hB2).reads hown2.reads hl2).mono ?_;rintro e w3 ⟨v3,rfl,hown3,hB3⟩)
    | (go_at_call 189;refine(sN _ _ rows[k] wr (DC _) hru2 hl1).mono ?_;rintro e w2 ⟨vb,rfl,hown2,hB2⟩;obtain⟨ab,cb,rfl⟩:=ap hown2))
   go_roundw
   case rel =>
    have hB4:=bt hB hB2;refine⟨k+1,_,by omega,by go_num,hown3.mono hB4.size,?_,bt hB4 hB3⟩;unfold Hid;rw[HF.o,hH.o,uU]
   case measure=>simp[intOf];omega
  ·obtain rfl:k=rows.length:=by omega
   go_wp2;go_ret;have:=hH.o;rw[List.take_length]at this;exact⟨_,rfl,by rw[←this];exact hO.o,hB⟩
def run1 (k:LU_):List PR→Nat
 | []=>0
 | p::l=>if p.1=k then run1 k l+1 else 0
theorem uQ (k:LU_):∀ l,run1 k l≤l.length
 | []=>DC _
 | p::l=>by have:=uQ k l;unfold run1;split<;>simp;omega
def head1:List PR→Nat
 | []=>0
 | p::l=>run1 p.1 l+1
theorem fE (l:List PR)(h:0<l.length):1≤head1 l∧head1 l≤l.length:=by
 cases l with
 | nil=>simp at h
 | cons p l=>have:=uQ p.1 l;simp only[head1,Du];omega
theorem sb (l:List PR)(h:0<l.length)(k:Nat)(hk:k<head1 l)(hl:k<l.length):l[k].1=l[0].1:=by
 cases l with
 | nil=>simp at h
 | cons p l =>
  have key:∀ (l:List PR) (k:Nat) (hl:k<l.length),k<run1 p.1 l→l[k].1=p.1:=by
   intro l
   induction l with
   | nil=>intro k hl;simp at hl
   | cons q l ih =>
    intro k hl hk;unfold run1 at hk
    split at hk
    ·cases k with
     | zero=>assumption
     | succ k=>exact ih k (by simpa using hl) (by omega)
    ·omega
  cases k with
  | zero=>rfl
  | succ k=>exact key l k (by simpa using hl) (by simpa[head1] using hk)
theorem pk (l:List PR)(h:0<l.length)(hl:head1 l<l.length):l[head1 l].1≠l[0].1:=by
 cases l with
 | nil=>simp at h
 | cons p l =>
  have key:∀ (l:List PR) (hl:run1 p.1 l<l.length),l[run1 p.1 l].1≠p.1:=by
   intro l
   induction l with
   | nil=>intro hl;simp at hl
   | cons q l ih =>
    intro hl
    by_cases hq:q.1=p.1
    ·have e:run1 p.1 (q::l)=run1 p.1 l+1:=if_pos hq
     simp only[e,DH];exact ih (by rw[e]at hl;simpa using hl)
    ·have e:run1 p.1 (q::l)=0:=if_neg hq
     simp only[e,DN];exact hq
  simp only[head1,DH,DN];exact key l (by simpa[head1] using hl)
theorem nB (l:List PR)(h:0<l.length)(k:Nat)(h1:1≤k)(hl:k≤l.length)(hin:∀ j (hj:j<k),l[j].1=l[0].1)(hout:∀ (hk:k<l.length),l[k].1≠l[0].1):k=head1 l:=by
 have hp:=fE l h;rcases Nat.lt_trichotomy k (head1 l) with hlt|he|hgt
 ·exact absurd (sb l h k hlt (by omega)) (hout (by omega))
 ·exact he
 ·exact absurd (hin (head1 l) hgt) (pk l h (by omega))
def sh:Nat→List PR→List (List PR)
 | 0,_=>[]
 | n+1,l=>if l.length=0 then [] else l.take (head1 l)::sh n (l.drop (head1 l))
def grp (l:List PR):List (List PR):=sh l.length l
theorem pq:∀ (n m:Nat) (l:List PR),l.length≤n→l.length≤m→sh n l=sh m l
 | 0,0,_,_,_=>rfl
 | 0,m+1,l,h,_=>by simp[sh,show l.length=0 by omega]
 | n+1,0,l,_,h=>by simp[sh,show l.length=0 by omega]
 | n+1,m+1,l,h,h'=>by
  unfold sh
  split
  ·rfl
  ·have:=fE l (by omega)
   rw[pq n m _ (by simp;omega) (by simp;omega)]
theorem gq:grp []=[]:=rfl
theorem iX (l:List PR)(h:0<l.length):grp l=l.take (head1 l)::grp (l.drop (head1 l)):=by
 have hp:=fE l h;obtain⟨n,hn⟩:∃ n,l.length=n+1:=⟨l.length-1,by omega⟩
 unfold grp;rw[hn,sh,if_neg (by omega)];congr 1;exact pq _ _ _ (by simp;omega) (by simp)
theorem cL:∀ (n:Nat) (l:List PR),l.length≤n→(grp l).length≤l.length
 | 0,l,h=>by
  have:l=[]:=DD (by omega);subst this;simp[gq]
 | n+1,l,h=>by
  by_cases h0:0<l.length
  ·have hp:=fE l h0
   rw[iX l h0];have:=cL n (l.drop (head1 l)) (by simp;omega);simp at this⊢;omega
  ·have:l=[]:=DD (by omega)
   subst this;simp[gq]
theorem ul:∀ (n:Nat) (l:List PR),l.length≤n→∀ g∈grp l,0<g.length
 | 0,l,h=>by
  have:l=[]:=DD (by omega);subst this;simp[gq]
 | n+1,l,h=>by
  by_cases h0:0<l.length
  ·have hp:=fE l h0
   rw[iX l h0];intro g hg;rcases List.mem_cons.1 hg with rfl|hg
   ·simp;omega
   ·exact ul n _ (by simp;omega) g hg
  ·have:l=[]:=DD (by omega)
   subst this;simp[gq]
def cB (k:LU_)(l:List PR):List PR:=l.filter fun p=>p.1==k
theorem fC (k:LU_)(a b:List PR):cB k (a++b)=cB k a++cB k b:=by simp[cB]
theorem ik (k:LU_)(l:List PR)(h:∀ p∈l,p.1≠k):cB k l=[]:=by
 rw[cB,List.filter_eq_nil_iff];intro p hp;simpa using h p hp
theorem ofKey_all (k:LU_)(l:List PR)(h:∀ p∈l,p.1=k):cB k l=l:=by
 rw[cB,List.filter_eq_self];intro p hp;simpa using h p hp
theorem lt_ne {a b:LU_}(h:lt a b=true):a≠b:=by
 rintro rfl;rw[lh]at h
 cases h
theorem ph (k:LU_)(p:PR):∀ l:List PR,aW l=true→cB k (ins p l)=cB k l++cB k [p]
 | [],_=>by simp[ins,cB]
 | q::l,hs=>by
  obtain⟨h1,h2⟩:=dV.1 hs;unfold ins
  split
  ·rename_i hlt
   have e:p::q::l=[p]++(q::l):=rfl;rw[e,fC]
   by_cases hp:p.1=k
   ·have:cB k (q::l)=[]:=by
     refine ik _ _ fun y hy=>?_;rcases List.mem_cons.1 hy with rfl|hy
     ·exact fun e=>lt_ne hlt (hp.trans e.symm)
     ·intro e
      have h3:=h1 y hy
      have h4:lt q.1 p.1=false:=by
       rw[e,←hp]at h3;exact jm hlt
      have h5:lt y.1 q.1=true:=by rw[e,←hp];exact hlt
      rw[h5]at h3
      cases h3
    rw[this,DR,D5]
   ·have:cB k [p]=[]:=ik _ _ fun y hy=>by simp at hy;subst hy;exact hp
    rw[this,DR,D5]
  ·have ih:=ph k p l h2
   have e1:q::ins p l=[q]++ins p l:=rfl;have e2:q::l=[q]++l:=rfl;rw[e1,e2,fC,fC,ih,DK]
theorem pg (k:LU_)(l:List PR):cB k (srt l)=cB k l:=by
 have h:∀ (l:List PR),cB k (srt l.reverse)=cB k l.reverse:=by
  intro l
  induction l with
  | nil=>rfl
  | cons p l ih=>rw[List.reverse_cons,iK,ph _ _ _ (dT _),ih,fC]
 have:=h l.reverse
 rwa [List.reverse_reverse]at this
theorem qL (l:List PR)(k:Nat)(h:aW l=true):aW (l.drop k)=true:=by
 rw[fI]at h⊢;intro j hj;simp only[List.getElem_drop];exact h (k+j) (by simp at hj;omega)
theorem oN (l:List PR)(h:aW l=true):∀ (i j:Nat) (hi:i≤j) (hj:j<l.length),lt l[j].1 l[i].1=false:=by
 intro i j hi hj
 induction j with
 | zero =>
   obtain rfl:i=0:=by omega
   exact lh _
 | succ j ih =>
  by_cases he:i=j+1
  ·subst he;exact lh _
  ·have h1:=ih (by omega) (by omega)
   have h2:=(fI l).1 h j hj;exact jo h1 h2
theorem lQ {a b:LU_}(h:lt b a=false)(hne:a≠b):lt a b=true:=by
 have:=Bg b a;rw[h,Bool.false_or]at this;have e:(b==a)=false:=by simpa using fun e:b=a=>hne e.symm
 rw[e]at this;simpa using this.symm
theorem pm (l:List PR)(h:0<l.length):∀ p∈l.take (head1 l),p.1=l[0].1:=by
 intro p hp;obtain⟨k,hk,rfl⟩:=List.getElem_of_mem hp;rw[List.getElem_take];exact sb l h k (by simp at hk;omega) (by simp at hk;omega)
theorem su (l:List PR)(h:0<l.length)(hs:aW l=true):∀ p∈l.drop (head1 l),lt l[0].1 p.1=true:=by
 intro p hp;obtain⟨k,hk,rfl⟩:=List.getElem_of_mem hp;rw[List.getElem_drop];have hk':head1 l+k<l.length:=by simp at hk;omega
 have h1:=pk l h (by omega);have h2:=oN l hs 0 (head1 l) (by omega) (by omega);have h3:=oN l hs (head1 l) (head1 l+k) (by omega) hk';have h4:lt l[0].1 l[head1 l].1=true:=lQ h2 (Ne.symm h1)
 by_cases he:l[head1 l+k].1=l[head1 l].1
 ·rw[he];exact h4
 ·exact lg h4 (lQ h3 (Ne.symm he))
def hk1:List PR→LU_
 | []=>[]
 | p::_=>p.1
def CT (G:List (List PR))(l:List PR):Prop:=(∀ g∈G,g=cB (hk1 g) l∧(∃ p∈l,hk1 g=p.1))∧∀ i (h:i+1<G.length),lt (hk1 G[i]) (hk1 G[i+1])=true
theorem iY:∀ (n:Nat) (l:List PR),l.length≤n→aW l=true→CT (grp l) l
 | 0,l,hn,_=>by
  have:l=[]:=DD (by omega);subst this;rw[gq];exact⟨by simp,fun i h=>by simp at h⟩
 | n+1,l,hn,hs=>by
  by_cases h0:0<l.length
  ·have hp:=fE l h0
   obtain⟨ih1,ih2⟩:=iY n (l.drop (head1 l)) (by simp;omega) (qL l _ hs)
   have hk0:hk1 (l.take (head1 l))=l[0].1:=by
    cases l with
    | nil=>simp at h0
    | cons p l =>
      obtain⟨m,hm⟩:∃ m,head1 (p::l)=m+1:=⟨head1 (p::l)-1,by omega⟩
      rw[hm];rfl
   have hsplit:∀ k,cB k l=cB k (l.take (head1 l))++cB k (l.drop (head1 l)):=fun k=>by rw[←fC,List.take_append_drop]
   have hfirst:∀ g∈grp (l.drop (head1 l)),lt l[0].1 (hk1 g)=true:=by
    intro g hg;obtain⟨_,p,hp1,hp2⟩:=ih1 g hg;rw[hp2];exact su l h0 hs p hp1
   rw[iX l h0];refine⟨fun g hg=>?_,fun i hi=>?_⟩
   ·rcases List.mem_cons.1 hg with rfl|hg
    ·rw[hk0,hsplit,ofKey_all _ _ (pm l h0),ik _ (l.drop (head1 l)) (fun p hp e=>lt_ne (su l h0 hs p hp) e.symm),DR]
     exact⟨rfl,l[0],DY h0,rfl⟩
    ·obtain⟨e1,p,hp1,hp2⟩:=ih1 g hg
     refine⟨?_,p,List.mem_of_mem_drop hp1,hp2⟩;rw[hsplit,ik _ (l.take (head1 l)) (fun q hq e=>lt_ne (hfirst g hg) (by rw[←e];exact(pm l h0 q hq).symm)),D5];exact e1
   ·cases i with
    | zero =>
     simp only[DN,DH,DE];rw[hk0];exact hfirst _ (DY _)
    | succ i =>
     simp only[DH];exact ih2 i (by simpa using hi)
  ·have:l=[]:=DD (by omega)
   subst this;rw[gq];exact⟨by simp,fun i h=>by simp at h⟩
end
section
attribute [local go_sem] Oper.semAt_some
theorem pC (a:Addr)(i:Nat):(a.add i).block=a.block:=by unfold Addr.add;split<;>rfl
theorem RP.move {w w':World}{a:Option Addr}{n c:Nat}{l:List PR}(h:RP w (.slice a n c) l)(hk:∀ ad,a=some ad→w'.heap[ad.block]?=w.heap[ad.block]?):RP w' (.slice a n c) l:=by
 obtain⟨⟨a',cap,hv,hn,hc⟩,h2⟩:=h;injection hv with e1 e2 e3
 subst e1 e3;refine⟨⟨a,c,by rw[e2],hn,fun j u hj=>?_⟩,h2⟩;obtain⟨b,off,ha,hu⟩:=hc j u hj;have e:w'.cell? ⟨b,off+j,none⟩=w.cell? ⟨b,off+j,none⟩:=World.cell?_of_block (w:=w) (a:=⟨b,off+j,none⟩) (hk ⟨b,off,none⟩ ha);exact⟨b,off,ha,e.trans hu⟩
theorem RP.cutRunB {w:World}{a:Option Addr}{cap:Nat}{l:List PR}(h:RP w (.slice a l.length cap) l)(k:Nat)(hk:k≤l.length):∃ A C,(∀ wx,(Instr.slice 29 (.slice a l.length cap) (some (.int .i64 (k:Int))) none none).run Tryz.prog wx=.ok (.slice A (l.length-k) C) wx)∧RP w (.slice A (l.length-k) C) (l.drop k)∧(∀ ad,A=some ad→∃ ad0,a=some ad0∧ad.block=ad0.block):=by
 refine⟨_,_,fun wx=>?_,h.cut k hk,?_⟩
 ·rw[run_slice_l wx 29 a l.length cap (by kernel_rfl) .i64 k (by omega) (by omega)]
  have he:(sizeOf (Tryz.prog.elem 29)).run Tryz.prog wx=.ok 2 wx:=by kernel_rfl
  rw[he];simp[Result.andThen,sliced]
 ·intro ad hA
  split at hA
  ·exact⟨ad,hA,rfl⟩
  ·obtain⟨ad0,h1,h2⟩:=Option.map_eq_some_iff.1 hA
   exact⟨ad0,h1,by rw[←h2,pC]⟩
theorem RP.fullRun {w:World}{a:Option Addr}{cap:Nat}{l:List PR}(h:RP w (.slice a l.length cap) l)(k:Nat)(h1:1≤k)(hk:k≤l.length):∃ A,(∀ wx,(Instr.slice 29 (.slice a l.length cap) none (some (.int .i64 (k:Int))) (some (.int .i64 (k:Int)))).run Tryz.prog wx=.ok (.slice A k k) wx)∧RP w (.slice A k k) (l.take k)∧(∀ ad,A=some ad→∃ ad0,a=some ad0∧ad.block=ad0.block):=by
 have hx:=RP.head h k hk;obtain⟨_,a',cap',hv,hle⟩:=id h;injection hv with _ _ h3
 subst h3;refine⟨a.map (·.add (0*2)),fun wx=>?_,?_,fun ad hA=>by obtain⟨ad0,h1,h2⟩:=Option.map_eq_some_iff.1 hA;exact⟨ad0,h1,by rw[←h2,pC]⟩⟩
 ·rw[run_slice_hm wx 29 a l.length cap (by kernel_rfl) .i64 .i64 k k (by omega) (by omega) (by omega)]
  have he:(sizeOf (Tryz.prog.elem 29)).run Tryz.prog wx=.ok 2 wx:=by kernel_rfl
  rw[he];simp[Result.andThen,sliced,show k≠0 by omega]
 ·have hlen:(l.take k).length=k:=by simp;omega
  unfold sliced at hx;rw[if_neg (by omega)]at hx;obtain⟨⟨a1,c1,hv1,hn1,hc1⟩,_⟩:=hx;injection hv1 with e1 e2 e3
  refine⟨⟨_,k,by rw[hlen],?_,?_⟩,_,k,by rw[hlen],by rw[hlen];exact DC _⟩
  ·intro hnone
   rw[e1]at hnone;have:=hn1 hnone;omega
  ·rw[e1];exact hc1
def ElP (Yr:Nat→Prop)(x:List PR)(vs:Array Value)(U:World):Prop:=∃ A C,vs=#[.slice A x.length C]∧RP U (.slice A x.length C) x∧∀ ad,A=some ad→Yr ad.block
def CA:Option Value→Nat
 | some (.slice _ n _)=>n
 | _=>0
theorem Bx (q:List PR):Hid (∀ j (hj:j<1) (h:j<q.length),q[j].1=q[0].1):=by
 intro j hj h;obtain rfl:j=0:=by omega
 rfl
theorem uX {B k n:Nat}{q r:List PR}{dn:List (List PR)}{Yr:Nat→Prop}{J:List (List PR)→World→Prop}{W6 W7:World}{Ac:Option Addr}{Cc:Nat}(hc:Chg (fun k=>¬(k=B∨Yr k)) W6 W7)(hB:W6.heap[B]?=some (.cells #[.slice Ac (q.length-k) Cc] 29 (0,0)))(hR:RP W6 (.slice Ac (q.length-k) Cc) (q.drop k))(hb:∀ ad,Ac=some ad→Yr ad.block)(hG:grp r=(dn++[q.take k])++grp (q.drop k))(hJ:J (dn++[q.take k]) W7)(hq:q.length≤n)(hk:k≤q.length):∃ (q:List PR) (A:Option Addr) (C:Nat) (dn:List (List PR)),q.length≤n∧Hid (W7.heap[B]?=some (.cells #[.slice A q.length C] 29 (0,0)))∧Hid (RP W7 (.slice A q.length C) q)∧Hid (∀ ad,A=some ad→Yr ad.block)∧Hid (grp r=dn++grp q)∧Hid (J dn W7):=by
 have hl:(q.drop k).length=q.length-k:=by simp
 refine⟨q.drop k,Ac,Cc,dn++[q.take k],by omega,?_,?_,hb,hG,hJ⟩
 ·rw[hl];exact hc.at hB fun h=>h (.inl rfl)
 ·rw[hl]
  by_cases h0:(q.drop k).length=0
  ·obtain⟨⟨a',cap,hv,hn,hcc⟩,h2⟩:=hR
   refine⟨⟨a',cap,hv,hn,fun j u hj=>?_⟩,h2⟩;have:q.drop k=[]:=DD h0;rw[this]at hj;simp[aU]at hj
  ·refine hR.move fun ad had=>?_
   rw[←hl]at hR;obtain⟨a',cap',hv,_,hcc⟩:=hR.open;injection hv with e1 _ _
   subst e1;obtain⟨b,off,hab,hu,_⟩:=hcc 0 (by omega);rw[had]at hab
   cases hab
   exact hc.block b (aD hu) fun h=>h (.inr (hb _ had))
theorem sg {B m:Nat}{Yr:Nat→Prop}{W6 W7:World}{Ac:Option Addr}{Cc:Nat}(hc:Chg (fun k=>¬(k=B∨Yr k)) W6 W7)(hB:W6.heap[B]?=some (.cells #[.slice Ac m Cc] 29 (0,0))):CA (W7.cell? ⟨B,0,none⟩)=m:=by
 rw[cell_of_one (hc.at hB fun h=>h (.inl rfl))];rfl
theorem j9 {α:Type}{q:List α}{k:Nat}(h:k≤q.length):(q.take k).length=k:=by simp[Nat.min_eq_left h]
theorem GC {T:Prop} (h:T:=by
 obtain⟨⟨a',cap,hv,hn,hcc⟩,h2⟩:=h;refine⟨⟨a',cap,hv,hn,fun j u hj=>?_⟩,h2⟩;have:l=[]:=DD hl;subst this;simp[aU]at hj
):T:=h
theorem uZ {B k nq:Nat}{q r:List PR}{dn:List (List PR)}{Yr:Nat→Prop}{W0 wr:World}{A Ac Af:Option Addr}{C Cc:Nat}(hB:W0.heap[B]?=some (.cells #[.slice A q.length C] 29 (0,0)))(hbel:Below W0.heap.size W0 wr)(hRF:RP W0 (.slice Af k k) (q.take k))(hRC:RP W0 (.slice Ac (q.length-k) Cc) (q.drop k))(hbF:∀ ad,Af=some ad→Yr ad.block)(hbC:∀ ad,Ac=some ad→Yr ad.block)(hYB:¬Yr B)(hG:grp r=dn++grp q)(hk:k=head1 q)(h0:0<q.length):((wr.drewN nq).setCell ⟨B,0,none⟩ (.slice Ac (q.length-k) Cc)).heap[B]?=some (.cells #[.slice Ac (q.length-k) Cc] 29 (0,0))∧Chg (fun k=>k=B) W0 ((wr.drewN nq).setCell ⟨B,0,none⟩ (.slice Ac (q.length-k) Cc)) ∧RP ((wr.drewN nq).setCell ⟨B,0,none⟩ (.slice Ac (q.length-k) Cc)) (.slice Af k k) (q.take k)∧RP ((wr.drewN nq).setCell ⟨B,0,none⟩ (.slice Ac (q.length-k) Cc)) (.slice Ac (q.length-k) Cc) (q.drop k) ∧(dn++[q.take k] <+: grp r)∧grp r=(dn++[q.take k])++grp (q.drop k):=by
 have hlt:=(Array.getElem?_eq_some_iff.1 hB).1
 have hc:Chg (fun k=>k=B) W0 ((wr.drewN nq).setCell ⟨B,0,none⟩ (.slice Ac (q.length-k) Cc)) :=
  (Da (bt hbel (C9 wr nq))).trans (Chg.setCell _ _ _ rfl)
 have hg:grp r=(dn++[q.take k])++grp (q.drop k):=by rw[hG,iX q h0,←hk];simp
 have mv:∀ {a:Option Addr} {n c:Nat} {l:List PR},RP W0 (.slice a n c) l→(∀ ad,a=some ad→Yr ad.block)→RP ((wr.drewN nq).setCell ⟨B,0,none⟩ (.slice Ac (q.length-k) Cc)) (.slice a n c) l:=by
  intro a n c l h hb
  by_cases hl:l.length=0
  ·exact GC
  ·refine h.move fun ad had=>?_
   obtain⟨a',cap',hv,_,hcc⟩:=h.open;injection hv with e1 _ _
   subst e1;obtain⟨b,off,hab,hu,_⟩:=hcc 0 (by omega);rw[had]at hab
   cases hab
   exact hc.block b (aD hu) fun e=>hYB (by rw[←e];exact hb _ had)
 exact⟨one_setCell (v:=.slice A q.length C) ((hbel.block B hlt).trans hB),hc,mv hRF hbF,mv hRC hbC,⟨_,hg.symm⟩,hg⟩
theorem FW {T:Prop} (h:T:=by
 go_wp2;go_quiet (fail);go_upto_region 6 with(fail)
 (obtain⟨W6,hW6⟩:=ex_ (((wr.drewN nq).setCell ⟨B,0,none⟩ (.slice Ac (q.length-k) Cc)));have h6:=(H6 nq).o;rw[←hW6]at h6⊢;clear hW6 H6;obtain⟨hB6,hc6,hRF6,hRC6,hp6,hG6⟩:=h6;have hJ6:=HJ.o _ _ _ hJd.o hc6;obtain⟨fn,tm,asg,bod,hy,hRd⟩:=HY.o dn (q.take k) #[.slice Af k k] W6 hJ6 ⟨Af,k,by rw[j9 hk2],by rw[j9 hk2];exact hRF6,HBF.o⟩ hp6;have HP6:=zH hRC6;have HG6:=zH hG6;have HQ6:=zH hp6;have HB6:=zH hB6;clear hRC6 hG6 hp6 hB6 hJ6 hc6 hRF6)
 (refine(wpIn_wide (n:=n)).1 ?_;gi_wp2;refine⟨fun h=>(by cases h),?_⟩;refine hRd.mono ?_;rintro e W7 (⟨rfl,hJ7,hc7⟩|⟨rfl,hJx7⟩);(gi_wp2;go_wp2;go_roundw;(case rel=>exact uX hc7 HB6.o HP6.o HBC.o HG6.o hJ7 hql hk2);(case measure=>rw[sg hc7 HB6.o,c1];show q.length-k<q.length;omega));(gi_wp2;go_wp2;refine bodyPost_ret (results_none rfl _ _ _) rfl ?_;exact⟨⟨_,rfl⟩,.inr ⟨_,HQ6.o,hJx7⟩⟩))
):T:=h
theorem qg (n B:Nat)(r:List PR)(Yr:Nat→Prop)(A0:Option Addr)(C0:Nat)(W:World)(hB:W.heap[B]?=some (.cells #[.slice A0 r.length C0] 29 (0,0)))(hr:RP W (.slice A0 r.length C0) r)(hblk:∀ ad,A0=some ad→Yr ad.block)(hYB:¬Yr B)(hl:r.length≤4398046511104):sQ Fence.wide n Tryz.prog 215 #[.pointer (some ⟨B,0,none⟩)] (fun k=>k=B) (fun k=>k=B∨Yr k) (ElP Yr) (grp r) W:=by
 intro l J Jx hJ hJx hY hJ0;refine callsIn_wide.2 ?_;have HJ:=zH hJ;have HJx:=zH hJx;have HY:=zH hY;have HB:=zH hB;have HBlk:=zH hblk;clear hJ hJx hY hB hblk;go_enter Tryz.func215,Tryz.ntmps215;go_wp2
 go_loopw [3] (fun _ wr=>∃ (q:List PR) (A:Option Addr) (C:Nat) (dn:List (List PR)),q.length≤4398046511104∧Hid (wr.heap[B]?=some (.cells #[.slice A q.length C] 29 (0,0)))∧Hid (RP wr (.slice A q.length C) q)∧Hid (∀ ad,A=some ad→Yr ad.block)∧Hid (grp r=dn++grp q)∧Hid (J dn wr)) (fun _ wr=>CA (wr.cell? ⟨B,0,none⟩))
 case atStart=>exact⟨r,A0,C0,[],hl,HB,hr,HBlk,rfl,hJ0⟩
 case round =>
  clear hr hJ0 HB HBlk;obtain⟨q,A,C,dn,hql,hB,hR,hblk,hG,hJd⟩:=hrel;have c1:=cell_of_one hB.o;have f1:=free_of_one hB.o
  by_cases h0:0<q.length
  ·have m0:(0:Int)<(q.length:Int):=by omega
   obtain⟨_,_,hv,_,hcell⟩:=hR.o.open;injection hv with e1 _ e3
   subst e1 e3;obtain⟨b,off,hA,d0,_⟩:=hcell 0 h0;rw[Nat.zero_mul,Nat.add_zero]at d0;subst hA;have HC:=zH hcell;clear hcell;obtain⟨W0,hW0⟩:=ex_ wr;subst hW0;go_wp2
   go_loopw [3] (fun kk wx=>∃ k:Nat,1≤k∧k≤q.length∧kk=.int .i64 k∧Hid (∀ j (hj:j<k) (h:j<q.length),q[j].1=q[0].1)∧Hid (Below W0.heap.size W0 wx)) (fun kk _=>q.length-(intOf kk).toNat)
   case atStart=>exact⟨1,by omega,by omega,rfl,Bx q,DF _ _⟩
   case round =>
    obtain⟨k,hk1,hk2,rfl,hin,hbel⟩:=hrel;have c2:=C8 hbel.o c1;have d2:=C8 hbel.o d0;have ki0:=nn_ k
    by_cases hkq:k<q.length
    ·have ki1:(k:Int)<(q.length:Int):=by omega
     obtain⟨_,_,e1,dk,_⟩:=HC.o k hkq
     cases e1
     replace dk:=C8 hbel.o dk
     by_cases he:q[k].1=q[0].1
     ·have he2:(q[k].1==q[0].1)=true:=by simpa using he
      have HE:=zH he;clear he;go_wp2;go_quiet (fail);go_wp2;go_roundw
      case rel =>
       refine⟨k+1,by omega,by omega,by go_num,?_,bt hbel.o (C9 _ _)⟩;intro j hj h
       by_cases hjk:j=k
       ·subst hjk;exact HE.o
       ·exact hin.o j (by omega) h
      case measure=>simp[intOf];omega
     ·have he2:(q[k].1==q[0].1)=false:=by simpa using he
      have hhead:k=head1 q:=nB q h0 k hk1 hk2 (fun j hj=>hin.o j hj (by omega)) (fun _=>he);clear he
      (obtain⟨Af,hrunF,hRF,hblkF⟩:=RP.fullRun hR.o k (by omega) (by omega);obtain⟨Ac,Cc,hrunC,hRC,hblkC⟩:=RP.cutRunB hR.o k (by omega);have f2:wr.frozen? ⟨B,0,none⟩=false:=(hbel.o.frozen (p:=⟨B,0,none⟩) (aD c1)).trans f1;have H6:=fun nq=>zH (uZ (nq:=nq) hB.o hbel.o hRF hRC (fun ad h=>by obtain⟨ad0,e1,e2⟩:=hblkF ad h;rw[e2];exact hblk.o _ e1) (fun ad h=>by obtain⟨ad0,e1,e2⟩:=hblkC ad h;rw[e2];exact hblk.o _ e1) hYB hG.o hhead h0);have HBF:=zH (show ∀ ad,Af=some ad→Yr ad.block from fun ad h=>by obtain⟨ad0,e1,e2⟩:=hblkF ad h;rw[e2];exact hblk.o _ e1);have HBC:=zH (show ∀ ad,Ac=some ad→Yr ad.block from fun ad h=>by obtain⟨ad0,e1,e2⟩:=hblkC ad h;rw[e2];exact hblk.o _ e1);have hk0:(0:Int)<(k:Int):=(by omega);have HH:=zH hhead;clear hhead hRF hRC hblkF hblkC)
      exact FW
    ·have hhead:k=head1 q:=nB q h0 k hk1 hk2 (fun j hj=>hin.o j hj (by omega)) (fun h=>absurd h hkq)
     (obtain⟨Af,hrunF,hRF,hblkF⟩:=RP.fullRun hR.o k (by omega) (by omega);obtain⟨Ac,Cc,hrunC,hRC,hblkC⟩:=RP.cutRunB hR.o k (by omega);have f2:wr.frozen? ⟨B,0,none⟩=false:=(hbel.o.frozen (p:=⟨B,0,none⟩) (aD c1)).trans f1;have H6:=fun nq=>zH (uZ (nq:=nq) hB.o hbel.o hRF hRC (fun ad h=>by obtain⟨ad0,e1,e2⟩:=hblkF ad h;rw[e2];exact hblk.o _ e1) (fun ad h=>by obtain⟨ad0,e1,e2⟩:=hblkC ad h;rw[e2];exact hblk.o _ e1) hYB hG.o hhead h0);have HBF:=zH (show ∀ ad,Af=some ad→Yr ad.block from fun ad h=>by obtain⟨ad0,e1,e2⟩:=hblkF ad h;rw[e2];exact hblk.o _ e1);have HBC:=zH (show ∀ ad,Ac=some ad→Yr ad.block from fun ad h=>by obtain⟨ad0,e1,e2⟩:=hblkC ad h;rw[e2];exact hblk.o _ e1);have hk0:(0:Int)<(k:Int):=(by omega);have HH:=zH hhead;clear hhead hRF hRC hblkF hblkC)
     exact FW
  ·obtain rfl:q=[]:=DD (by omega)
   have hfin:grp r=dn:=by have:=hG.o;rw[gq,DR]at this;exact this
   have HF:=zH hfin;clear hfin;have c2:wr.cell? ⟨B,0,none⟩=some (.slice A 0 C):=c1;clear c1;go_wp2;go_end0;exact⟨⟨_,rfl⟩,.inl (by rw[HF.o];exact hJd.o)⟩
theorem si (n B:Nat)(r:List PR)(A0:Option Addr)(C0:Nat)(W:World)(hB:W.heap[B]?=some (.cells #[.slice A0 r.length C0] 29 (0,0)))(hr:RP W (.slice A0 r.length C0) r)(hblk:∀ ad,A0=some ad→ad.block<B)(hl:r.length≤4398046511104):sQ Fence.wide n Tryz.prog 215 #[.pointer (some ⟨B,0,none⟩)] (fun k=>k=B) (fun k=>k≤B) (ElP fun k=>k<B) (grp r) W:=by
 have h:=qg n B r (fun k=>k<B) A0 C0 W hB hr hblk (Nat.lt_irrefl B) hl;have e:(fun k=>k=B∨k<B)=fun k=>k≤B:=by funext k;simp only[eq_iff_iff];omega
 rwa [e]at h
end
