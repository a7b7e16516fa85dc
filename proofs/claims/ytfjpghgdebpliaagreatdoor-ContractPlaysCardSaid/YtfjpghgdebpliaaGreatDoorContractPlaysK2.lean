/- Lemmas. -/
import Derived.Lib.MinMaxS
import Derived.Maps.RangeWalk
import Derived.Deep.DeepCutAuto
import Derived.OwnWalkIn
import Derived.TacticsInMore
import Derived.LoopNIn
import Derived.LoopIn
import Derived.Test.YtfjpghgdebpliaaGreatDoorContractPlaysK1
set_option linter.unusedSimpArgs false
set_option linter.unusedVariables false
set_option maxRecDepth 100000
set_option maxHeartbeats 16000000
namespace Go.Proofs.YtfjpghgdebpliaaGreatDoor
open Go.Proofs.Tryz
open Go.RowKit Oct
abbrev PR:=q×q
abbrev LP_:=List PR
abbrev LQ_:=List (List PR)
def vQ (p:PR):LV_:=[.string (bs p.1),.string (bs p.2)]
def bI:LP_→LV_
 | []=>[]
 | p::l=>.string (bs p.1)::.string (bs p.2)::bI l
theorem gr:∀ l:LP_,(bI l).length=l.length*2
 | []=>rfl
 | p::l=>by simp[bI,gr l];omega
theorem gu:∀ a b:LP_,bI (a++b)=bI a++bI b
 | [],_=>rfl
 | p::a,b=>by simp[bI,gu a b]
theorem l8:∀ (l:LP_) (k:Nat) (h:k<l.length),(bI l)[k*2]?=some (s_ l[k].1)
 | p::l,0,_=>rfl
 | p::l,k+1,h=>by
  have:=l8 l k yze;rw[show(k+1)*2=k*2+2 by omega];simpa[bI] using this
theorem lZ:∀ (l:LP_) (k:Nat) (h:k<l.length),(bI l)[k*2+1]?=some (s_ l[k].2)
 | p::l,0,_=>rfl
 | p::l,k+1,h=>by
  have:=lZ l k yze;rw[show(k+1)*2+1=k*2+1+2 by omega];simpa[bI] using this
theorem oI:∀ (l:LP_) (k:Nat),(bI l).drop (k*2)=bI (l.drop k)
 | l,0=>by simp
 | [],k+1=>by simp[bI]
 | p::l,k+1=>by
  rw[show(k+1)*2=k*2+2 by omega];simp[bI,oI l k]
theorem oH:∀ (l:LP_) (k:Nat),(bI l).take (k*2)=bI (l.take k)
 | l,0=>by simp[bI]
 | [],k+1=>by simp[bI]
 | p::l,k+1=>by
  rw[show(k+1)*2=k*2+2 by omega];simp[bI,oH l k]
theorem qm (l:LP_):∀ u∈bI l,u.oneCell'=true:=by
 induction l with
 | nil=>simp[bI]
 | cons p l H=>intro u hu;simp[bI]at hu;rcases hu with rfl|rfl|hu<;>first|rfl|exact H u hu
def RP (w:Z)(v:V_)(l:LP_):Prop:=aO w v l.length (bI l)∧∃ a ah,v=.slice a l.length ah∧l.length≤ah
theorem RP.below {w w':Z}{v:V_}{l:LP_}(h:RP w v l)(hB:Bw_ w w'):RP w' v l:=⟨aO.below h.1 hB,h.2⟩
def OP (w:Z)(bZ:Nat)(v:V_)(l:LP_):Prop:=w.ownsRow bZ 64 2 v l.length (bI l)
theorem MD {T:Prop} (h:T:=by
 refine⟨IN h,?_⟩;rcases h.2 with ⟨hv,h0⟩|⟨g,ah,aH,hv,_,_,hc,_⟩
 ·exact⟨none,0,by rw[hv,h0],by omega⟩
 ·exact⟨_,_,hv,hc⟩
):T:=h
theorem OP.reads {w:Z}{bZ:Nat}{v:V_}{l:LP_}(h:OP w bZ v l):RP w v l:=by
 exact MD
theorem OP.below {w w':Z}{bZ:Nat}{v:V_}{l:LP_}(h:OP w bZ v l)(hB:Bw_ w w'):OP w' bZ v l:=cX h hB
theorem RP.nil (w:Z):RP w (e_) []:=⟨aO.nil w,none,0,rfl,I6 _⟩
theorem OP.nil (w:Z)(bZ:Nat):OP w bZ (e_) []:=⟨rfl,.inl ⟨rfl,rfl⟩⟩
theorem RP.new (w:Z)(l:LP_)(e:T_):RP (w.alloc (.cells (bI l).toArray e)) (.slice (some ⟨w.heap.size,0,none⟩) l.length l.length) l:=⟨aO.new w _ _ _ _,_,_,rfl,I6 _⟩
theorem js:(Tryz.prog.info? 64).map (fun i=>(i.zero,i.size,i.bytes))=some (some (.agg #[.string ByteArray.empty,.string ByteArray.empty]),2,32):=q_
theorem RP.open {w:Z}{v:V_}{l:LP_}(h:RP w v l):∃ a ah,v=.slice a l.length ah∧l.length≤ah ∧∀ k (hk:k<l.length),∃ b aL,a=some ⟨b,aL,none⟩∧w.cell? ⟨b,aL+k*2,none⟩=some (s_ l[k].1)∧w.cell? ⟨b,aL+k*2+1,none⟩=some (s_ l[k].2):=by
 obtain⟨⟨a,ah,rfl,hn,hc⟩,a',aK,hv,aq⟩:=h;injection hv with _ _ h3
 subst h3;refine⟨a,ah,rfl,aq,fun k hk=>?_⟩;obtain⟨b,aL,rfl,h1⟩:=hc _ _ (l8 l k hk);obtain⟨b',J,hb,h2⟩:=hc _ _ (lZ l k hk)
 cases hb
 exact⟨b,aL,rfl,h1,h2⟩
theorem ed {aM:Array Oper}{rest:LO_}{o:Oper}{a:Act}{Q:Exit→Act→Z→Prop}(w:Z)(av:o.guard=none)(s x:Operand)(t:T_)(ho:o.op=.call { callee:=.builtin .append,args:=#[s,x],argTypes:=#[t,t] })(ht:prog.underlying t=some (.slice 64))(bZ:Nat)(v:V_)(xs:LP_)(hs:a.eval s=v)(aw:OP w bZ v xs)(y:V_)(D:LP_)(hx:a.eval x=y)(hr:RP w y D)(d:(xs.length+D.length)*32≤140737488355328)(aB:bZ≤w.heap.size)(h:∀ v' w',OP w' bZ v' (xs++D)→B_ bZ w w'→wpList prog aM Q rest (a.put o.dst v') w'):wpList prog aM Q (o::rest) a w :=
 ny w (bI D) 64 av s x t ho bZ (.agg #[.string ByteArray.empty,.string ByteArray.empty]) 2 32 ht js rfl d_ v xs.length (bI xs) hs aw y D.length hx hr.1 (gr D) (qm D) d d_ aB
  (fun v' w' h1 h2=>h v' w' (by unfold OP;rw[gu,Jh];exact h1) h2)
theorem rm {aM:Array Oper}{rest:LO_}{o:Oper}{a:Act}{Q:Exit→Act→Z→Prop}(w:Z)(p:PR)(av:o.guard=none)(s x:Operand)(t:T_)(ho:o.op=.call { callee:=.builtin .append,args:=#[s,x],argTypes:=#[t,t] })(ht:prog.underlying t=some (.slice 64))(bZ:Nat)(v:V_)(xs:LP_)(hs:a.eval s=v)(aw:OP w bZ v xs)(c:Nat)(hx:a.eval x=.slice (some ⟨w.heap.size,0,none⟩) 1 c)(d:(xs.length+1)*32≤140737488355328)(aB:bZ≤w.heap.size)(h:∀ v' w',OP w' bZ v' (xs++[p])→B_ bZ w w'→wpList prog aM Q rest (a.put o.dst v') w'):wpList prog aM Q (o::rest) a (w.alloc (.cells (vQ p).toArray 64)) :=
 append1 w (vQ p) 64 av s x t ho bZ (.agg #[.string ByteArray.empty,.string ByteArray.empty]) 2 32 ht js rfl d_ v xs.length (bI xs) hs aw c hx rfl (by simp[vQ,Value.oneCell']) d d_ aB
  (fun v' w' h1 h2=>h v' w' (by unfold OP;rw[gu,Jh];exact h1) h2)
theorem lM {aM:Array Oper}{o:Oper}{a:Act}{K:Act→Z→Prop}{Q:Exit→Act→Z→Prop}{E:Prop}(w:Z)(p:PR)(av:o.guard=none)(s x:Operand)(t:T_)(ho:o.op=.call { callee:=.builtin .append,args:=#[s,x],argTypes:=#[t,t] })(ht:prog.underlying t=some (.slice 64))(bZ:Nat)(v:V_)(xs:LP_)(hs:a.eval s=v)(aw:OP w bZ v xs)(c:Nat)(hx:a.eval x=.slice (some ⟨w.heap.size,0,none⟩) 1 c)(d:(xs.length+1)*32≤140737488355328)(aB:bZ≤w.heap.size)(h:∀ g ah w',OP w' bZ (.slice (some ⟨g,0,none⟩) (xs.length+1) ah) (xs++[p])→B_ bZ w w'→K (a.put o.dst (.slice (some ⟨g,0,none⟩) (xs.length+1) ah)) w'):if Region.wanted o (yielded aM a.tmps)=true then Oper.wp prog o a (w.alloc (.cells #[s_ p.1,s_ p.2] 64)) K Q else E :=
 tD w (vQ p) 64 av s x t ho bZ (.agg #[.string ByteArray.empty,.string ByteArray.empty]) 2 32 ht js rfl d_ v xs.length (bI xs) hs aw c hx rfl (by simp[vQ,Value.oneCell']) d d_ aB
  (fun g ah w' h1 h2=>h g ah w' (by unfold OP;rw[gu,Jh];exact h1) h2)
theorem aO.mk {w:Z}{a:OA_}{n ah:Nat}{xs:LV_}(h1:a=none→n=0∧ah=0)(h2:∀ j u,xs[j]?=some u→∃ b aL,a=some ⟨b,aL,none⟩∧w.cell? ⟨b,aL+j,none⟩=some u):aO w (.slice a n ah) n xs:=⟨a,ah,rfl,h1,h2⟩
theorem qp {w:Z}{a:OA_}{n ah:Nat}{xs:LV_}(h:aO w (.slice a n ah) n xs):a=none→n=0∧ah=0:=by
 obtain⟨a',aK,hv,hn,_⟩:=h;injection hv with h1 _ h3
 subst h1 h3;exact hn
theorem MO {T:Prop} (h:T:=by
 intro ha
 by_cases e:ah=k
 ·omega
 ·rw[if_neg e]at ha
  have:a=none:=by simpa using ha
  have:=hn this;omega
):T:=h
theorem RP.sub {w:Z}{a:OA_}{ah:Nat}{l:LP_}(h:RP w (.slice a l.length ah) l)(k hi:Nat)(h1:k≤hi)(h2:hi≤l.length):RP w (sliced a k hi ah 2) ((l.drop k).take (hi-k)):=by
 have ai:((l.drop k).take (hi-k)).length=hi-k:=by simp;omega
 obtain⟨hr,a',aK,hv,aq⟩:=h;injection hv with _ _ h3
 subst h3;have hn:=qp hr;obtain⟨a',aK,hv,_,hc⟩:=hr;injection hv with e1 _ e3
 subst e1 e3;unfold sliced;refine⟨?_,_,_,by rw[ai],by rw[ai];omega⟩;rw[ai];refine aO.mk ?_ ?_
 ·exact MO
 ·intro j u hj
  rw[←oH,←oI,List.getElem?_take]at hj
  split at hj
  ·rename_i aC
   rw[List.getElem?_drop]at hj;obtain⟨b,aL,rfl,hu⟩:=hc _ _ hj;rw[if_neg Y];refine⟨b,aL+k*2,?_,?_⟩
   ·rw[Option.map_some,Addr.add_lit]
   ·rw[←hu,Ji]
  ·simp at hj
theorem RP.cut {w:Z}{a:OA_}{ah:Nat}{l:LP_}(h:RP w (.slice a l.length ah) l)(k:Nat)(hk:k≤l.length):RP w (sliced a k l.length ah 2) (l.drop k):=by
 have:=h.sub k l.length hk (I6 _)
 rwa [I5 i_]at this
theorem RP.head {w:Z}{a:OA_}{ah:Nat}{l:LP_}(h:RP w (.slice a l.length ah) l)(k:Nat)(hk:k≤l.length):RP w (sliced a 0 k ah 2) (l.take k):=by
 have:=h.sub 0 k Y hk;simpa using this
theorem RP.cutRun {w:Z}{a:OA_}{ah:Nat}{l:LP_}(h:RP w (.slice a l.length ah) l)(k:Nat)(c:Int)(hc:c=(k:Int))(hk:k≤l.length):∃ A C,(∀ wx,(Instr.slice 29 (.slice a l.length ah) (some (F c)) none none).run prog wx=.ok (.slice A (l.length-k) C) wx)∧RP w (.slice A (l.length-k) C) (l.drop k):=by
 subst hc;refine⟨_,_,fun wx=>?_,h.cut k hk⟩;obtain⟨i,hi,hz,ao,aG⟩:=info_parts js;rw[run_slice_l wx 29 a l.length ah q_ .i64 k Y Y];have he:(sizeOf (prog.elem 29)).run prog wx=.ok 2 wx:=q_;rw[he];simp[Result.andThen,sliced]
theorem RP.headRun {w:Z}{a:OA_}{ah:Nat}{l:LP_}(h:RP w (.slice a l.length ah) l)(k:Nat)(c:Int)(hc:c=(k:Int))(hk:k≤l.length):∃ A C,(∀ wx,(Instr.slice 29 (.slice a l.length ah) none (some (F c)) none).run prog wx=.ok (.slice A k C) wx)∧RP w (.slice A k C) (l.take k):=by
 subst hc;obtain⟨_,a',aK,hv,aq⟩:=id h;injection hv with _ _ h3
 subst h3;refine⟨if ah=0 then a else a.map (·.add (0*2)),ah-0,fun wx=>?_,by have:=RP.head h k hk;simpa[sliced] using this⟩;rw[run_slice_h wx 29 a l.length ah q_ .i64 k Y Y];have he:(sizeOf (prog.elem 29)).run prog wx=.ok 2 wx:=q_;rw[he];simp[Result.andThen,sliced]
def lt (a b:q):Bool:=Op.bytesLess a b
def bz:LP_→Bool
 | []=>true
 | [_]=>true
 | p::ap::l=>!lt ap.1 p.1&&bz (ap::l)
theorem Mu {T:Prop} (h:T:=by
 constructor
 ·rintro⟨h1,h2⟩ k hk
  cases k with
  | zero=>exact h1
  | succ k=>exact h2 k (by simpa using hk)
 ·intro h
  exact⟨h 0 (by simp),fun k hk=>h (k+1) (by simpa using hk)⟩
):T:=h
theorem ig (l:LP_):bz l=true↔∀ k (h:k+1<l.length),lt l[k+1].1 l[k].1=false:=by
 match l with
 | []=>simp[bz]
 | [_]=>simp[bz]
 | p::ap::l =>
  have H:=ig (ap::l);simp only[bz,Jj,Bool.not_eq_true',H];exact Mu
def chk (l:LP_):Int:=if bz l then 0 else 2
theorem mC (l:LP_)(k:Nat)(h:k+1<l.length)(aC:lt l[k+1].1 l[k].1=true):bz l=false:=by
 cases hs:bz l
 ·rfl
 ·rw[(ig l).1 hs k h]at aC;simp at aC
theorem oy (l:LP_)(k:Nat)(hk:l.length≤k+1)(h:∀ j (h:j+1<l.length),j<k→lt l[j+1].1 l[j].1=false):bz l=true :=
 (ig l).2 fun j hj=>h j hj Y
theorem JT {T:Prop} (h:T:=by
 have HL:=O aC;unfold lt at aC;go_wp2;go_quiet (fail);go_wp2;go_roundw
 case rel =>
  refine⟨k+1,.inr (by omega),by go_num,?_,bt hB (II _ _)⟩;intro j h hj
  by_cases a3:j=k
  ·subst a3;exact HL.o
  ·exact X.o j h (by omega)
 case measure=>simp[intOf];omega
):T:=h
theorem oF (v:V_)(l:LP_)(w:Z)(hr:RP w v l)(hl:l.length≤140737488355328):R_ 67 #[v] w (.bool (bz l)):=by
 obtain⟨a,ah,rfl,_,hc⟩:=hr.open;go_enter func67,ntmps67;go_wp2
 go_loopw [3] (fun i wr=>∃ k:Nat,(k=0∨k+1≤l.length)∧i=F ((k:Int)+1)∧Hid (∀ j (h:j+1<l.length),j<k→lt l[j+1].1 l[j].1=false)∧Bw_ w wr) (fun i _=>(l.length+1-(intOf i).toNat))
 case atStart=>exact⟨0,.inl rfl,rfl,by intro j _ h;omega,Ja _ _⟩
 case round =>
  obtain⟨k,hk,rfl,X,hB⟩:=hrel
  by_cases h0:k+1<l.length
  ·obtain⟨b,aL,rfl,c1,_⟩:=hc (k+1) h0
   obtain⟨b',J,hb,c2,_⟩:=hc k Y
   cases hb
   have d1:=IF hB c1;have d2:=IF hB c2;have a5:(k:Int)+1<(l.length:Int):=Y;have K:(k:Int)<l.length:=Y;clear hc hk
   cases aC:lt l[k+1].1 l[k].1
   ·exact JT
   ·have HL:=O aC
    unfold lt at aC;go_wp2;go_quiet (fail);go_wp2;go_ret;exact⟨by rw[mC l k h0 HL.o];rfl,bt hB (II _ _)⟩
  ·have hs:=O (oy l k Y X.o)
   go_wp2;go_ret;exact⟨by rw[hs.o];rfl,hB⟩
theorem td (v:V_)(l:LP_)(w:Z)(hr:RP w v l)(hl:l.length≤140737488355328):R_ 59 #[v] w (F (chk l)):=by
 obtain⟨a,ah,rfl,_,hc⟩:=hr.open;go_enter func59,ntmps59;go_wp2
 go_loopw [3] (fun i wr=>∃ k:Nat,(k=0∨k+1≤l.length)∧i=F ((k:Int)+1)∧Hid (∀ j (h:j+1<l.length),j<k→lt l[j+1].1 l[j].1=false)∧Bw_ w wr) (fun i _=>(l.length+1-(intOf i).toNat))
 case atStart=>exact⟨0,.inl rfl,rfl,by intro j _ h;omega,Ja _ _⟩
 case round =>
  obtain⟨k,hk,rfl,X,hB⟩:=hrel
  by_cases h0:k+1<l.length
  ·obtain⟨b,aL,rfl,c1,_⟩:=hc (k+1) h0
   obtain⟨b',J,hb,c2,_⟩:=hc k Y
   cases hb
   have d1:=IF hB c1;have d2:=IF hB c2;have a5:(k:Int)+1<(l.length:Int):=Y;have K:(k:Int)<l.length:=Y;clear hc hk
   cases aC:lt l[k+1].1 l[k].1
   ·exact JT
   ·have HL:=O aC
    unfold lt at aC;go_wp2;go_quiet (fail);go_wp2;go_ret;exact⟨by rw[chk,mC l k h0 HL.o];rfl,bt hB (II _ _)⟩
  ·have hs:=O (oy l k Y X.o)
   go_wp2;go_ret;exact⟨by rw[chk,hs.o];rfl,hB⟩
theorem jS (a b:q):lt a b=true↔a<b:=by simp[lt,Proofs.bytesLess_eq]
theorem lt_trans' {a b c:q}(h1:lt a b=true)(h2:lt b c=true):lt a c=true:=by
 rw[jS]at *;exact List.lt_trans h1 h2
theorem gN (a:q):lt a a=false:=by
 cases h:lt a a
 ·rfl
 ·rw[jS]at h;exact absurd h (List.lt_irrefl a)
theorem lw {a b c:q}(h1:lt b a=false)(h2:lt c b=false):lt c a=false:=by
 have d:¬b<a:=by rw[←jS,h1];simp
 have E:¬c<b:=by rw[←jS,h2];simp
 cases h:lt c a
 ·rfl
 ·rw[jS]at h
  exact absurd (List.lt_of_le_of_lt (List.not_lt.1 E) h) d
theorem ia {a b:q}(h:lt a b=true):lt b a=false:=by
 cases h2:lt b a
 ·rfl
 ·rw[←gN a,lt_trans' h h2]
theorem D7 (a b:q):(!(lt a b||a==b))=lt b a:=by
 cases h1:lt a b
 ·cases h2:a==b
  ·have n1:¬a<b:=by rw[←jS,h1];simp
   have n2:a≠b:=by intro e;simp[e]at h2
   cases h3:lt b a
   ·have n3:¬b<a:=by rw[←jS,h3];simp
    exact absurd (List.le_antisymm (List.not_lt.1 n3) (List.not_lt.1 n1)) n2
   ·rfl
  ·have e:a=b:=by simpa using h2
   rw[e,gN];rfl
 ·rw[ia h1];rfl
def mrg:LP_→LP_→LP_
 | [],b=>b
 | a,[]=>a
 | x::a,y::b=>if lt y.1 x.1 then y::mrg (x::a) b else x::mrg a (y::b)
termination_by a b=>a.length+b.length
theorem nQ (b:LP_):mrg [] b=b:=by rw[mrg]
theorem lq (a:LP_):mrg a []=a:=by cases a<;>simp[mrg]
theorem eh (x y:PR)(a b:LP_):mrg (x::a) (y::b)=if lt y.1 x.1 then y::mrg (x::a) b else x::mrg a (y::b):=by rw[mrg]
def ins (p:PR):LP_→LP_
 | []=>[p]
 | x::l=>if lt p.1 x.1 then p::x::l else x::ins p l
def srt (l:LP_):LP_:=l.foldl (fun o p=>ins p o) []
theorem kt (l:LP_)(p:PR):srt (l++[p])=ins p (srt l):=by simp[srt]
theorem qH (p:PR):∀ l:LP_,(ins p l).length=l.length+1
 | []=>rfl
 | x::l=>by rw[ins];split<;>simp[qH p l]
theorem cy (l:LP_):(srt l).length=l.length:=by
 suffices h:∀ (l o:LP_),(l.foldl (fun o p=>ins p o) o).length=o.length+l.length by simpa[srt] using h l []
 intro l
 induction l with
 | nil=>simp
 | cons p l H=>intro o;simp[H,qH];omega
theorem Ff (p:PR):∀ a b:LP_,mrg a (ins p b)=ins p (mrg a b):=by
 intro a b
 induction a,b using mrg.induct with
 | case1 b=>simp[nQ]
 | case2 a h =>
  rw[lq];clear h
  induction a with
  | nil=>simp[nQ,ins]
  | cons x a H =>
   rw[ins,ins,eh]
   split
   ·rw[lq]
   ·have:mrg a [p]=mrg a (ins p []):=rfl
    rw[this,H]
 | case3 x a y b h H =>
  cases hp:lt p.1 y.1
  ·rw[ins,if_neg (by rw[hp];simp),eh,if_pos h,H,eh,if_pos h,ins,if_neg (by rw[hp];simp)]
  ·rw[ins,if_pos hp,eh,if_pos (lt_trans' hp h),eh,if_pos h,ins,if_pos hp]
 | case4 x a y b h H =>
  have h':lt y.1 x.1=false:=by simpa using h
  cases hp:lt p.1 y.1
  ·have hx:lt p.1 x.1=false:=lw h' hp
   rw[ins,if_neg (by rw[hp];simp)]at H⊢;rw[eh,if_neg h,H,eh,if_neg h,ins,if_neg (by rw[hx];simp)]
  ·rw[ins,if_pos hp]at H⊢
   rw[eh x y,if_neg h,ins,eh]
   split
   ·rw[eh,if_neg h]
   ·rw[H]
theorem zT (a b:LP_):mrg (srt a) (srt b)=srt (a++b):=by
 have:∀ n (b:LP_),b.length=n→mrg (srt a) (srt b)=srt (a++b):=by
  intro n
  induction n with
  | zero=>intro b hb;rw[I7 hb];simp[srt,lq]
  | succ n H =>
   intro b hb;obtain⟨b',p,rfl⟩:∃ b' p,b=b'++[p]:=⟨b.dropLast,b.getLast (by intro e;rw[e]at hb;simp at hb),(List.dropLast_concat_getLast _).symm⟩
   rw[kt,Ff,H b' (by simpa using hb),←Jg,kt]
 exact this _ b rfl
theorem EQ (p ap:PR):srt [p,ap]=if lt ap.1 p.1 then [ap,p] else [p,ap]:=by simp[srt,ins]
theorem fj {x:PR}{l:LP_}:bz (x::l)=true↔(∀ y∈l,lt y.1 x.1=false)∧bz l=true:=by
 induction l generalizing x with
 | nil=>simp[bz]
 | cons y l H =>
  rw[bz,Jj,Bool.not_eq_true'];constructor
  ·rintro⟨h1,h2⟩
   refine⟨?_,h2⟩;intro z hz;rcases JK.1 hz with rfl|hz
   ·exact h1
   ·exact lw h1 ((H.1 h2).1 z hz)
  ·rintro⟨h1,h2⟩
   exact⟨h1 y i_,h2⟩
theorem mem_ins {p z:PR}:∀ {l:LP_},z∈ins p l↔z=p∨z∈l
 | []=>by simp[ins]
 | x::l=>by
  rw[ins]
  split
  ·simp
  ·simp[mem_ins (l:=l)]
   constructor
   ·rintro (h|h|h)<;>simp[h]
   ·rintro (h|h|h)<;>simp[h]
theorem qG (p:PR):∀ l:LP_,bz l=true→bz (ins p l)=true
 | [],_=>rfl
 | x::l,h=>by
  rw[ins]
  split
  ·rename_i hp
   rw[bz,h,ia hp];rfl
  ·rename_i hp
   have A:lt p.1 x.1=false:=by simpa using hp
   obtain⟨h1,h2⟩:=fj.1 h;refine fj.2 ⟨?_,qG p l h2⟩;intro z hz;rcases mem_ins.1 hz with rfl|hz
   ·exact A
   ·exact h1 z hz
theorem dW (l:LP_):bz (srt l)=true:=by
 suffices h:∀ (l o:LP_),bz o=true→bz (l.foldl (fun o p=>ins p o) o)=true from h l [] rfl
 intro l
 induction l with
 | nil=>intro o h;exact h
 | cons p l H=>intro o h;exact H _ (qG p o h)
theorem wF (p:PR):∀ l:LP_,(∀ x∈l,lt p.1 x.1=false)→ins p l=l++[p]
 | [],_=>rfl
 | x::l,h=>by
  rw[ins,if_neg (by rw[h x i_];simp),wF p l (fun y hy=>h y (by simp[hy]))];rfl
theorem oz {p:PR}:∀ {l:LP_},bz (l++[p])=true→bz l=true∧∀ x∈l,lt p.1 x.1=false
 | [],_=>by simp[bz]
 | x::l,h=>by
  rw[Jk,fj]at h;obtain⟨h1,h2⟩:=h;obtain⟨h3,h4⟩:=oz h2;refine⟨fj.2 ⟨fun y hy=>h1 y (by simp[hy]),h3⟩,?_⟩;intro y hy;rcases JK.1 hy with rfl|hy
  ·exact h1 p i_
  ·exact h4 y hy
theorem rz (l:LP_)(h:bz l=true):srt l=l:=by
 have:∀ n (l:LP_),l.length=n→bz l=true→srt l=l:=by
  intro n
  induction n with
  | zero=>intro l hl _;rw[I7 hl];rfl
  | succ n H =>
   intro l hl h;obtain⟨l',p,rfl⟩:∃ b' p,l=b'++[p]:=⟨l.dropLast,l.getLast (by intro e;rw[e]at hl;simp at hl),(List.dropLast_concat_getLast _).symm⟩
   obtain⟨h1,h2⟩:=oz h;rw[kt,H l' yzh h1,wF p l' h2]
 exact this _ l rfl h
theorem ER (l:LP_):srt (srt l)=srt l:=rz _ (dW l)
theorem yS (p:PR):∀ (l:LP_) (k:Nat),k≤l.length→bz l=true→(∀ j (h:j<l.length),k≤j→lt p.1 l[j].1=true)→(∀ (h:0<k) (h':k-1<l.length),lt p.1 l[k-1].1=false)→ins p l=l.take k++p::l.drop k
 | [],k,hk,_,_,_=>by simp[ins]
 | x::l,0,_,_,h,_=>by
  have:=h 0 i_ (I6 _);rw[ins,if_pos (by simpa using this)];rfl
 | x::l,k+1,hk,hs,h,h'=>by
  obtain⟨h1,h2⟩:=fj.1 hs
  have a:lt p.1 x.1=false:=by
   have hq:=h' Y (by simp at hk⊢;omega)
   cases k with
   | zero=>simpa using hq
   | succ k =>
    have hm:((x::l)[k+1+1-1]'(by simp at hk⊢;omega))∈l:=by simp
    exact lw (h1 _ hm) hq
  rw[ins,if_neg (by rw[a];simp),yS p l k yzB h2]
  ·rfl
  ·intro j hj b
   have:=h (j+1) (by simpa using hj) Y;simpa using this
  ·intro u hj
   obtain⟨m,rfl⟩:∃ m,k=m+1:=⟨k-1,by omega⟩
   have:=h' Y (by simp at hj⊢;omega);simpa using this
theorem vP {a b:LP_}(k:Nat)(h:k<a.length)(h':k<b.length)(aI:a[k]≠b[k]):a≠b:=by
 rintro rfl;exact aI rfl
theorem Hv (p ap:PR):(p.1==ap.1&&p.2==ap.2)=decide (p=ap):=by
 rw[Bool.eq_iff_iff];simp[Prod.ext_iff]
theorem mW (p ap:PR)(w:Z):R_ 144 #[.agg #[s_ p.1,s_ p.2],.agg #[s_ ap.1,s_ ap.2]] w (.bool (lt p.1 ap.1)):=by
 go_enter func144,ntmps144;go_wp2;go_ret;exact⟨rfl,bt (af _ _) (af _ _)⟩
theorem Ak (w:Z)(b:Nat):B_ b w w.drew:=(Ja _ _).drew
theorem OP.empty (w:Z):OP (w.alloc (.cells #[] 64)) w.heap.size (.slice (some ⟨w.heap.size,0,none⟩) 0 0) [] :=
 ⟨rfl,.inr ⟨w.heap.size,0,#[],rfl,I6 _,by show(w.heap.push _)[w.heap.size]?=_;simp,I6 _,by decide,rfl,rfl⟩⟩
theorem fB (v:V_)(l:LP_)(w:Z)(hr:RP w v l)(hl:l.length*32≤140737488355328):C_ 30 #[v] w fun e w'=>∃ v',e=.returned v'∧OP w' w.heap.size v' l∧Bw_ w w':=by
 obtain⟨aa,a,ah,rfl,aq⟩:=id hr;have g:=qp aa
 cases a with
 | none =>
  obtain⟨h0,rfl⟩:=g rfl;have j:l=[]:=I7 h0;subst j;go_enter func30,ntmps30;have ap:=fun w:Z=>Lib.run_eql_slice_nil w 29 64 none 0 0 0 0 underlying29;go_wp2;go_ret;exact⟨_,rfl,OP.nil _ _,Ja _ _⟩
 | some ad =>
  have ap:=fun w:Z=>Lib.run_eql_slice_nil w 29 64 (some ad) l.length ah 0 0 underlying29;have A:=O hr;clear hr aa g;go_enter func30,ntmps30;go_wp2_with (at_builtin;refine ed _ rfl _ _ _ rfl underlying29 w.heap.size _ [] rfl (OP.empty w) _ l rfl (A.o.below (af _ _)) yzh i_ ?_;intro v' w1 aH aF);go_ret;exact⟨_,rfl,aH,(af w _).trans aF⟩
def ET:V_→Nat
 | .slice _ n _=>n
 | _=>0
theorem Hz (w:Z)(n:Nat)(hb:32*n≤281474976710656):∃ w',(Instr.makeSlice 29 (F 0) (F n)).run prog w=.ok (.slice (some ⟨w.heap.size,0,none⟩) 0 n) w' ∧OP w' w.heap.size (.slice (some ⟨w.heap.size,0,none⟩) 0 n) []∧Bw_ w w':=by
 obtain⟨i,hi,hz,ao,aG⟩:=info_parts js;obtain⟨w',h1,h2,h3⟩:=run_make_own (P:=prog) w w.heap.size 29 64 i _ 2 underlying29 hi hz ao .i64 .i64 n (by rw[aG];exact hb) yzb (I6 _);exact⟨w',h1,h2,(Ja _ _).grown h3 (I6 _) i_⟩
theorem qu (va vb:V_)(m lb:LP_)(w:Z)(ha:RP w va m)(hb:RP w vb lb)(hl:(m.length+lb.length)*32≤140737488355328):C_ 143 #[va,vb,.func (.func 144) #[] #[]] w fun e w'=>∃ v',e=.returned v'∧OP w' w.heap.size v' (mrg m lb)∧Bw_ w w':=by
 obtain⟨_,z,ca,rfl,cu⟩:=id ha;obtain⟨_,ab,cb,rfl,r⟩:=id hb;obtain⟨w1,bJ,aH,aF⟩:=Hz w (m.length+lb.length) Y;rw[Int.natCast_add]at bJ;have HA:=O ha;have HB:=O hb;clear ha hb;go_enter func143,ntmps143;go_wp2
 go_loopw [7,0,1] (fun vo k l wr=>∃ o xs D,OP wr w.heap.size vo o∧RP w k xs∧RP w l D∧Hid (o++mrg xs D=mrg m lb)∧o.length+xs.length+D.length=m.length+lb.length∧Bw_ w wr) (fun vo k l _=>ET k+ET l)
 case atStart=>exact⟨[],m,lb,aH,HA.o,HB.o,rfl,by simp,aF⟩
 case round =>
  obtain⟨o,xs,D,aw,i,b,X,ai,hB⟩:=hrel;clear HA HB aH bJ aF;obtain⟨a1,c1,rfl,y,hx⟩:=i.open;obtain⟨a2,c2,rfl,aZ,hy⟩:=b.open;obtain⟨ao,co,rfl⟩:=ay aw;have j:=O i;have u:=O b
  by_cases h1:0<xs.length
  ·by_cases h2:0<D.length
   ·obtain⟨b1,o1,rfl,d1,d2⟩:=hx 0 h1
    obtain⟨b2,t,rfl,d3,d4⟩:=hy 0 h2;rw[Nat.zero_mul,Nat.add_zero]at d1 d2 d3 d4;obtain⟨A1,C1,q,n⟩:=i.cutRun 1 1 rfl h1;obtain⟨A2,C2,s2,s⟩:=b.cutRun 1 1 rfl h2;have c:=O n;have L:=O s;clear n s;clear i b;replace d1:=IF hB d1;replace d2:=IF hB d2;replace d3:=IF hB d3;replace d4:=IF hB d4;have a5:0<(xs.length:Int):=Y;have K:0<(D.length:Int):=Y;have v:1≤(xs.length:Int):=Y;have A:1≤(D.length:Int):=Y;have hX:xs=xs[0]::xs.drop 1:=by cases xs with|nil=>simp at h1|cons x xs=>rfl
    have hY:D=D[0]::D.drop 1:=by cases D with|nil=>simp at h2|cons x xs=>rfl
    have HX:=O hX;have HY:=O hY;clear hX hY hx hy
    cases aC:lt D[0].1 xs[0].1
    ·have HL:=O aC;clear aC
     go_wp2;go_region_with (go_at_call 144;refine(mW _ _ _).mono ?_;rw[HL.o];rintro e w2⟨rfl,ax⟩)
     all_goals
      have a:Bw_ wr w2:=(b_drew wr).trans ax;have e1:=IF a d1;have e2:=IF a d2;have f:=World.ownsRow.drew (aw.below a);have aS:(o.length+1)*32≤140737488355328:=Y;have aB:w.heap.size≤w2.drew.heap.size:=by have:=hB.size;have:=a.size;show w.heap.size≤w2.heap.size;omega
      clear aw d1 d2 d3 d4;go_wp2;go_region_law (refine lM w2.drew xs[0] rfl _ _ 29 rfl underlying29 w.heap.size _ o rfl f _ rfl aS aB ?_;intro g ah w3 M al)
      all_goals
       simp only[JM,Jd,Jm];go_frame;go_wp2;go_roundw
       case rel =>
        refine⟨o++[xs[0]],xs.drop 1,D,M,c.o,u.o,?_,by simp;omega,hB.trans ((a.mono hB.size).trans ((Ak w2 _).trans al))⟩;have hh:=X.o;rw[HX.o,HY.o,eh,if_neg (by rw[HL.o];simp),←HY.o]at hh;unfold Hid;rw[←hh];simp
       case measure=>simp[ET];omega
    ·have HL:=O aC;clear aC
     go_wp2;go_region_with (go_at_call 144;refine(mW _ _ _).mono ?_;rw[HL.o];rintro e w2⟨rfl,ax⟩)
     all_goals
      have a:Bw_ wr w2:=(b_drew wr).trans ax;have e1:=IF a d3;have e2:=IF a d4;have f:=World.ownsRow.drew (aw.below a);have aS:(o.length+1)*32≤140737488355328:=Y;have aB:w.heap.size≤w2.drew.heap.size:=by have:=hB.size;have:=a.size;show w.heap.size≤w2.heap.size;omega
      clear aw d1 d2 d3 d4;go_wp2;go_region_law (refine lM w2.drew D[0] rfl _ _ 29 rfl underlying29 w.heap.size _ o rfl f _ rfl aS aB ?_;intro g ah w3 M al)
      all_goals
       simp only[JM,Jd,Jm];go_frame;go_wp2;go_roundw
       case rel =>
        refine⟨o++[D[0]],xs,D.drop 1,M,j.o,L.o,?_,by simp;omega,hB.trans ((a.mono hB.size).trans ((Ak w2 _).trans al))⟩;have hh:=X.o;rw[HX.o,HY.o,eh,if_pos HL.o,←HX.o]at hh;unfold Hid;rw[←hh];simp
       case measure=>simp[ET];omega
   ·obtain rfl:D=[]:=I7 Y
    have a5:0<(xs.length:Int):=Y;clear hx hy i b;have aS:(o.length+xs.length)*32≤140737488355328:=by simp at ai;omega
    have d:((o++xs).length+0)*32≤140737488355328:=by simp at ai⊢;omega
    have aB:=hB.size;have hx:=j.o.below hB;go_wp2_with (first|(at_builtin;refine ed w2 rfl _ _ _ rfl underlying29 w.heap.size _ (o++xs) rfl f _ [] rfl (u.o.below a) d a.size ?_;intro v3 w3 M al)|(at_builtin;refine ed wr rfl _ _ _ rfl underlying29 w.heap.size _ o rfl aw _ xs rfl hx aS aB ?_;intro v2 w2 f ax;have a:=hB.trans ax));go_ret;have hh:=X.o;rw[lq]at hh;rw[hh,Jy]at M;exact⟨_,rfl,M,a.trans al⟩
  ·obtain rfl:xs=[]:=I7 Y
   clear hx hy i b;have aS:(o.length+0)*32≤140737488355328:=by simp at ai;omega
   have d:((o++[]).length+D.length)*32≤140737488355328:=by simp at ai⊢;omega
   have aB:=hB.size;have hx:=j.o.below hB;go_wp2_with (first|(at_builtin;refine ed w2 rfl _ _ _ rfl underlying29 w.heap.size _ (o++[]) rfl f _ D rfl (u.o.below a) d a.size ?_;intro v3 w3 M al)|(at_builtin;refine ed wr rfl _ _ _ rfl underlying29 w.heap.size _ o rfl aw _ [] rfl hx aS aB ?_;intro v2 w2 f ax;have a:=hB.trans ax));go_ret;have hh:=X.o;rw[nQ]at hh;rw[Jy,hh]at M;exact⟨_,rfl,M,a.trans al⟩
def run1 (k:q):LP_→Nat
 | []=>0
 | p::l=>if p.1=k then run1 k l+1 else 0
theorem zM (k:q):∀ l,run1 k l≤l.length
 | []=>I6 _
 | p::l=>by have:=zM k l;unfold run1;split<;>simp;omega
def head1:LP_→Nat
 | []=>0
 | p::l=>run1 p.1 l+1
theorem ib (l:LP_)(h:0<l.length):1≤head1 l∧head1 l≤l.length:=by
 cases l with
 | nil=>simp at h
 | cons p l=>have:=zM p.1 l;simp only[head1,Jq];omega
theorem wH (l:LP_)(h:0<l.length)(k:Nat)(hk:k<head1 l)(hl:k<l.length):l[k].1=l[0].1:=by
 cases l with
 | nil=>simp at h
 | cons p l =>
  have z:∀ (l:LP_) (k:Nat) (hl:k<l.length),k<run1 p.1 l→l[k].1=p.1:=by
   intro l
   induction l with
   | nil=>intro k hl;simp at hl
   | cons ap l H =>
    intro k hl hk;unfold run1 at hk
    split at hk
    ·cases k with
     | zero=>assumption
     | succ k=>exact H k yzh Y
    ·omega
  cases k with
  | zero=>rfl
  | succ k=>exact z l k yzh (by simpa[head1] using hk)
theorem sH (l:LP_)(h:0<l.length)(hl:head1 l<l.length):l[head1 l].1≠l[0].1:=by
 cases l with
 | nil=>simp at h
 | cons p l =>
  have z:∀ (l:LP_) (hl:run1 p.1 l<l.length),l[run1 p.1 l].1≠p.1:=by
   intro l
   induction l with
   | nil=>intro hl;simp at hl
   | cons ap l H =>
    intro hl
    by_cases hq:ap.1=p.1
    ·have e:run1 p.1 (ap::l)=run1 p.1 l+1:=if_pos hq
     simp only[e,Jd];exact H (by rw[e]at hl;simpa using hl)
    ·have e:run1 p.1 (ap::l)=0:=if_neg hq
     simp only[e,Jm];exact hq
  simp only[head1,Jd,Jm];exact z l (by simpa[head1] using hl)
theorem qJ (l:LP_)(h:0<l.length)(k:Nat)(h1:1≤k)(hl:k≤l.length)(N:∀ j (hj:j<k),l[j].1=l[0].1)(I:∀ (hk:k<l.length),l[k].1≠l[0].1):k=head1 l:=by
 have hp:=ib l h;rcases Nat.lt_trichotomy k (head1 l) with aC|he|f
 ·exact absurd (wH l h k aC Y) (I Y)
 ·exact he
 ·exact absurd (N (head1 l) f) (sH l h Y)
def wL:Nat→LP_→LQ_
 | 0,_=>[]
 | n+1,l=>if l.length=0 then [] else l.take (head1 l)::wL n (l.drop (head1 l))
def grp (l:LP_):LQ_:=wL l.length l
theorem sL:∀ (n m:Nat) (l:LP_),l.length≤n→l.length≤m→wL n l=wL m l
 | 0,0,_,_,_=>rfl
 | 0,m+1,l,h,_=>by simp[wL,show l.length=0 by omega]
 | n+1,0,l,_,h=>by simp[wL,show l.length=0 by omega]
 | n+1,m+1,l,h,h'=>by
  unfold wL
  split
  ·rfl
  ·have:=ib l Y
   rw[sL n m _ yza yza]
theorem iT:grp []=[]:=rfl
theorem kS (l:LP_)(h:0<l.length):grp l=l.take (head1 l)::grp (l.drop (head1 l)):=by
 have hp:=ib l h;obtain⟨n,hn⟩:∃ n,l.length=n+1:=⟨l.length-1,by omega⟩
 unfold grp;rw[hn,wL,if_neg Y];congr 1;exact sL _ _ _ yza i_
theorem dI:∀ (n:Nat) (l:LP_),l.length≤n→(grp l).length≤l.length
 | 0,l,h=>by
  have:l=[]:=I7 Y;subst this;simp[iT]
 | n+1,l,h=>by
  by_cases h0:0<l.length
  ·have hp:=ib l h0
   rw[kS l h0];have:=dI n (l.drop (head1 l)) yza;simp at this⊢;omega
  ·have:l=[]:=I7 Y
   subst this;simp[iT]
theorem yZ:∀ (n:Nat) (l:LP_),l.length≤n→∀ g∈grp l,0<g.length
 | 0,l,h=>by
  have:l=[]:=I7 Y;subst this;simp[iT]
 | n+1,l,h=>by
  by_cases h0:0<l.length
  ·have hp:=ib l h0
   rw[kS l h0];intro g hg;rcases JK.1 hg with rfl|hg
   ·simp;omega
   ·exact yZ n _ yza g hg
  ·have:l=[]:=I7 Y
   subst this;simp[iT]
def db (k:q)(l:LP_):LP_:=l.filter fun p=>p.1==k
theorem g6 (k:q)(a b:LP_):db k (a++b)=db k a++db k b:=by simp[db]
theorem jP (k:q)(l:LP_)(h:∀ p∈l,p.1≠k):db k l=[]:=by
 rw[db,List.filter_eq_nil_iff];intro p hp;simpa using h p hp
theorem ofKey_all (k:q)(l:LP_)(h:∀ p∈l,p.1=k):db k l=l:=by
 rw[db,List.filter_eq_self];intro p hp;simpa using h p hp
theorem lt_ne {a b:q}(h:lt a b=true):a≠b:=by
 rintro rfl;rw[gN]at h
 cases h
theorem sx (k:q)(p:PR):∀ l:LP_,bz l=true→db k (ins p l)=db k l++db k [p]
 | [],_=>by simp[ins,db]
 | ap::l,hs=>by
  obtain⟨h1,h2⟩:=fj.1 hs;unfold ins
  split
  ·rename_i aC
   have e:p::ap::l=[p]++(ap::l):=rfl;rw[e,g6]
   by_cases hp:p.1=k
   ·have:db k (ap::l)=[]:=by
     refine jP _ _ fun y hy=>?_;rcases JK.1 hy with rfl|hy
     ·exact fun e=>lt_ne aC (hp.trans e.symm)
     ·intro e
      have h3:=h1 y hy
      have h4:lt ap.1 p.1=false:=by
       rw[e,←hp]at h3;exact ia aC
      have h5:lt y.1 ap.1=true:=by rw[e,←hp];exact aC
      rw[h5]at h3
      cases h3
    rw[this,Jy,JC]
   ·have:db k [p]=[]:=jP _ _ fun y hy=>by simp at hy;subst hy;exact hp
    rw[this,Jy,JC]
  ·have H:=sx k p l h2
   have e1:ap::ins p l=[ap]++ins p l:=rfl;have e2:ap::l=[ap]++l:=rfl;rw[e1,e2,g6,g6,H,Jg]
theorem nP (k:q)(l:LP_):db k (srt l)=db k l:=by
 have h:∀ (l:LP_),db k (srt l.reverse)=db k l.reverse:=by
  intro l
  induction l with
  | nil=>rfl
  | cons p l H=>rw[List.reverse_cons,kt,sx _ _ _ (dW _),H,g6]
 have:=h l.reverse
 rwa [List.reverse_reverse]at this
theorem uT (l:LP_)(k:Nat)(h:bz l=true):bz (l.drop k)=true:=by
 rw[ig]at h⊢;intro j hj;simp only[List.getElem_drop];exact h (k+j) (by simp at hj;omega)
theorem r5 (l:LP_)(h:bz l=true):∀ (i j:Nat) (hi:i≤j) (hj:j<l.length),lt l[j].1 l[i].1=false:=by
 intro i j hi hj
 induction j with
 | zero =>
   obtain rfl:i=0:=Y;exact gN _
 | succ j H =>
  by_cases he:i=j+1
  ·subst he;exact gN _
  ·have h1:=H Y Y
   have h2:=(ig l).1 h j hj;exact lw h1 h2
theorem oN {a b:q}(h:lt b a=false)(aI:a≠b):lt a b=true:=by
 have:=D7 b a;rw[h,Bool.false_or]at this;have e:(b==a)=false:=by simpa using fun e:b=a=>aI e.symm
 rw[e]at this;simpa using this.symm
theorem sI (l:LP_)(h:0<l.length):∀ p∈l.take (head1 l),p.1=l[0].1:=by
 intro p hp;obtain⟨k,hk,rfl⟩:=List.getElem_of_mem hp;rw[List.getElem_take];exact wH l h k (by simp at hk;omega) (by simp at hk;omega)
theorem wV (l:LP_)(h:0<l.length)(hs:bz l=true):∀ p∈l.drop (head1 l),lt l[0].1 p.1=true:=by
 intro p hp;obtain⟨k,hk,rfl⟩:=List.getElem_of_mem hp;rw[List.getElem_drop];have H:head1 l+k<l.length:=by simp at hk;omega
 have h1:=sH l h Y;have h2:=r5 l hs 0 (head1 l) Y Y;have h3:=r5 l hs (head1 l) (head1 l+k) Y H;have h4:lt l[0].1 l[head1 l].1=true:=oN h2 (Ne.symm h1)
 by_cases he:l[head1 l+k].1=l[head1 l].1
 ·rw[he];exact h4
 ·exact lt_trans' h4 (oN h3 (Ne.symm he))
def hk1:LP_→q
 | []=>[]
 | p::_=>p.1
def Ip (G:LQ_)(l:LP_):Prop:=(∀ g∈G,g=db (hk1 g) l∧(∃ p∈l,hk1 g=p.1))∧∀ i (h:i+1<G.length),lt (hk1 G[i]) (hk1 G[i+1])=true
theorem iC:∀ (n:Nat) (l:LP_),l.length≤n→bz l=true→Ip (grp l) l
 | 0,l,hn,_=>by
  have:l=[]:=I7 Y;subst this;rw[iT];exact⟨by simp,fun i h=>by simp at h⟩
 | n+1,l,hn,hs=>by
  by_cases h0:0<l.length
  ·have hp:=ib l h0
   obtain⟨b,o⟩:=iC n (l.drop (head1 l)) yza (uT l _ hs)
   have u:hk1 (l.take (head1 l))=l[0].1:=by
    cases l with
    | nil=>simp at h0
    | cons p l =>
      obtain⟨m,hm⟩:∃ m,head1 (p::l)=m+1:=⟨head1 (p::l)-1,by omega⟩
      rw[hm];rfl
   have f:∀ k,db k l=db k (l.take (head1 l))++db k (l.drop (head1 l)):=fun k=>by rw[←g6,List.take_append_drop]
   have a:∀ g∈grp (l.drop (head1 l)),lt l[0].1 (hk1 g)=true:=by
    intro g hg;obtain⟨_,p,ae,au⟩:=b g hg;rw[au];exact wV l h0 hs p ae
   rw[kS l h0];refine⟨fun g hg=>?_,fun i hi=>?_⟩
   ·rcases JK.1 hg with rfl|hg
    ·rw[u,f,ofKey_all _ _ (sI l h0),jP _ (l.drop (head1 l)) (fun p hp e=>lt_ne (wV l h0 hs p hp) e.symm),Jy]
     exact⟨rfl,l[0],Jz h0,rfl⟩
    ·obtain⟨e1,p,ae,au⟩:=b g hg
     refine⟨?_,p,List.mem_of_mem_drop ae,au⟩;rw[f,jP _ (l.take (head1 l)) (fun ap hq e=>lt_ne (a g hg) (by rw[←e];exact(sI l h0 ap hq).symm)),JC];exact e1
   ·cases i with
    | zero =>
     simp only[Jm,Jd,I9];rw[u];exact a _ (Jz _)
    | succ i =>
     simp only[Jd];exact o i yzm
  ·have:l=[]:=I7 Y
   subst this;rw[iT];exact⟨by simp,fun i h=>by simp at h⟩
theorem OP.mono {w:Z}{bZ a:Nat}{v:V_}{l:LP_}(h:OP w bZ v l)(hb:a≤bZ):OP w a v l:=fq h hb
theorem vT {w:Z}{bZ:Nat}{v:V_}{p ap:PR}(h:OP w bZ v [p,ap]):∃ g ah,v=.slice (some ⟨g,0,none⟩) 2 ah∧bZ≤g:=by
 rcases h.2 with ⟨_,h0⟩|⟨D,aK,aH,hv,hg,_⟩
 ·simp at h0
 ·exact⟨D,aK,hv,hg⟩
theorem kD {w:Z}{bZ g ah:Nat}{p ap:PR}(h:OP w bZ (.slice (some ⟨g,0,none⟩) 2 ah) [p,ap]):w.cell? ⟨g,0,none⟩=some (s_ p.1)∧w.cell? ⟨g,1,none⟩=some (s_ p.2)∧w.cell? ⟨g,2,none⟩=some (s_ ap.1)∧w.cell? ⟨g,3,none⟩=some (s_ ap.2) ∧w.frozen? ⟨g,0,none⟩=false∧w.frozen? ⟨g,1,none⟩=false∧w.frozen? ⟨g,2,none⟩=false∧w.frozen? ⟨g,3,none⟩=false:=by
 have hc:=World.ownsRow.cells (g:=g) h rfl
 have hf:∀ j,w.frozen? ⟨g,j,none⟩=false:=by
  rcases h.2 with ⟨hv,_⟩|⟨D,aK,aH,hv,_,hh,_⟩
  ·simp at hv
  ·simp only[Value.slice.injEq,Option.some.injEq,Addr.mk.injEq,and_true,true_and]at hv
   obtain⟨rfl,_,rfl⟩:=hv;intro j;simp[World.frozen?,hh]
 refine⟨?_,?_,?_,?_,hf _,hf _,hf _,hf _⟩
 ·have:=hc 0 _ rfl;rwa [Addr.add_lit]at this
 ·have:=hc 1 _ rfl;rwa [Addr.add_lit]at this
 ·have:=hc 2 _ rfl;rwa [Addr.add_lit]at this
 ·have:=hc 3 _ rfl;rwa [Addr.add_lit]at this
theorem Bs {w:Z}{bZ g ah:Nat}{p ap:PR}(h:OP w bZ (.slice (some ⟨g,0,none⟩) 2 ah) [p,ap])(hb:bZ≤g)(hs:bZ≤w.heap.size):OP ((((w.setCell ⟨g,0,none⟩ (s_ ap.1)).setCell ⟨g,1,none⟩ (s_ ap.2)).setCell ⟨g,2,none⟩ (s_ p.1)).setCell ⟨g,3,none⟩ (s_ p.2)).drew bZ (.slice (some ⟨g,0,none⟩) 2 ah) [ap,p] ∧B_ bZ w ((((w.setCell ⟨g,0,none⟩ (s_ ap.1)).setCell ⟨g,1,none⟩ (s_ ap.2)).setCell ⟨g,2,none⟩ (s_ p.1)).setCell ⟨g,3,none⟩ (s_ p.2)).drew:=by
 have h1:=(World.ownsRow.stored h 0 (s_ ap.1)).1;have h2:=(World.ownsRow.stored h1 1 (s_ ap.2)).1;have h3:=(World.ownsRow.stored h2 2 (s_ p.1)).1;have h4:=(World.ownsRow.stored h3 3 (s_ p.2)).1;exact⟨World.ownsRow.drew h4,(((((Ja bZ w).setCell hb _).setCell hb _).setCell hb _).setCell hb _).drew⟩
theorem Ew (v:V_)(p ap:PR)(w:Z)(hr:RP w v [p,ap])(hl:[p,ap].length*32≤140737488355328):C_ 142 #[v] w fun e w'=>∃ v',e=.returned v'∧OP w' w.heap.size v' (srt [p,ap])∧Bw_ w w':=by
 rw[EQ]
 cases aC:lt ap.1 p.1
 ·skip
  have HL:=O aC;clear aC;go_enter func142,ntmps142;go_wp2_with (go_at_call 30;refine(fB _ [p,ap] _ hr hl).mono ?_;rintro e w1⟨vc,rfl,aw,aF⟩;obtain⟨g,cc,rfl,bB⟩:=vT aw;obtain⟨c0,c1,c2,c3,f0,f1,f2,f3⟩:=kD aw);have HO:=O aw;clear aw;go_region_with (go_at_call 144;refine(mW _ _ _).mono ?_;rw[HL.o];rintro e w2⟨rfl,ax⟩)
  all_goals
   have al:=(b_drew w1).trans ax;go_wp2;go_ret;exact⟨_,rfl,HO.o.below al,bt aF al⟩
 ·skip
  have HL:=O aC;clear aC;go_enter func142,ntmps142;go_wp2_with (go_at_call 30;refine(fB _ [p,ap] _ hr hl).mono ?_;rintro e w1⟨vc,rfl,aw,aF⟩;obtain⟨g,cc,rfl,bB⟩:=vT aw;obtain⟨c0,c1,c2,c3,f0,f1,f2,f3⟩:=kD aw);have HO:=O aw;clear aw;go_region_with (go_at_call 144;refine(mW _ _ _).mono ?_;rw[HL.o];rintro e w2⟨rfl,ax⟩)
  all_goals
   have al:=(b_drew w1).trans ax;have az:=HO.o.below al;clear c0 c1 c2 c3 f0 f1 f2 f3 HO;obtain⟨c0,c1,c2,c3,f0,f1,f2,f3⟩:=kD az;have S:=O az;clear az;go_wp2;go_region
   all_goals
    go_wp2;go_ret;obtain⟨k1,k2⟩:=Bs (S.o) bB ((bt aF al).size);exact⟨_,rfl,k1,(bt aF al).trans k2⟩
theorem xo:∀ (n:Nat) (v:V_) (l:LP_) (w:Z),l.length≤n→RP w v l→l.length*32≤140737488355328 → C_ 142 #[v] w fun e w'=>∃ v',e=.returned v'∧OP w' w.heap.size v' (srt l)∧Bw_ w w':=by
 intro n
 induction n with
 | zero =>
  intro v l w hn hr hl;obtain rfl:l=[]:=I7 Y;go_enter func142,ntmps142;go_wp2_with (go_at_call 30;refine(fB _ _ _ hr hl).mono ?_;rintro e w1⟨vc,rfl,aw,aF⟩;obtain⟨ac,cc,rfl⟩:=ay aw);go_ret;exact⟨_,rfl,aw,aF⟩
 | succ n H =>
  intro v l w hn hr hl
  by_cases h1:l.length<2
  ·have ao:(l.length:Int)<2:=Y
   have hs:srt l=l:=by
    match l,h1 with
    | [],_=>rfl
    | [p],_=>rfl
   have HS:=O hs;clear hs;go_enter func142,ntmps142;go_wp2_with (go_at_call 30;refine(fB _ l _ hr hl).mono ?_;rintro e w1⟨vc,rfl,aw,aF⟩;obtain⟨ac,cc,rfl⟩:=ay aw);go_ret;exact⟨_,rfl,by rw[HS.o];exact aw,aF⟩
  ·by_cases h2:l.length=2
   ·obtain⟨p,ap,rfl⟩:∃ p ap,l=[p,ap]:=by
     match l,h2 with
     | [p,ap],_=>exact⟨p,ap,rfl⟩
    exact Ew v p ap w hr hl
   ·have ao:¬(l.length:Int)<2:=Y
    have aG:((l.length:Int)==2)=false:=by rw[beq_eq_false_iff_ne];omega
    clear h1 h2;go_enter func142,ntmps142;go_wp2_with (go_at_call 30;refine(fB _ l _ hr hl).mono ?_;rintro e w1⟨vc,rfl,aw,aF⟩;obtain⟨ac,cc,rfl⟩:=ay aw);have aP:=aw.reads;obtain⟨A1,C1,q,r1⟩:=aP.headRun (l.length / 2) ((l.length:Int) / 2) Y Y;obtain⟨A2,C2,s2,r2⟩:=aP.cutRun (l.length / 2) ((l.length:Int) / 2) Y Y;have R1:=O r1;have R2:=O r2;have bL:(l.take (l.length / 2)).length≤n:=by simp;omega
    have c9:(l.drop (l.length / 2)).length≤n:=by simp;omega
    have be:(l.take (l.length / 2)).length*32≤140737488355328:=by simp;omega
    have a0:(l.drop (l.length / 2)).length*32≤140737488355328:=by simp;omega
    have a4:((srt (l.take (l.length / 2))).length+(srt (l.drop (l.length / 2))).length)*32≤140737488355328:=by rw[cy,cy];simp;omega
    clear r1 r2 aw aP
    go_region_with (first
     | (go_at_call 143;refine(qu _ _ _ _ _ g aX a4).mono ?_;rintro e w4⟨m,rfl,r,aQ⟩)
     | (go_at_call 142;refine(H _ (l.drop (l.length / 2)) w2 c9 (R2.o.below a) a0).mono ?_;rintro e w3⟨vb,rfl,M,al⟩;have g:=f.reads.below al;have aX:=M.reads;have b:=bt a al;obtain⟨ab,cb,rfl⟩:=ay M)
     | (go_at_call 142;refine(H _ (l.take (l.length / 2)) w1.drew bL (R1.o.below (b_drew w1)) be).mono ?_;rintro e w2⟨va,rfl,f,ax⟩;have a:Bw_ w1 w2:=(b_drew w1).trans ax;obtain⟨z,ca,rfl⟩:=ay f))
    all_goals
     go_wp2;go_ret;rw[zT,List.take_append_drop]at r;have aN:=bt aF (bt b aQ);exact⟨_,rfl,r.mono (bt aF b).size,aN⟩
def RR (w:Z)(v:V_)(ac:LQ_):Prop:=∃ a ah,v=.slice a ac.length ah∧ac.length≤ah∧(a=none→ac.length=0∧ah=0) ∧
 ∀ k (hk:k<ac.length),∃ b aL u,a=some ⟨b,aL,none⟩∧w.cell? ⟨b,aL+k,none⟩=some u∧RP w u ac[k]
theorem RR.below {w w':Z}{v:V_}{ac:LQ_}(h:RR w v ac)(hB:Bw_ w w'):RR w' v ac:=by
 obtain⟨a,ah,hv,aq,hn,hc⟩:=h;refine⟨a,ah,hv,aq,hn,fun k hk=>?_⟩;obtain⟨b,aL,u,ha,hu,hr⟩:=hc k hk;exact⟨b,aL,u,ha,IF hB hu,hr.below hB⟩
theorem lz (ac:LQ_)(k:Nat)(h:k<ac.length):(ac.take (k+1)).flatten=(ac.take k).flatten++ac[k]:=by
 rw[JB h,List.flatten_append];simp only[List.flatten_cons,List.flatten_nil,Jy]
theorem ui (ac:LQ_)(k:Nat):(ac.take k).flatten.length≤ac.flatten.length:=by
 have h:ac.flatten=(ac.take k).flatten++(ac.drop k).flatten:=by rw[←List.flatten_append,List.take_append_drop]
 rw[h,Jh];omega
theorem Cl (v:V_)(ac:LQ_)(w:Z)(hr:RR w v ac)(hn:ac.length≤140737488355328)(hl:ac.flatten.length*32≤140737488355328):C_ 105 #[v] w fun e w'=>∃ v',e=.returned v'∧OP w' w.heap.size v' (srt ac.flatten)∧Bw_ w w':=by
 obtain⟨a,ah,rfl,_,_,hc⟩:=hr;go_enter func105,ntmps105;go_wp2
 go_loopw [2,7] (fun ag i wr=>∃ (k:Nat) (o:LP_),k≤ac.length∧i=F k∧OP wr w.heap.size ag o∧Hid (o=srt (ac.take k).flatten)∧Bw_ w wr) (fun _ i _=>ac.length-(intOf i).toNat)
 case atStart=>exact⟨0,[],by omega,rfl,OP.nil _ _,rfl,Ja _ _⟩
 case round =>
  obtain⟨k,o,hk,rfl,aw,X,hB⟩:=hrel;obtain⟨ao,co,rfl⟩:=ay aw;have hO:=O aw;clear aw
  by_cases h0:k<ac.length
  ·obtain⟨b,aL,u,rfl,hu,B⟩:=hc k h0
   obtain⟨ar,cr,rfl,_,_⟩:=B.open;replace hu:=IF hB hu;have a5:(k:Int)<ac.length:=Y;have U:=B.below hB;have hf:=lz ac k h0;have n:=ui ac (k+1);rw[hf,Jh]at n;have be:ac[k].length*32≤140737488355328:=Y;have a0:(o.length+(srt ac[k]).length)*32≤140737488355328:=by rw[X.o,cy,cy];omega
   have HF:=O hf;clear hf B hc n
   go_wp2_with (first
    | (go_at_call 143;refine(qu _ _ _ _ _ (hO.o.below ax).reads f.reads a0).mono ?_;rintro e w3⟨v3,rfl,M,al⟩)
    | (go_at_call 142;refine(xo _ _ ac[k] wr (I6 _) U be).mono ?_;rintro e w2⟨vb,rfl,f,ax⟩;obtain⟨ab,cb,rfl⟩:=ay f))
   go_roundw
   case rel =>
    have aQ:=bt hB ax;refine⟨k+1,_,by omega,by go_num,M.mono aQ.size,?_,bt aQ al⟩;unfold Hid;rw[HF.o,X.o,zT]
   case measure=>simp[intOf];omega
  ·obtain rfl:k=ac.length:=Y
   go_wp2;go_ret;have:=X.o;rw[List.take_length]at this;exact⟨_,rfl,by rw[←this];exact hO.o,hB⟩
section
attribute [local go_sem] Oper.semAt_some
theorem s7 (a:Addr)(i:Nat):(a.add i).block=a.block:=by unfold Addr.add;split<;>rfl
theorem RP.move {w w':Z}{a:OA_}{n c:Nat}{l:LP_}(h:RP w (.slice a n c) l)(hk:∀ ad,a=some ad→w'.heap[ad.block]?=w.heap[ad.block]?):RP w' (.slice a n c) l:=by
 obtain⟨⟨a',ah,hv,hn,hc⟩,h2⟩:=h;injection hv with e1 e2 e3
 subst e1 e3;refine⟨⟨a,c,by rw[e2],hn,fun j u hj=>?_⟩,h2⟩;obtain⟨b,aL,ha,hu⟩:=hc j u hj;have e:w'.cell? ⟨b,aL+j,none⟩=w.cell? ⟨b,aL+j,none⟩:=World.cell?_of_block (w:=w) (a:=⟨b,aL+j,none⟩) (hk ⟨b,aL,none⟩ ha);exact⟨b,aL,ha,e.trans hu⟩
theorem RP.cutRunB {w:Z}{a:OA_}{ah:Nat}{l:LP_}(h:RP w (.slice a l.length ah) l)(k:Nat)(hk:k≤l.length):∃ A C,(∀ wx,(Instr.slice 29 (.slice a l.length ah) (some (F k)) none none).run prog wx=.ok (.slice A (l.length-k) C) wx)∧RP w (.slice A (l.length-k) C) (l.drop k)∧(∀ ad,A=some ad→∃ c,a=some c∧ad.block=c.block):=by
 refine⟨_,_,fun wx=>?_,h.cut k hk,?_⟩
 ·rw[run_slice_l wx 29 a l.length ah q_ .i64 k Y Y]
  have he:(sizeOf (prog.elem 29)).run prog wx=.ok 2 wx:=q_;rw[he];simp[Result.andThen,sliced]
 ·intro ad hA
  split at hA
  ·exact⟨ad,hA,rfl⟩
  ·obtain⟨c,h1,h2⟩:=Option.map_eq_some_iff.1 hA
   exact⟨c,h1,by rw[←h2,s7]⟩
theorem RP.fullRun {w:Z}{a:OA_}{ah:Nat}{l:LP_}(h:RP w (.slice a l.length ah) l)(k:Nat)(h1:1≤k)(hk:k≤l.length):∃ A,(∀ wx,(Instr.slice 29 (.slice a l.length ah) none (some (F k)) (some (F k))).run prog wx=.ok (.slice A k k) wx)∧RP w (.slice A k k) (l.take k)∧(∀ ad,A=some ad→∃ c,a=some c∧ad.block=c.block):=by
 have hx:=RP.head h k hk;obtain⟨_,a',aK,hv,aq⟩:=id h;injection hv with _ _ h3
 subst h3;refine⟨a.map (·.add (0*2)),fun wx=>?_,?_,fun ad hA=>by obtain⟨c,h1,h2⟩:=Option.map_eq_some_iff.1 hA;exact⟨c,h1,by rw[←h2,s7]⟩⟩
 ·rw[run_slice_hm wx 29 a l.length ah q_ .i64 .i64 k k Y Y Y]
  have he:(sizeOf (prog.elem 29)).run prog wx=.ok 2 wx:=q_;rw[he];simp[Result.andThen,sliced,show k≠0 by omega]
 ·have ai:(l.take k).length=k:=by simp;omega
  unfold sliced at hx;rw[if_neg Y]at hx;obtain⟨⟨a1,c1,aH,bL,y⟩,_⟩:=hx;injection aH with e1 e2 e3
  refine⟨⟨_,k,by rw[ai],?_,?_⟩,_,k,by rw[ai],by rw[ai];exact I6 _⟩
  ·intro q
   rw[e1]at q;have:=bL q;omega
  ·rw[e1];exact y
def ElP (G:Nat→Prop)(x:LP_)(vs:AV_)(U:Z):Prop:=∃ A C,vs=#[.slice A x.length C]∧RP U (.slice A x.length C) x∧∀ ad,A=some ad→G ad.block
def GC:Option V_→Nat
 | some (.slice _ n _)=>n
 | _=>0
theorem GA (ap:LP_):Hid (∀ j (hj:j<1) (h:j<ap.length),ap[j].1=ap[0].1):=by
 intro j hj h;obtain rfl:j=0:=Y
 rfl
theorem z7 {B k n:Nat}{ap r:LP_}{o:LQ_}{G:Nat→Prop}{J:LQ_→Z→Prop}{W6 W7:Z}{q:OA_}{t:Nat}(hc:Chg (fun k=>¬(k=B∨G k)) W6 W7)(hB:W6.heap[B]?=some (.cells #[.slice q (ap.length-k) t] 29 (0,0)))(hR:RP W6 (.slice q (ap.length-k) t) (ap.drop k))(hb:∀ ad,q=some ad→G ad.block)(hG:grp r=(o++[ap.take k])++grp (ap.drop k))(hJ:J (o++[ap.take k]) W7)(hq:ap.length≤n)(hk:k≤ap.length):∃ (ap:LP_) (A:OA_) (C:Nat) (o:LQ_),ap.length≤n∧Hid (W7.heap[B]?=some (.cells #[.slice A ap.length C] 29 (0,0)))∧Hid (RP W7 (.slice A ap.length C) ap)∧Hid (∀ ad,A=some ad→G ad.block)∧Hid (grp r=o++grp ap)∧Hid (J o W7):=by
 have hl:(ap.drop k).length=ap.length-k:=by simp
 refine⟨ap.drop k,q,t,o++[ap.take k],by omega,?_,?_,hb,hG,hJ⟩
 ·rw[hl];exact hc.at hB fun h=>h (.inl rfl)
 ·rw[hl]
  by_cases h0:(ap.drop k).length=0
  ·obtain⟨⟨a',ah,hv,hn,bm⟩,h2⟩:=hR
   refine⟨⟨a',ah,hv,hn,fun j u hj=>?_⟩,h2⟩;have:ap.drop k=[]:=I7 h0;rw[this]at hj;simp[bI]at hj
  ·refine hR.move fun ad d=>?_
   rw[←hl]at hR;obtain⟨a',aK,hv,_,bm⟩:=hR.open;injection hv with e1 _ _
   subst e1;obtain⟨b,aL,s,hu,_⟩:=bm 0 Y;rw[d]at s
   cases s
   exact hc.block b (aG hu) fun h=>h (.inr (hb _ d))
theorem wK {B m:Nat}{G:Nat→Prop}{W6 W7:Z}{q:OA_}{t:Nat}(hc:Chg (fun k=>¬(k=B∨G k)) W6 W7)(hB:W6.heap[B]?=some (.cells #[.slice q m t] 29 (0,0))):GC (W7.cell? ⟨B,0,none⟩)=m:=by
 rw[cell_of_one (hc.at hB fun h=>h (.inl rfl))];rfl
theorem mB {α:Type}{ap:List α}{k:Nat}(h:k≤ap.length):(ap.take k).length=k:=by simp[Nat.min_eq_left h]
theorem ME {T:Prop} (h:T:=by
 obtain⟨⟨a',ah,hv,hn,bm⟩,h2⟩:=h;refine⟨⟨a',ah,hv,hn,fun j u hj=>?_⟩,h2⟩;have:l=[]:=I7 hl;subst this;simp[bI]at hj
):T:=h
theorem Aa {B k nq:Nat}{ap r:LP_}{o:LQ_}{G:Nat→Prop}{W0 wr:Z}{A q P:OA_}{C t:Nat}(hB:W0.heap[B]?=some (.cells #[.slice A ap.length C] 29 (0,0)))(m:Bw_ W0 wr)(w:RP W0 (.slice P k k) (ap.take k))(x:RP W0 (.slice q (ap.length-k) t) (ap.drop k))(aI:∀ ad,P=some ad→G ad.block)(f:∀ ad,q=some ad→G ad.block)(Q:¬G B)(hG:grp r=o++grp ap)(hk:k=head1 ap)(h0:0<ap.length):((wr.drewN nq).setCell ⟨B,0,none⟩ (.slice q (ap.length-k) t)).heap[B]?=some (.cells #[.slice q (ap.length-k) t] 29 (0,0))∧Chg (fun k=>k=B) W0 ((wr.drewN nq).setCell ⟨B,0,none⟩ (.slice q (ap.length-k) t)) ∧RP ((wr.drewN nq).setCell ⟨B,0,none⟩ (.slice q (ap.length-k) t)) (.slice P k k) (ap.take k)∧RP ((wr.drewN nq).setCell ⟨B,0,none⟩ (.slice q (ap.length-k) t)) (.slice q (ap.length-k) t) (ap.drop k) ∧(o++[ap.take k] <+: grp r)∧grp r=(o++[ap.take k])++grp (ap.drop k):=by
 have aC:=(Array.getElem?_eq_some_iff.1 hB).1
 have hc:Chg (fun k=>k=B) W0 ((wr.drewN nq).setCell ⟨B,0,none⟩ (.slice q (ap.length-k) t)) :=
  (IG (bt m (II wr nq))).trans (Chg.setCell _ _ _ rfl)
 have hg:grp r=(o++[ap.take k])++grp (ap.drop k):=by rw[hG,kS ap h0,←hk];simp
 have mv:∀ {a:OA_} {n c:Nat} {l:LP_},RP W0 (.slice a n c) l→(∀ ad,a=some ad→G ad.block)→RP ((wr.drewN nq).setCell ⟨B,0,none⟩ (.slice q (ap.length-k) t)) (.slice a n c) l:=by
  intro a n c l h hb
  by_cases hl:l.length=0
  ·exact ME
  ·refine h.move fun ad d=>?_
   obtain⟨a',aK,hv,_,bm⟩:=h.open;injection hv with e1 _ _
   subst e1;obtain⟨b,aL,s,hu,_⟩:=bm 0 Y;rw[d]at s
   cases s
   exact hc.block b (aG hu) fun e=>Q (by rw[←e];exact hb _ d)
 exact⟨one_setCell (v:=.slice A ap.length C) ((m.block B aC).trans hB),hc,mv w aI,mv x f,⟨_,hg.symm⟩,hg⟩
theorem LH {T:Prop} (h:T:=by
 go_wp2;go_quiet (fail);go_upto_region 6 with(fail)
 (obtain⟨W6,g⟩:=H (((wr.drewN nq).setCell ⟨B,0,none⟩ (.slice q (ap.length-k) t)));have h6:=(H6 nq).o;rw[←g]at h6⊢;clear g H6;obtain⟨bx,b0,s,R,D,v⟩:=h6;have E:=HJ.o _ _ _ I.o b0;obtain⟨fn,tm,aA,aC,hy,an⟩:=HY.o o (ap.take k) #[.slice P k k] W6 E ⟨P,k,by rw[mB z],by rw[mB z];exact s,bg.o⟩ D;obtain⟨V,cW,aa,bn⟩:=zH4 R v D bx;clear R v D bx E b0 s)
 (refine(wpIn_wide (n:=n)).1 ?_;gi_wp2;refine⟨fun h=>(by cases h),?_⟩;refine an.mono ?_;rintro e W7 (⟨rfl,aq,ai⟩|⟨rfl,K⟩);(gi_wp2;go_wp2;go_roundw;(case rel=>exact z7 ai bn.o V.o S.o cW.o aq cq z);(case measure=>rw[wK ai bn.o,c1];show ap.length-k<ap.length;omega));(gi_wp2;go_wp2;refine bodyPost_ret (results_none rfl _ _ _) rfl ?_;exact⟨⟨_,rfl⟩,.inr ⟨_,aa.o,K⟩⟩))
):T:=h
theorem uf (n B:Nat)(r:LP_)(G:Nat→Prop)(A0:OA_)(L:Nat)(W:Z)(hB:W.heap[B]?=some (.cells #[.slice A0 r.length L] 29 (0,0)))(hr:RP W (.slice A0 r.length L) r)(ab:∀ ad,A0=some ad→G ad.block)(Q:¬G B)(hl:r.length≤4398046511104):xt Fence.wide n prog 163 #[p_ B] (fun k=>k=B) (fun k=>k=B∨G k) (ElP G) (grp r) W:=by
 intro l J Jx hJ ag hY aj;refine callsIn_wide.2 ?_;obtain⟨HJ,aE,HY,HB,M⟩:=zH5 hJ ag hY hB ab;clear hJ ag hY hB ab;go_enter func163,ntmps163;go_wp2
 go_loopw [3] (fun _ wr=>∃ (ap:LP_) (A:OA_) (C:Nat) (o:LQ_),ap.length≤4398046511104∧Hid (wr.heap[B]?=some (.cells #[.slice A ap.length C] 29 (0,0)))∧Hid (RP wr (.slice A ap.length C) ap)∧Hid (∀ ad,A=some ad→G ad.block)∧Hid (grp r=o++grp ap)∧Hid (J o wr)) (fun _ wr=>GC (wr.cell? ⟨B,0,none⟩))
 case atStart=>exact⟨r,A0,L,[],hl,HB,hr,M,rfl,aj⟩
 case round =>
  clear hr aj HB M;obtain⟨ap,A,C,o,cq,hB,hR,ab,hG,I⟩:=hrel;have c1:=cell_of_one hB.o;have f1:=free_of_one hB.o
  by_cases h0:0<ap.length
  ·have m0:0<(ap.length:Int):=Y
   obtain⟨_,_,hv,_,y⟩:=hR.o.open;injection hv with e1 _ e3
   subst e1 e3;obtain⟨b,aL,hA,d0,_⟩:=y 0 h0;rw[Nat.zero_mul,Nat.add_zero]at d0;subst hA;have HC:=O y;clear y;obtain⟨W0,a1⟩:=H wr;subst a1;go_wp2
   go_loopw [3] (fun kk wx=>∃ k:Nat,1≤k∧k≤ap.length∧kk=F k∧Hid (∀ j (hj:j<k) (h:j<ap.length),ap[j].1=ap[0].1)∧Hid (Bw_ W0 wx)) (fun kk _=>ap.length-(intOf kk).toNat)
   case atStart=>exact⟨1,by omega,by omega,rfl,GA ap,Ja _ _⟩
   case round =>
    obtain⟨k,hk1,z,rfl,N,m⟩:=hrel;have c2:=IF m.o c1;have d2:=IF m.o d0;have ac:=nn_ k
    by_cases bU:k<ap.length
    ·have ae:(k:Int)<ap.length:=Y
     obtain⟨_,_,e1,dk,_⟩:=HC.o k bU
     cases e1
     replace dk:=IF m.o dk
     by_cases he:ap[k].1=ap[0].1
     ·have af:(ap[k].1==ap[0].1)=true:=by simpa using he
      have HE:=O he;clear he;go_wp2;go_quiet (fail);go_wp2;go_roundw
      case rel =>
       refine⟨k+1,by omega,by omega,by go_num,?_,bt m.o (II _ _)⟩;intro j hj h
       by_cases a3:j=k
       ·subst a3;exact HE.o
       ·exact N.o j Y h
      case measure=>simp[intOf];omega
     ·have af:(ap[k].1==ap[0].1)=false:=by simpa using he
      have a:k=head1 ap:=qJ ap h0 k hk1 z (fun j hj=>N.o j hj Y) (fun _=>he);clear he
      (obtain⟨P,U,w,f⟩:=RP.fullRun hR.o k Y Y;obtain⟨q,t,X,x,i⟩:=RP.cutRunB hR.o k Y;have f2:wr.frozen? ⟨B,0,none⟩=false:=(m.o.frozen (p:=⟨B,0,none⟩) (aG c1)).trans f1;have H6:=fun nq=>O (Aa (nq:=nq) hB.o m.o w x (fun ad h=>by obtain⟨c,e1,e2⟩:=f ad h;rw[e2];exact ab.o _ e1) (fun ad h=>by obtain⟨c,e1,e2⟩:=i ad h;rw[e2];exact ab.o _ e1) Q hG.o a h0);have bg:=O (show ∀ ad,P=some ad→G ad.block from fun ad h=>by obtain⟨c,e1,e2⟩:=f ad h;rw[e2];exact ab.o _ e1);have S:=O (show ∀ ad,q=some ad→G ad.block from fun ad h=>by obtain⟨c,e1,e2⟩:=i ad h;rw[e2];exact ab.o _ e1);have u:0<(k:Int):=Y;have HH:=O a;clear a w x f i)
      exact LH
    ·have a:k=head1 ap:=qJ ap h0 k hk1 z (fun j hj=>N.o j hj Y) (fun h=>absurd h bU)
     (obtain⟨P,U,w,f⟩:=RP.fullRun hR.o k Y Y;obtain⟨q,t,X,x,i⟩:=RP.cutRunB hR.o k Y;have f2:wr.frozen? ⟨B,0,none⟩=false:=(m.o.frozen (p:=⟨B,0,none⟩) (aG c1)).trans f1;have H6:=fun nq=>O (Aa (nq:=nq) hB.o m.o w x (fun ad h=>by obtain⟨c,e1,e2⟩:=f ad h;rw[e2];exact ab.o _ e1) (fun ad h=>by obtain⟨c,e1,e2⟩:=i ad h;rw[e2];exact ab.o _ e1) Q hG.o a h0);have bg:=O (show ∀ ad,P=some ad→G ad.block from fun ad h=>by obtain⟨c,e1,e2⟩:=f ad h;rw[e2];exact ab.o _ e1);have S:=O (show ∀ ad,q=some ad→G ad.block from fun ad h=>by obtain⟨c,e1,e2⟩:=i ad h;rw[e2];exact ab.o _ e1);have u:0<(k:Int):=Y;have HH:=O a;clear a w x f i)
     exact LH
  ·obtain rfl:ap=[]:=I7 Y
   have d:grp r=o:=by have:=hG.o;rw[iT,Jy]at this;exact this
   have HF:=O d;clear d;have c2:wr.cell? ⟨B,0,none⟩=some (.slice A 0 C):=c1;clear c1;go_wp2;go_end0;exact⟨⟨_,rfl⟩,.inl (by rw[HF.o];exact I.o)⟩
theorem wM (n B:Nat)(r:LP_)(A0:OA_)(L:Nat)(W:Z)(hB:W.heap[B]?=some (.cells #[.slice A0 r.length L] 29 (0,0)))(hr:RP W (.slice A0 r.length L) r)(ab:∀ ad,A0=some ad→ad.block<B)(hl:r.length≤4398046511104):xt Fence.wide n prog 163 #[p_ B] (fun k=>k=B) (fun k=>k≤B) (ElP fun k=>k<B) (grp r) W:=by
 have h:=uf n B r (fun k=>k<B) A0 L W hB hr ab (Nat.lt_irrefl B) hl;have e:(fun k=>k=B∨k<B)=fun k=>k≤B:=by funext k;simp only[eq_iff_iff];omega
 rwa [e]at h
end
