/- Lemmas for DeltaJobs: walks, plain laws. -/
import Derived.Lib.MinMaxS
import Derived.Maps.RangeWalk
import Derived.Test.YtehllcbnheicoaaGreatDoorDeltaJobsK1
set_option linter.unusedSimpArgs false
set_option linter.unusedVariables false
set_option maxRecDepth 100000
set_option maxHeartbeats 16000000
namespace Go.Proofs.YtehllcbnheicoaaGreatDoor
open Go.RowKit Oct
section
abbrev PR:=LU_×LU_
def sg (p:PR):List Value:=[.string (bs p.1),.string (bs p.2)]
def aS:List PR→List Value
 | []=>[]
 | p::l=>.string (bs p.1)::.string (bs p.2)::aS l
theorem kh:∀ l:List PR,(aS l).length=l.length*2
 | []=>rfl
 | p::l=>by simp[aS,kh l];omega
theorem dK:∀ a b:List PR,aS (a++b)=aS a++aS b
 | [],_=>rfl
 | p::a,b=>by simp[aS,dK a b]
theorem nF:∀ (l:List PR) (k:Nat) (h:k<l.length),(aS l)[k*2]?=some (.string (bs l[k].1))
 | p::l,0,_=>rfl
 | p::l,k+1,h=>by
  have:=nF l k (by simpa using h);rw[show(k+1)*2=k*2+2 by omega];simpa[aS] using this
theorem nE:∀ (l:List PR) (k:Nat) (h:k<l.length),(aS l)[k*2+1]?=some (.string (bs l[k].2))
 | p::l,0,_=>rfl
 | p::l,k+1,h=>by
  have:=nE l k (by simpa using h);rw[show(k+1)*2+1=k*2+1+2 by omega];simpa[aS] using this
theorem mq:∀ (l:List PR) (k:Nat),(aS l).drop (k*2)=aS (l.drop k)
 | l,0=>by simp
 | [],k+1=>by simp[aS]
 | p::l,k+1=>by
  rw[show(k+1)*2=k*2+2 by omega];simp[aS,mq l k]
theorem mp:∀ (l:List PR) (k:Nat),(aS l).take (k*2)=aS (l.take k)
 | l,0=>by simp[aS]
 | [],k+1=>by simp[aS]
 | p::l,k+1=>by
  rw[show(k+1)*2=k*2+2 by omega];simp[aS,mp l k]
theorem kv (l:List PR):∀ u∈aS l,u.oneCell'=true:=by
 induction l with
 | nil=>simp[aS]
 | cons p l ih=>intro u hu;simp[aS]at hu;rcases hu with rfl|rfl|hu<;>first|rfl|exact ih u hu
def RP (w:World)(v:Value)(l:List PR):Prop:=aZ w v l.length (aS l)∧∃ a cap,v=.slice a l.length cap∧l.length≤cap
theorem RP.below {w w':World}{v:Value}{l:List PR}(h:RP w v l)(hB:Below w.heap.size w w'):RP w' v l:=⟨aZ.below h.1 hB,h.2⟩
def OP (w:World)(bZ:Nat)(v:Value)(l:List PR):Prop:=w.ownsRow bZ 62 2 v l.length (aS l)
theorem Hy {T:Prop} (h:T:=by
 refine⟨DQ h,?_⟩;rcases h.2 with ⟨hv,h0⟩|⟨g,cap,cur,hv,_,_,hc,_⟩
 ·exact⟨none,0,by rw[hv,h0],by omega⟩
 ·exact⟨_,_,hv,hc⟩
):T:=h
theorem OP.reads {w:World}{bZ:Nat}{v:Value}{l:List PR}(h:OP w bZ v l):RP w v l:=by
 exact Hy
theorem OP.below {w w':World}{bZ:Nat}{v:Value}{l:List PR}(h:OP w bZ v l)(hB:Below w.heap.size w w'):OP w' bZ v l:=bn h hB
theorem RP.nil (w:World):RP w (.slice none 0 0) []:=⟨aZ.nil w,none,0,rfl,Ei _⟩
theorem OP.nil (w:World)(bZ:Nat):OP w bZ (.slice none 0 0) []:=⟨rfl,.inl ⟨rfl,rfl⟩⟩
theorem RP.new (w:World)(l:List PR)(e:TypeId):RP (w.alloc (.cells (aS l).toArray e)) (.slice (some ⟨w.heap.size,0,none⟩) l.length l.length) l:=⟨aZ.new w _ _ _ _,_,_,rfl,Ei _⟩
theorem gE:(Tryz.prog.info? 62).map (fun i=>(i.zero,i.size,i.bytes))=some (some (.agg #[.string ByteArray.empty,.string ByteArray.empty]),2,32):=by kernel_rfl
theorem RP.open {w:World}{v:Value}{l:List PR}(h:RP w v l):∃ a cap,v=.slice a l.length cap∧l.length≤cap ∧∀ k (hk:k<l.length),∃ b off,a=some ⟨b,off,none⟩∧w.cell? ⟨b,off+k*2,none⟩=some (.string (bs l[k].1))∧w.cell? ⟨b,off+k*2+1,none⟩=some (.string (bs l[k].2)):=by
 obtain⟨⟨a,cap,rfl,hn,hc⟩,a',cap',hv,hle⟩:=h;injection hv with _ _ h3
 subst h3;refine⟨a,cap,rfl,hle,fun k hk=>?_⟩;obtain⟨b,off,rfl,h1⟩:=hc _ _ (nF l k hk);obtain⟨b',off',hb,h2⟩:=hc _ _ (nE l k hk)
 cases hb
 exact⟨b,off,rfl,h1,h2⟩
theorem dc {ops:Array Oper}{rest:List Oper}{o:Oper}{a:Act}{Q:Exit→Act→World→Prop}(w:World)(hgd:o.guard=none)(s x:Operand)(t:TypeId)(ho:o.op=.call { callee:=.builtin .append,args:=#[s,x],argTypes:=#[t,t] })(ht:Tryz.prog.underlying t=some (.slice 62))(bZ:Nat)(v:Value)(xs:List PR)(hs:a.eval s=v)(hown:OP w bZ v xs)(vx:Value)(ys:List PR)(hx:a.eval x=vx)(hr:RP w vx ys)(hbytes:(xs.length+ys.length)*32≤140737488355328)(hbase:bZ≤w.heap.size)(h:∀ v' w',OP w' bZ v' (xs++ys)→Below bZ w w'→wpList Tryz.prog ops Q rest (a.put o.dst v') w'):wpList Tryz.prog ops Q (o::rest) a w :=
 lu w (aS ys) 62 hgd s x t ho bZ (.agg #[.string ByteArray.empty,.string ByteArray.empty]) 2 32 ht gE rfl (by decide) v xs.length (aS xs) hs hown vx ys.length hx hr.1 (kh ys) (kv ys) hbytes (by decide) hbase
  (fun v' w' h1 h2=>h v' w' (by unfold OP;rw[dK,Ev];exact h1) h2)
theorem lw {ops:Array Oper}{rest:List Oper}{o:Oper}{a:Act}{Q:Exit→Act→World→Prop}(w:World)(p:PR)(hgd:o.guard=none)(s x:Operand)(t:TypeId)(ho:o.op=.call { callee:=.builtin .append,args:=#[s,x],argTypes:=#[t,t] })(ht:Tryz.prog.underlying t=some (.slice 62))(bZ:Nat)(v:Value)(xs:List PR)(hs:a.eval s=v)(hown:OP w bZ v xs)(c:Nat)(hx:a.eval x=.slice (some ⟨w.heap.size,0,none⟩) 1 c)(hbytes:(xs.length+1)*32≤140737488355328)(hbase:bZ≤w.heap.size)(h:∀ v' w',OP w' bZ v' (xs++[p])→Below bZ w w'→wpList Tryz.prog ops Q rest (a.put o.dst v') w'):wpList Tryz.prog ops Q (o::rest) a (w.alloc (.cells (sg p).toArray 62)) :=
 append1 w (sg p) 62 hgd s x t ho bZ (.agg #[.string ByteArray.empty,.string ByteArray.empty]) 2 32 ht gE rfl (by decide) v xs.length (aS xs) hs hown c hx rfl (by simp[sg,Value.oneCell']) hbytes (by decide) hbase
  (fun v' w' h1 h2=>h v' w' (by unfold OP;rw[dK,Ev];exact h1) h2)
theorem fx {ops:Array Oper}{o:Oper}{a:Act}{K:Act→World→Prop}{Q:Exit→Act→World→Prop}{E:Prop}(w:World)(p:PR)(hgd:o.guard=none)(s x:Operand)(t:TypeId)(ho:o.op=.call { callee:=.builtin .append,args:=#[s,x],argTypes:=#[t,t] })(ht:Tryz.prog.underlying t=some (.slice 62))(bZ:Nat)(v:Value)(xs:List PR)(hs:a.eval s=v)(hown:OP w bZ v xs)(c:Nat)(hx:a.eval x=.slice (some ⟨w.heap.size,0,none⟩) 1 c)(hbytes:(xs.length+1)*32≤140737488355328)(hbase:bZ≤w.heap.size)(h:∀ g cap w',OP w' bZ (.slice (some ⟨g,0,none⟩) (xs.length+1) cap) (xs++[p])→Below bZ w w'→K (a.put o.dst (.slice (some ⟨g,0,none⟩) (xs.length+1) cap)) w'):if Region.wanted o (yielded ops a.tmps)=true then Oper.wp Tryz.prog o a (w.alloc (.cells #[.string (bs p.1),.string (bs p.2)] 62)) K Q else E :=
 ql w (sg p) 62 hgd s x t ho bZ (.agg #[.string ByteArray.empty,.string ByteArray.empty]) 2 32 ht gE rfl (by decide) v xs.length (aS xs) hs hown c hx rfl (by simp[sg,Value.oneCell']) hbytes (by decide) hbase
  (fun g cap w' h1 h2=>h g cap w' (by unfold OP;rw[dK,Ev];exact h1) h2)
theorem aZ.mk {w:World}{a:Option Addr}{n cap:Nat}{xs:List Value}(h1:a=none→n=0∧cap=0)(h2:∀ j u,xs[j]?=some u→∃ b off,a=some ⟨b,off,none⟩∧w.cell? ⟨b,off+j,none⟩=some u):aZ w (.slice a n cap) n xs:=⟨a,cap,rfl,h1,h2⟩
theorem nO {w:World}{a:Option Addr}{n cap:Nat}{xs:List Value}(h:aZ w (.slice a n cap) n xs):a=none→n=0∧cap=0:=by
 obtain⟨a',cap',hv,hn,_⟩:=h;injection hv with h1 _ h3
 subst h1 h3;exact hn
theorem Ik {T:Prop} (h:T:=by
 intro ha
 by_cases e:cap=lo
 ·omega
 ·rw[if_neg e]at ha
  have:a=none:=by simpa using ha
  have:=hn this;omega
):T:=h
theorem RP.sub {w:World}{a:Option Addr}{cap:Nat}{l:List PR}(h:RP w (.slice a l.length cap) l)(lo hi:Nat)(h1:lo≤hi)(h2:hi≤l.length):RP w (sliced a lo hi cap 2) ((l.drop lo).take (hi-lo)):=by
 have hlen:((l.drop lo).take (hi-lo)).length=hi-lo:=by simp;omega
 obtain⟨hr,a',cap',hv,hle⟩:=h;injection hv with _ _ h3
 subst h3;have hn:=nO hr;obtain⟨a',cap',hv,_,hc⟩:=hr;injection hv with e1 _ e3
 subst e1 e3;unfold sliced;refine⟨?_,_,_,by rw[hlen],by rw[hlen];omega⟩;rw[hlen];refine aZ.mk ?_ ?_
 ·exact Ik
 ·intro j u hj
  rw[←mp,←mq,List.getElem?_take]at hj
  split at hj
  ·rename_i hlt
   rw[List.getElem?_drop]at hj;obtain⟨b,off,rfl,hu⟩:=hc _ _ hj;rw[if_neg (by omega)];refine⟨b,off+lo*2,?_,?_⟩
   ·rw[Option.map_some,Addr.add_lit]
   ·rw[←hu,Ee]
  ·simp at hj
theorem RP.cut {w:World}{a:Option Addr}{cap:Nat}{l:List PR}(h:RP w (.slice a l.length cap) l)(k:Nat)(hk:k≤l.length):RP w (sliced a k l.length cap 2) (l.drop k):=by
 have:=h.sub k l.length hk (Ei _)
 rwa [Eh (by simp)]at this
theorem RP.head {w:World}{a:Option Addr}{cap:Nat}{l:List PR}(h:RP w (.slice a l.length cap) l)(k:Nat)(hk:k≤l.length):RP w (sliced a 0 k cap 2) (l.take k):=by
 have:=h.sub 0 k (by omega) hk;simpa using this
theorem RP.cutRun {w:World}{a:Option Addr}{cap:Nat}{l:List PR}(h:RP w (.slice a l.length cap) l)(k:Nat)(c:Int)(hc:c=(k:Int))(hk:k≤l.length):∃ A C,(∀ wx,(Instr.slice 37 (.slice a l.length cap) (some (.int .i64 c)) none none).run Tryz.prog wx=.ok (.slice A (l.length-k) C) wx)∧RP w (.slice A (l.length-k) C) (l.drop k):=by
 subst hc;refine⟨_,_,fun wx=>?_,h.cut k hk⟩;obtain⟨i,hi,hz,hi1,hi2⟩:=info_parts gE;rw[run_slice_l wx 37 a l.length cap (by kernel_rfl) .i64 k (by omega) (by omega)];have he:(sizeOf (Tryz.prog.elem 37)).run Tryz.prog wx=.ok 2 wx:=by kernel_rfl
 rw[he];simp[Result.andThen,sliced]
theorem RP.headRun {w:World}{a:Option Addr}{cap:Nat}{l:List PR}(h:RP w (.slice a l.length cap) l)(k:Nat)(c:Int)(hc:c=(k:Int))(hk:k≤l.length):∃ A C,(∀ wx,(Instr.slice 37 (.slice a l.length cap) none (some (.int .i64 c)) none).run Tryz.prog wx=.ok (.slice A k C) wx)∧RP w (.slice A k C) (l.take k):=by
 subst hc;obtain⟨_,a',cap',hv,hle⟩:=id h;injection hv with _ _ h3
 subst h3;refine⟨if cap=0 then a else a.map (·.add (0*2)),cap-0,fun wx=>?_,by have:=RP.head h k hk;simpa[sliced] using this⟩;rw[run_slice_h wx 37 a l.length cap (by kernel_rfl) .i64 k (by omega) (by omega)];have he:(sizeOf (Tryz.prog.elem 37)).run Tryz.prog wx=.ok 2 wx:=by kernel_rfl
 rw[he];simp[Result.andThen,sliced]
def lt (a b:LU_):Bool:=Op.bytesLess a b
def bR:List PR→Bool
 | []=>true
 | [_]=>true
 | p::q::l=>!lt q.1 p.1&&bR (q::l)
theorem Hu {T:Prop} (h:T:=by
 constructor
 ·rintro⟨h1,h2⟩ k hk
  cases k with
  | zero=>exact h1
  | succ k=>exact h2 k (by simpa using hk)
 ·intro h
  exact⟨h 0 (by simp),fun k hk=>h (k+1) (by simpa using hk)⟩
):T:=h
theorem kr (l:List PR):bR l=true↔∀ k (h:k+1<l.length),lt l[k+1].1 l[k].1=false:=by
 match l with
 | []=>simp[bR]
 | [_]=>simp[bR]
 | p::q::l =>
  have ih:=kr (q::l);simp only[bR,EE,Bool.not_eq_true',ih];exact Hu
theorem kB (a b:LU_):lt a b=true↔a<b:=by simp[lt,Proofs.bytesLess_eq]
theorem eG {a b c:LU_}(h1:lt a b=true)(h2:lt b c=true):lt a c=true:=by
 rw[kB]at *;exact List.lt_trans h1 h2
theorem lt_irr (a:LU_):lt a a=false:=by
 cases h:lt a a
 ·rfl
 ·rw[kB]at h;exact absurd h (List.lt_irrefl a)
theorem jX {a b c:LU_}(h1:lt b a=false)(h2:lt c b=false):lt c a=false:=by
 have h1':¬b<a:=by rw[←kB,h1];simp
 have h2':¬c<b:=by rw[←kB,h2];simp
 cases h:lt c a
 ·rfl
 ·rw[kB]at h
  exact absurd (List.lt_of_le_of_lt (List.not_lt.1 h2') h) h1'
theorem eH {a b:LU_}(h:lt a b=true):lt b a=false:=by
 cases h2:lt b a
 ·rfl
 ·rw[←lt_irr a,eG h h2]
theorem An (a b:LU_):(!(lt a b||a==b))=lt b a:=by
 cases h1:lt a b
 ·cases h2:a==b
  ·have n1:¬a<b:=by rw[←kB,h1];simp
   have n2:a≠b:=by intro e;simp[e]at h2
   cases h3:lt b a
   ·have n3:¬b<a:=by rw[←kB,h3];simp
    exact absurd (List.le_antisymm (List.not_lt.1 n3) (List.not_lt.1 n1)) n2
   ·rfl
  ·have e:a=b:=by simpa using h2
   rw[e,lt_irr];rfl
 ·rw[eH h1];rfl
def mrg:List PR→List PR→List PR
 | [],b=>b
 | a,[]=>a
 | x::a,y::b=>if lt y.1 x.1 then y::mrg (x::a) b else x::mrg a (y::b)
termination_by a b=>a.length+b.length
theorem eF (b:List PR):mrg [] b=b:=by rw[mrg]
theorem gk (a:List PR):mrg a []=a:=by cases a<;>simp[mrg]
theorem bT (x y:PR)(a b:List PR):mrg (x::a) (y::b)=if lt y.1 x.1 then y::mrg (x::a) b else x::mrg a (y::b):=by rw[mrg]
def ins (p:PR):List PR→List PR
 | []=>[p]
 | x::l=>if lt p.1 x.1 then p::x::l else x::ins p l
def srt (l:List PR):List PR:=l.foldl (fun o p=>ins p o) []
theorem jo (l:List PR)(p:PR):srt (l++[p])=ins p (srt l):=by simp[srt]
theorem nY (p:PR):∀ l:List PR,(ins p l).length=l.length+1
 | []=>rfl
 | x::l=>by rw[ins];split<;>simp[nY p l]
theorem bC (l:List PR):(srt l).length=l.length:=by
 suffices h:∀ (l o:List PR),(l.foldl (fun o p=>ins p o) o).length=o.length+l.length by simpa[srt] using h l []
 intro l
 induction l with
 | nil=>simp
 | cons p l ih=>intro o;simp[ih,nY];omega
theorem Bn (p:PR):∀ a b:List PR,mrg a (ins p b)=ins p (mrg a b):=by
 intro a b
 induction a,b using mrg.induct with
 | case1 b=>simp[eF]
 | case2 a h =>
  rw[gk];clear h
  induction a with
  | nil=>simp[eF,ins]
  | cons x a ih =>
   rw[ins,ins,bT]
   split
   ·rw[gk]
   ·have:mrg a [p]=mrg a (ins p []):=rfl
    rw[this,ih]
 | case3 x a y b h ih =>
  cases hp:lt p.1 y.1
  ·rw[ins,if_neg (by rw[hp];simp),bT,if_pos h,ih,bT,if_pos h,ins,if_neg (by rw[hp];simp)]
  ·rw[ins,if_pos hp,bT,if_pos (eG hp h),bT,if_pos h,ins,if_pos hp]
 | case4 x a y b h ih =>
  have h':lt y.1 x.1=false:=by simpa using h
  cases hp:lt p.1 y.1
  ·have hx:lt p.1 x.1=false:=jX h' hp
   rw[ins,if_neg (by rw[hp];simp)]at ih⊢;rw[bT,if_neg h,ih,bT,if_neg h,ins,if_neg (by rw[hx];simp)]
  ·rw[ins,if_pos hp]at ih⊢
   rw[bT x y,if_neg h,ins,bT]
   split
   ·rw[bT,if_neg h]
   ·rw[ih]
theorem qE (a b:List PR):mrg (srt a) (srt b)=srt (a++b):=by
 have:∀ n (b:List PR),b.length=n→mrg (srt a) (srt b)=srt (a++b):=by
  intro n
  induction n with
  | zero=>intro b hb;rw[Ej hb];simp[srt,gk]
  | succ n ih =>
   intro b hb;obtain⟨b',p,rfl⟩:∃ b' p,b=b'++[p]:=⟨b.dropLast,b.getLast (by intro e;rw[e]at hb;simp at hb),(List.dropLast_concat_getLast _).symm⟩
   rw[jo,Bn,ih b' (by simpa using hb),←Et,jo]
 exact this _ b rfl
theorem A4 (p q:PR):srt [p,q]=if lt q.1 p.1 then [q,p] else [p,q]:=by simp[srt,ins]
theorem dU {x:PR}{l:List PR}:bR (x::l)=true↔(∀ y∈l,lt y.1 x.1=false)∧bR l=true:=by
 induction l generalizing x with
 | nil=>simp[bR]
 | cons y l ih =>
  rw[bR,EE,Bool.not_eq_true'];constructor
  ·rintro⟨h1,h2⟩
   refine⟨?_,h2⟩;intro z hz;rcases EW.1 hz with rfl|hz
   ·exact h1
   ·exact jX h1 ((ih.1 h2).1 z hz)
  ·rintro⟨h1,h2⟩
   exact⟨h1 y (by simp),h2⟩
theorem mem_ins {p z:PR}:∀ {l:List PR},z∈ins p l↔z=p∨z∈l
 | []=>by simp[ins]
 | x::l=>by
  rw[ins]
  split
  ·simp
  ·simp[mem_ins (l:=l)]
   constructor
   ·rintro (h|h|h)<;>simp[h]
   ·rintro (h|h|h)<;>simp[h]
theorem nX (p:PR):∀ l:List PR,bR l=true→bR (ins p l)=true
 | [],_=>rfl
 | x::l,h=>by
  rw[ins]
  split
  ·rename_i hp
   rw[bR,h,eH hp];rfl
  ·rename_i hp
   have hp':lt p.1 x.1=false:=by simpa using hp
   obtain⟨h1,h2⟩:=dU.1 h;refine dU.2 ⟨?_,nX p l h2⟩;intro z hz;rcases mem_ins.1 hz with rfl|hz
   ·exact hp'
   ·exact h1 z hz
theorem dT (l:List PR):bR (srt l)=true:=by
 suffices h:∀ (l o:List PR),bR o=true→bR (l.foldl (fun o p=>ins p o) o)=true from h l [] rfl
 intro l
 induction l with
 | nil=>intro o h;exact h
 | cons p l ih=>intro o h;exact ih _ (nX p o h)
theorem sN (p:PR):∀ l:List PR,(∀ x∈l,lt p.1 x.1=false)→ins p l=l++[p]
 | [],_=>rfl
 | x::l,h=>by
  rw[ins,if_neg (by rw[h x (by simp)];simp),sN p l (fun y hy=>h y (by simp[hy]))];rfl
theorem me {p:PR}:∀ {l:List PR},bR (l++[p])=true→bR l=true∧∀ x∈l,lt p.1 x.1=false
 | [],_=>by simp[bR]
 | x::l,h=>by
  rw[Ed,dU]at h;obtain⟨h1,h2⟩:=h;obtain⟨h3,h4⟩:=me h2;refine⟨dU.2 ⟨fun y hy=>h1 y (by simp[hy]),h3⟩,?_⟩;intro y hy;rcases EW.1 hy with rfl|hy
  ·exact h1 p (by simp)
  ·exact h4 y hy
theorem gX (l:List PR)(h:bR l=true):srt l=l:=by
 have:∀ n (l:List PR),l.length=n→bR l=true→srt l=l:=by
  intro n
  induction n with
  | zero=>intro l hl _;rw[Ej hl];rfl
  | succ n ih =>
   intro l hl h;obtain⟨l',p,rfl⟩:∃ b' p,l=b'++[p]:=⟨l.dropLast,l.getLast (by intro e;rw[e]at hl;simp at hl),(List.dropLast_concat_getLast _).symm⟩
   obtain⟨h1,h2⟩:=me h;rw[jo,ih l' (by simpa using hl) h1,sN p l' h2]
 exact this _ l rfl h
theorem A5 (l:List PR):srt (srt l)=srt l:=gX _ (dT l)
theorem uU (p:PR):∀ (l:List PR) (k:Nat),k≤l.length→bR l=true→(∀ j (h:j<l.length),k≤j→lt p.1 l[j].1=true)→(∀ (h:0<k) (h':k-1<l.length),lt p.1 l[k-1].1=false)→ins p l=l.take k++p::l.drop k
 | [],k,hk,_,_,_=>by simp[ins]
 | x::l,0,_,_,h,_=>by
  have:=h 0 (by simp) (Ei _);rw[ins,if_pos (by simpa using this)];rfl
 | x::l,k+1,hk,hs,h,h'=>by
  obtain⟨h1,h2⟩:=dU.1 hs
  have hpx:lt p.1 x.1=false:=by
   have hq:=h' (by omega) (by simp at hk⊢;omega)
   cases k with
   | zero=>simpa using hq
   | succ k =>
    have hm:((x::l)[k+1+1-1]'(by simp at hk⊢;omega))∈l:=by simp
    exact jX (h1 _ hm) hq
  rw[ins,if_neg (by rw[hpx];simp),uU p l k (by simpa using hk) h2]
  ·rfl
  ·intro j hj hkj
   have:=h (j+1) (by simpa using hj) (by omega);simpa using this
  ·intro hk0 hj
   obtain⟨m,rfl⟩:∃ m,k=m+1:=⟨k-1,by omega⟩
   have:=h' (by omega) (by simp at hj⊢;omega);simpa using this
theorem sf {a b:List PR}(k:Nat)(h:k<a.length)(h':k<b.length)(hne:a[k]≠b[k]):a≠b:=by
 rintro rfl;exact hne rfl
theorem BV (p q:PR):(p.1==q.1&&p.2==q.2)=decide (p=q):=by
 rw[Bool.eq_iff_iff];simp[Prod.ext_iff]
theorem li (p q:PR)(w:World):Calls Tryz.prog 116 #[.agg #[.string (bs p.1),.string (bs p.2)],.agg #[.string (bs q.1),.string (bs q.2)]] w fun e w'=>e=.returned (.bool (lt p.1 q.1))∧Bw_ w w':=by
 go_enter Tryz.func116,Tryz.ntmps116;go_wp2;go_ret;exact⟨rfl,bt (af _ _) (af _ _)⟩
def run1 (k:LU_):List PR→Nat
 | []=>0
 | p::l=>if p.1=k then run1 k l+1 else 0
theorem vX (k:LU_):∀ l,run1 k l≤l.length
 | []=>Ei _
 | p::l=>by have:=vX k l;unfold run1;split<;>simp;omega
def head1:List PR→Nat
 | []=>0
 | p::l=>run1 p.1 l+1
theorem gm (l:List PR)(h:0<l.length):1≤head1 l∧head1 l≤l.length:=by
 cases l with
 | nil=>simp at h
 | cons p l=>have:=vX p.1 l;simp only[head1,Ea];omega
theorem sP (l:List PR)(h:0<l.length)(k:Nat)(hk:k<head1 l)(hl:k<l.length):l[k].1=l[0].1:=by
 cases l with
 | nil=>simp at h
 | cons p l =>
  have key:∀ (l:List PR) (k:Nat) (hl:k<l.length),k<run1 p.1 l→l[k].1=p.1:=by
   intro l
   induction l with
   | nil=>intro k hl;simp at hl
   | cons q l ih =>
    intro k hl hk;unfold run1 at hk
    split at hk
    ·cases k with
     | zero=>assumption
     | succ k=>exact ih k (by simpa using hl) (by omega)
    ·omega
  cases k with
  | zero=>rfl
  | succ k=>exact key l k (by simpa using hl) (by simpa[head1] using hk)
theorem pQ (l:List PR)(h:0<l.length)(hl:head1 l<l.length):l[head1 l].1≠l[0].1:=by
 cases l with
 | nil=>simp at h
 | cons p l =>
  have key:∀ (l:List PR) (hl:run1 p.1 l<l.length),l[run1 p.1 l].1≠p.1:=by
   intro l
   induction l with
   | nil=>intro hl;simp at hl
   | cons q l ih =>
    intro hl
    by_cases hq:q.1=p.1
    ·have e:run1 p.1 (q::l)=run1 p.1 l+1:=if_pos hq
     simp only[e,ER];exact ih (by rw[e]at hl;simpa using hl)
    ·have e:run1 p.1 (q::l)=0:=if_neg hq
     simp only[e,Ez];exact hq
  simp only[head1,ER,Ez];exact key l (by simpa[head1] using hl)
theorem jG (l:List PR)(h:0<l.length)(k:Nat)(h1:1≤k)(hl:k≤l.length)(hin:∀ j (hj:j<k),l[j].1=l[0].1)(hout:∀ (hk:k<l.length),l[k].1≠l[0].1):k=head1 l:=by
 have hp:=gm l h;rcases Nat.lt_trichotomy k (head1 l) with hlt|he|hgt
 ·exact absurd (sP l h k hlt (by omega)) (hout (by omega))
 ·exact he
 ·exact absurd (hin (head1 l) hgt) (pQ l h (by omega))
def sT:Nat→List PR→List (List PR)
 | 0,_=>[]
 | n+1,l=>if l.length=0 then [] else l.take (head1 l)::sT n (l.drop (head1 l))
def grp (l:List PR):List (List PR):=sT l.length l
theorem pU:∀ (n m:Nat) (l:List PR),l.length≤n→l.length≤m→sT n l=sT m l
 | 0,0,_,_,_=>rfl
 | 0,m+1,l,h,_=>by simp[sT,show l.length=0 by omega]
 | n+1,0,l,_,h=>by simp[sT,show l.length=0 by omega]
 | n+1,m+1,l,h,h'=>by
  unfold sT
  split
  ·rfl
  ·have:=gm l (by omega)
   rw[pU n m _ (by simp;omega) (by simp;omega)]
theorem gS:grp []=[]:=rfl
theorem gG (l:List PR)(h:0<l.length):grp l=l.take (head1 l)::grp (l.drop (head1 l)):=by
 have hp:=gm l h;obtain⟨n,hn⟩:∃ n,l.length=n+1:=⟨l.length-1,by omega⟩
 unfold grp;rw[hn,sT,if_neg (by omega)];congr 1;exact pU _ _ _ (by simp;omega) (by simp)
theorem bX:∀ (n:Nat) (l:List PR),l.length≤n→(grp l).length≤l.length
 | 0,l,h=>by
  have:l=[]:=Ej (by omega);subst this;simp[gS]
 | n+1,l,h=>by
  by_cases h0:0<l.length
  ·have hp:=gm l h0
   rw[gG l h0];have:=bX n (l.drop (head1 l)) (by simp;omega);simp at this⊢;omega
  ·have:l=[]:=Ej (by omega)
   subst this;simp[gS]
theorem uZ:∀ (n:Nat) (l:List PR),l.length≤n→∀ g∈grp l,0<g.length
 | 0,l,h=>by
  have:l=[]:=Ej (by omega);subst this;simp[gS]
 | n+1,l,h=>by
  by_cases h0:0<l.length
  ·have hp:=gm l h0
   rw[gG l h0];intro g hg;rcases EW.1 hg with rfl|hg
   ·simp;omega
   ·exact uZ n _ (by simp;omega) g hg
  ·have:l=[]:=Ej (by omega)
   subst this;simp[gS]
def cX (k:LU_)(l:List PR):List PR:=l.filter fun p=>p.1==k
theorem gh (k:LU_)(a b:List PR):cX k (a++b)=cX k a++cX k b:=by simp[cX]
theorem iK (k:LU_)(l:List PR)(h:∀ p∈l,p.1≠k):cX k l=[]:=by
 rw[cX,List.filter_eq_nil_iff];intro p hp;simpa using h p hp
theorem ofKey_all (k:LU_)(l:List PR)(h:∀ p∈l,p.1=k):cX k l=l:=by
 rw[cX,List.filter_eq_self];intro p hp;simpa using h p hp
theorem lt_ne {a b:LU_}(h:lt a b=true):a≠b:=by
 rintro rfl;rw[lt_irr]at h
 cases h
theorem pK (k:LU_)(p:PR):∀ l:List PR,bR l=true→cX k (ins p l)=cX k l++cX k [p]
 | [],_=>by simp[ins,cX]
 | q::l,hs=>by
  obtain⟨h1,h2⟩:=dU.1 hs;unfold ins
  split
  ·rename_i hlt
   have e:p::q::l=[p]++(q::l):=rfl;rw[e,gh]
   by_cases hp:p.1=k
   ·have:cX k (q::l)=[]:=by
     refine iK _ _ fun y hy=>?_;rcases EW.1 hy with rfl|hy
     ·exact fun e=>lt_ne hlt (hp.trans e.symm)
     ·intro e
      have h3:=h1 y hy
      have h4:lt q.1 p.1=false:=by
       rw[e,←hp]at h3;exact eH hlt
      have h5:lt y.1 q.1=true:=by rw[e,←hp];exact hlt
      rw[h5]at h3
      cases h3
    rw[this,Ep,Eu]
   ·have:cX k [p]=[]:=iK _ _ fun y hy=>by simp at hy;subst hy;exact hp
    rw[this,Ep,Eu]
  ·have ih:=pK k p l h2
   have e1:q::ins p l=[q]++ins p l:=rfl;have e2:q::l=[q]++l:=rfl;rw[e1,e2,gh,gh,ih,Et]
theorem pJ (k:LU_)(l:List PR):cX k (srt l)=cX k l:=by
 have h:∀ (l:List PR),cX k (srt l.reverse)=cX k l.reverse:=by
  intro l
  induction l with
  | nil=>rfl
  | cons p l ih=>rw[List.reverse_cons,jo,pK _ _ _ (dT _),ih,gh]
 have:=h l.reverse
 rwa [List.reverse_reverse]at this
theorem rG (l:List PR)(k:Nat)(h:bR l=true):bR (l.drop k)=true:=by
 rw[kr]at h⊢;intro j hj;simp only[List.getElem_drop];exact h (k+j) (by simp at hj;omega)
theorem pf (l:List PR)(h:bR l=true):∀ (i j:Nat) (hi:i≤j) (hj:j<l.length),lt l[j].1 l[i].1=false:=by
 intro i j hi hj
 induction j with
 | zero =>
   obtain rfl:i=0:=by omega
   exact lt_irr _
 | succ j ih =>
  by_cases he:i=j+1
  ·subst he;exact lt_irr _
  ·have h1:=ih (by omega) (by omega)
   have h2:=(kr l).1 h j hj;exact jX h1 h2
theorem mA {a b:LU_}(h:lt b a=false)(hne:a≠b):lt a b=true:=by
 have:=An b a;rw[h,Bool.false_or]at this;have e:(b==a)=false:=by simpa using fun e:b=a=>hne e.symm
 rw[e]at this;simpa using this.symm
theorem pR (l:List PR)(h:0<l.length):∀ p∈l.take (head1 l),p.1=l[0].1:=by
 intro p hp;obtain⟨k,hk,rfl⟩:=List.getElem_of_mem hp;rw[List.getElem_take];exact sP l h k (by simp at hk;omega) (by simp at hk;omega)
theorem s8 (l:List PR)(h:0<l.length)(hs:bR l=true):∀ p∈l.drop (head1 l),lt l[0].1 p.1=true:=by
 intro p hp;obtain⟨k,hk,rfl⟩:=List.getElem_of_mem hp;rw[List.getElem_drop];have hk':head1 l+k<l.length:=by simp at hk;omega
 have h1:=pQ l h (by omega);have h2:=pf l hs 0 (head1 l) (by omega) (by omega);have h3:=pf l hs (head1 l) (head1 l+k) (by omega) hk';have h4:lt l[0].1 l[head1 l].1=true:=mA h2 (Ne.symm h1)
 by_cases he:l[head1 l+k].1=l[head1 l].1
 ·rw[he];exact h4
 ·exact eG h4 (mA h3 (Ne.symm he))
def hk1:List PR→LU_
 | []=>[]
 | p::_=>p.1
def Dw (G:List (List PR))(l:List PR):Prop:=(∀ g∈G,g=cX (hk1 g) l∧(∃ p∈l,hk1 g=p.1))∧∀ i (h:i+1<G.length),lt (hk1 G[i]) (hk1 G[i+1])=true
theorem iq:∀ (n:Nat) (l:List PR),l.length≤n→bR l=true→Dw (grp l) l
 | 0,l,hn,_=>by
  have:l=[]:=Ej (by omega);subst this;rw[gS];exact⟨by simp,fun i h=>by simp at h⟩
 | n+1,l,hn,hs=>by
  by_cases h0:0<l.length
  ·have hp:=gm l h0
   obtain⟨ih1,ih2⟩:=iq n (l.drop (head1 l)) (by simp;omega) (rG l _ hs)
   have hk0:hk1 (l.take (head1 l))=l[0].1:=by
    cases l with
    | nil=>simp at h0
    | cons p l =>
      obtain⟨m,hm⟩:∃ m,head1 (p::l)=m+1:=⟨head1 (p::l)-1,by omega⟩
      rw[hm];rfl
   have hsplit:∀ k,cX k l=cX k (l.take (head1 l))++cX k (l.drop (head1 l)):=fun k=>by rw[←gh,List.take_append_drop]
   have hfirst:∀ g∈grp (l.drop (head1 l)),lt l[0].1 (hk1 g)=true:=by
    intro g hg;obtain⟨_,p,hp1,hp2⟩:=ih1 g hg;rw[hp2];exact s8 l h0 hs p hp1
   rw[gG l h0];refine⟨fun g hg=>?_,fun i hi=>?_⟩
   ·rcases EW.1 hg with rfl|hg
    ·rw[hk0,hsplit,ofKey_all _ _ (pR l h0),iK _ (l.drop (head1 l)) (fun p hp e=>lt_ne (s8 l h0 hs p hp) e.symm),Ep]
     exact⟨rfl,l[0],EM h0,rfl⟩
    ·obtain⟨e1,p,hp1,hp2⟩:=ih1 g hg
     refine⟨?_,p,List.mem_of_mem_drop hp1,hp2⟩;rw[hsplit,iK _ (l.take (head1 l)) (fun q hq e=>lt_ne (hfirst g hg) (by rw[←e];exact(pR l h0 q hq).symm)),Eu];exact e1
   ·cases i with
    | zero =>
     simp only[Ez,ER,Ek];rw[hk0];exact hfirst _ (EM _)
    | succ i =>
     simp only[ER];exact ih2 i (by simpa using hi)
  ·have:l=[]:=Ej (by omega)
   subst this;rw[gS];exact⟨by simp,fun i h=>by simp at h⟩
theorem wt (w:World)(b:Nat):Below b w w.drew:=(Em _ _).drew
theorem OP.empty (w:World):OP (w.alloc (.cells #[] 62)) w.heap.size (.slice (some ⟨w.heap.size,0,none⟩) 0 0) [] :=
 ⟨rfl,.inr ⟨w.heap.size,0,#[],rfl,Ei _,by show(w.heap.push _)[w.heap.size]?=_;simp,Ei _,by decide,rfl,rfl⟩⟩
theorem ix (v:Value)(l:List PR)(w:World)(hr:RP w v l)(hl:l.length*32≤140737488355328):Calls Tryz.prog 157 #[v] w fun e w'=>∃ v',e=.returned v'∧OP w' w.heap.size v' l∧Bw_ w w':=by
 obtain⟨hr0,a,cap,rfl,hle⟩:=id hr;have hnil:=nO hr0
 cases a with
 | none =>
  obtain⟨h0,rfl⟩:=hnil rfl;have hl0:l=[]:=Ej h0;subst hl0;go_enter Tryz.func157,Tryz.ntmps157;have q:=fun w:World=>Lib.run_eql_slice_nil w 37 62 none 0 0 0 0 Tryz.underlying37;go_wp2;go_ret;exact⟨_,rfl,OP.nil _ _,Em _ _⟩
 | some ad =>
  have q:=fun w:World=>Lib.run_eql_slice_nil w 37 62 (some ad) l.length cap 0 0 Tryz.underlying37;have H:=zH hr;clear hr hr0 hnil;go_enter Tryz.func157,Tryz.ntmps157;go_wp2_with (at_builtin;refine dc _ rfl _ _ _ rfl Tryz.underlying37 w.heap.size _ [] rfl (OP.empty w) _ l rfl (H.o.below (af _ _)) (by simpa using hl) (by simp) ?_;intro v' w1 hown1 hB1);go_ret;exact⟨_,rfl,hown1,(af w _).trans hB1⟩
def kd:Value→Nat
 | .slice _ n _=>n
 | _=>0
theorem Dd (w:World)(n:Nat)(hb:32*n≤281474976710656):∃ w',(Instr.makeSlice 37 (.int .i64 0) (.int .i64 (n:Int))).run Tryz.prog w=.ok (.slice (some ⟨w.heap.size,0,none⟩) 0 n) w' ∧OP w' w.heap.size (.slice (some ⟨w.heap.size,0,none⟩) 0 n) []∧Bw_ w w':=by
 obtain⟨i,hi,hz,hi1,hi2⟩:=info_parts gE;obtain⟨w',h1,h2,h3⟩:=run_make_own (P:=Tryz.prog) w w.heap.size 37 62 i _ 2 Tryz.underlying37 hi hz hi1 .i64 .i64 n (by rw[hi2];exact hb) (by unfold maxLen;omega) (Ei _);exact⟨w',h1,h2,(Em _ _).grown h3 (Ei _) (by simp)⟩
theorem nQ (va vb:Value)(la lb:List PR)(w:World)(ha:RP w va la)(hb:RP w vb lb)(hl:(la.length+lb.length)*32≤140737488355328):Calls Tryz.prog 115 #[va,vb,.func (.func 116) #[] #[]] w fun e w'=>∃ v',e=.returned v'∧OP w' w.heap.size v' (mrg la lb)∧Bw_ w w':=by
 obtain⟨_,aa,ca,rfl,hca⟩:=id ha;obtain⟨_,ab,cb,rfl,hcb⟩:=id hb;obtain⟨w1,hmk,hown1,hB1⟩:=Dd w (la.length+lb.length) (by omega);rw[Int.natCast_add]at hmk;have HA:=zH ha;have HB:=zH hb;clear ha hb;go_enter Tryz.func115,Tryz.ntmps115;go_wp2
 go_loopw [7,0,1] (fun vo xa xb wr=>∃ o xs ys,OP wr w.heap.size vo o∧RP w xa xs∧RP w xb ys∧Hid (o++mrg xs ys=mrg la lb)∧o.length+xs.length+ys.length=la.length+lb.length∧Below w.heap.size w wr) (fun vo xa xb _=>kd xa+kd xb)
 case atStart=>exact⟨[],la,lb,hown1,HA.o,HB.o,rfl,by simp,hB1⟩
 case round =>
  obtain⟨o,xs,ys,hown,hxs,hys,hH,hlen,hB⟩:=hrel;clear HA HB hown1 hmk hB1;obtain⟨a1,c1,rfl,hc1,hx⟩:=hxs.open;obtain⟨a2,c2,rfl,hc2,hy⟩:=hys.open;obtain⟨ao,co,rfl⟩:=ap hown;have HXS:=zH hxs;have HYS:=zH hys
  by_cases h1:0<xs.length
  ·by_cases h2:0<ys.length
   ·obtain⟨b1,o1,rfl,d1,d2⟩:=hx 0 h1
    obtain⟨b2,o2,rfl,d3,d4⟩:=hy 0 h2;rw[Nat.zero_mul,Nat.add_zero]at d1 d2 d3 d4;obtain⟨A1,C1,s1,hc1'⟩:=hxs.cutRun 1 1 rfl h1;obtain⟨A2,C2,s2,hc2'⟩:=hys.cutRun 1 1 rfl h2;have HC1:=zH hc1';have HC2:=zH hc2';clear hc1' hc2';clear hxs hys;replace d1:=DK hB d1;replace d2:=DK hB d2;replace d3:=DK hB d3;replace d4:=DK hB d4;have kk1:(0:Int)<(xs.length:Int):=by omega
    have kk2:(0:Int)<(ys.length:Int):=by omega
    have kk3:(1:Int)≤(xs.length:Int):=by omega
    have kk4:(1:Int)≤(ys.length:Int):=by omega
    have hX:xs=xs[0]::xs.drop 1:=by cases xs with|nil=>simp at h1|cons x xs=>rfl
    have hY:ys=ys[0]::ys.drop 1:=by cases ys with|nil=>simp at h2|cons x xs=>rfl
    have HX:=zH hX;have HY:=zH hY;clear hX hY hx hy
    cases hlt:lt ys[0].1 xs[0].1
    ·have HL:=zH hlt;clear hlt
     go_wp2;go_region_with (go_at_call 116;refine(li _ _ _).mono ?_;rw[HL.o];rintro e w2 ⟨rfl,hB2⟩)
     all_goals
      have hB2':Below wr.heap.size wr w2:=(b_drew wr).trans hB2;have e1:=DK hB2' d1;have e2:=DK hB2' d2;have hown2:=World.ownsRow.drew (hown.below hB2');have hby:(o.length+1)*32≤140737488355328:=by omega
      have hbase:w.heap.size≤w2.drew.heap.size:=by have:=hB.size;have:=hB2'.size;show w.heap.size≤w2.heap.size;omega
      clear hown d1 d2 d3 d4;go_wp2;go_region_law (refine fx w2.drew xs[0] rfl _ _ 37 rfl Tryz.underlying37 w.heap.size _ o rfl hown2 _ rfl hby hbase ?_;intro g cap w3 hown3 hB3)
      all_goals
       simp only[EU,ER,Ez];go_frame;go_wp2;go_roundw
       case rel =>
        refine⟨o++[xs[0]],xs.drop 1,ys,hown3,HC1.o,HYS.o,?_,by simp;omega,hB.trans ((hB2'.mono hB.size).trans ((wt w2 _).trans hB3))⟩;have hh:=hH.o;rw[HX.o,HY.o,bT,if_neg (by rw[HL.o];simp),←HY.o]at hh;unfold Hid;rw[←hh];simp
       case measure=>simp[kd];omega
    ·have HL:=zH hlt;clear hlt
     go_wp2;go_region_with (go_at_call 116;refine(li _ _ _).mono ?_;rw[HL.o];rintro e w2 ⟨rfl,hB2⟩)
     all_goals
      have hB2':Below wr.heap.size wr w2:=(b_drew wr).trans hB2;have e1:=DK hB2' d3;have e2:=DK hB2' d4;have hown2:=World.ownsRow.drew (hown.below hB2');have hby:(o.length+1)*32≤140737488355328:=by omega
      have hbase:w.heap.size≤w2.drew.heap.size:=by have:=hB.size;have:=hB2'.size;show w.heap.size≤w2.heap.size;omega
      clear hown d1 d2 d3 d4;go_wp2;go_region_law (refine fx w2.drew ys[0] rfl _ _ 37 rfl Tryz.underlying37 w.heap.size _ o rfl hown2 _ rfl hby hbase ?_;intro g cap w3 hown3 hB3)
      all_goals
       simp only[EU,ER,Ez];go_frame;go_wp2;go_roundw
       case rel =>
        refine⟨o++[ys[0]],xs,ys.drop 1,hown3,HXS.o,HC2.o,?_,by simp;omega,hB.trans ((hB2'.mono hB.size).trans ((wt w2 _).trans hB3))⟩;have hh:=hH.o;rw[HX.o,HY.o,bT,if_pos HL.o,←HX.o]at hh;unfold Hid;rw[←hh];simp
       case measure=>simp[kd];omega
   ·obtain rfl:ys=[]:=Ej (by omega)
    have kk1:(0:Int)<(xs.length:Int):=by omega
    clear hx hy hxs hys;have hby:(o.length+xs.length)*32≤140737488355328:=by simp at hlen;omega
    have hby2:((o++xs).length+0)*32≤140737488355328:=by simp at hlen⊢;omega
    have hbase:=hB.size;have hx:=HXS.o.below hB;go_wp2_with (first|(at_builtin;refine dc w2 rfl _ _ _ rfl Tryz.underlying37 w.heap.size _ (o++xs) rfl hown2 _ [] rfl (HYS.o.below hB2') hby2 hB2'.size ?_;intro v3 w3 hown3 hB3)|(at_builtin;refine dc wr rfl _ _ _ rfl Tryz.underlying37 w.heap.size _ o rfl hown _ xs rfl hx hby hbase ?_;intro v2 w2 hown2 hB2;have hB2':=hB.trans hB2));go_ret;have hh:=hH.o;rw[gk]at hh;rw[hh,Ep]at hown3;exact⟨_,rfl,hown3,hB2'.trans hB3⟩
  ·obtain rfl:xs=[]:=Ej (by omega)
   clear hx hy hxs hys;have hby:(o.length+0)*32≤140737488355328:=by simp at hlen;omega
   have hby2:((o++[]).length+ys.length)*32≤140737488355328:=by simp at hlen⊢;omega
   have hbase:=hB.size;have hx:=HXS.o.below hB;go_wp2_with (first|(at_builtin;refine dc w2 rfl _ _ _ rfl Tryz.underlying37 w.heap.size _ (o++[]) rfl hown2 _ ys rfl (HYS.o.below hB2') hby2 hB2'.size ?_;intro v3 w3 hown3 hB3)|(at_builtin;refine dc wr rfl _ _ _ rfl Tryz.underlying37 w.heap.size _ o rfl hown _ [] rfl hx hby hbase ?_;intro v2 w2 hown2 hB2;have hB2':=hB.trans hB2));go_ret;have hh:=hH.o;rw[eF]at hh;rw[Ep,hh]at hown3;exact⟨_,rfl,hown3,hB2'.trans hB3⟩
theorem OP.mono {w:World}{bZ base':Nat}{v:Value}{l:List PR}(h:OP w bZ v l)(hb:base'≤bZ):OP w base' v l:=dL h hb
theorem so {w:World}{bZ:Nat}{v:Value}{p q:PR}(h:OP w bZ v [p,q]):∃ g cap,v=.slice (some ⟨g,0,none⟩) 2 cap∧bZ≤g:=by
 rcases h.2 with ⟨_,h0⟩|⟨g',cap',cur,hv,hg,_⟩
 ·simp at h0
 ·exact⟨g',cap',hv,hg⟩
theorem ju {w:World}{bZ g cap:Nat}{p q:PR}(h:OP w bZ (.slice (some ⟨g,0,none⟩) 2 cap) [p,q]):w.cell? ⟨g,0,none⟩=some (.string (bs p.1))∧w.cell? ⟨g,1,none⟩=some (.string (bs p.2))∧w.cell? ⟨g,2,none⟩=some (.string (bs q.1))∧w.cell? ⟨g,3,none⟩=some (.string (bs q.2)) ∧w.frozen? ⟨g,0,none⟩=false∧w.frozen? ⟨g,1,none⟩=false∧w.frozen? ⟨g,2,none⟩=false∧w.frozen? ⟨g,3,none⟩=false:=by
 have hc:=World.ownsRow.cells (g:=g) h rfl
 have hf:∀ j,w.frozen? ⟨g,j,none⟩=false:=by
  rcases h.2 with ⟨hv,_⟩|⟨g',cap',cur,hv,_,hh,_⟩
  ·simp at hv
  ·simp only[Value.slice.injEq,Option.some.injEq,Addr.mk.injEq,and_true,true_and]at hv
   obtain⟨rfl,_,rfl⟩:=hv;intro j;simp[World.frozen?,hh]
 refine⟨?_,?_,?_,?_,hf _,hf _,hf _,hf _⟩
 ·have:=hc 0 _ rfl;rwa [Addr.add_lit]at this
 ·have:=hc 1 _ rfl;rwa [Addr.add_lit]at this
 ·have:=hc 2 _ rfl;rwa [Addr.add_lit]at this
 ·have:=hc 3 _ rfl;rwa [Addr.add_lit]at this
theorem xO {w:World}{bZ g cap:Nat}{p q:PR}(h:OP w bZ (.slice (some ⟨g,0,none⟩) 2 cap) [p,q])(hb:bZ≤g)(hs:bZ≤w.heap.size):OP ((((w.setCell ⟨g,0,none⟩ (.string (bs q.1))).setCell ⟨g,1,none⟩ (.string (bs q.2))).setCell ⟨g,2,none⟩ (.string (bs p.1))).setCell ⟨g,3,none⟩ (.string (bs p.2))).drew bZ (.slice (some ⟨g,0,none⟩) 2 cap) [q,p] ∧Below bZ w ((((w.setCell ⟨g,0,none⟩ (.string (bs q.1))).setCell ⟨g,1,none⟩ (.string (bs q.2))).setCell ⟨g,2,none⟩ (.string (bs p.1))).setCell ⟨g,3,none⟩ (.string (bs p.2))).drew:=by
 have h1:=(World.ownsRow.stored h 0 (.string (bs q.1))).1;have h2:=(World.ownsRow.stored h1 1 (.string (bs q.2))).1;have h3:=(World.ownsRow.stored h2 2 (.string (bs p.1))).1;have h4:=(World.ownsRow.stored h3 3 (.string (bs p.2))).1;exact⟨World.ownsRow.drew h4,(((((Em bZ w).setCell hb _).setCell hb _).setCell hb _).setCell hb _).drew⟩
theorem AL (v:Value)(p q:PR)(w:World)(hr:RP w v [p,q])(hl:[p,q].length*32≤140737488355328):Calls Tryz.prog 114 #[v] w fun e w'=>∃ v',e=.returned v'∧OP w' w.heap.size v' (srt [p,q])∧Bw_ w w':=by
 rw[A4]
 cases hlt:lt q.1 p.1
 ·skip
  have HL:=zH hlt;clear hlt;go_enter Tryz.func114,Tryz.ntmps114;go_wp2_with (go_at_call 157;refine(ix _ [p,q] _ hr hl).mono ?_;rintro e w1 ⟨vc,rfl,hown,hB1⟩;obtain⟨g,cc,rfl,hgb⟩:=so hown;obtain⟨c0,c1,c2,c3,f0,f1,f2,f3⟩:=ju hown);have HO:=zH hown;clear hown;go_region_with (go_at_call 116;refine(li _ _ _).mono ?_;rw[HL.o];rintro e w2 ⟨rfl,hB2⟩)
  all_goals
   have hB3:=(b_drew w1).trans hB2;go_wp2;go_ret;exact⟨_,rfl,HO.o.below hB3,bt hB1 hB3⟩
 ·skip
  have HL:=zH hlt;clear hlt;go_enter Tryz.func114,Tryz.ntmps114;go_wp2_with (go_at_call 157;refine(ix _ [p,q] _ hr hl).mono ?_;rintro e w1 ⟨vc,rfl,hown,hB1⟩;obtain⟨g,cc,rfl,hgb⟩:=so hown;obtain⟨c0,c1,c2,c3,f0,f1,f2,f3⟩:=ju hown);have HO:=zH hown;clear hown;go_region_with (go_at_call 116;refine(li _ _ _).mono ?_;rw[HL.o];rintro e w2 ⟨rfl,hB2⟩)
  all_goals
   have hB3:=(b_drew w1).trans hB2;have ho2:=HO.o.below hB3;clear c0 c1 c2 c3 f0 f1 f2 f3 HO;obtain⟨c0,c1,c2,c3,f0,f1,f2,f3⟩:=ju ho2;have HO2:=zH ho2;clear ho2;go_wp2;go_region
   all_goals
    go_wp2;go_ret;obtain⟨k1,k2⟩:=xO (HO2.o) hgb ((bt hB1 hB3).size);exact⟨_,rfl,k1,(bt hB1 hB3).trans k2⟩
theorem tF:∀ (n:Nat) (v:Value) (l:List PR) (w:World),l.length≤n→RP w v l→l.length*32≤140737488355328 → Calls Tryz.prog 114 #[v] w fun e w'=>∃ v',e=.returned v'∧OP w' w.heap.size v' (srt l)∧Bw_ w w':=by
 intro n
 induction n with
 | zero =>
  intro v l w hn hr hl;obtain rfl:l=[]:=Ej (by omega);go_enter Tryz.func114,Tryz.ntmps114;go_wp2_with (go_at_call 157;refine(ix _ _ _ hr hl).mono ?_;rintro e w1 ⟨vc,rfl,hown,hB1⟩;obtain⟨ac,cc,rfl⟩:=ap hown);go_ret;exact⟨_,rfl,hown,hB1⟩
 | succ n ih =>
  intro v l w hn hr hl
  by_cases h1:l.length<2
  ·have hi1:(l.length:Int)<2:=by omega
   have hs:srt l=l:=by
    match l,h1 with
    | [],_=>rfl
    | [p],_=>rfl
   have HS:=zH hs;clear hs;go_enter Tryz.func114,Tryz.ntmps114;go_wp2_with (go_at_call 157;refine(ix _ l _ hr hl).mono ?_;rintro e w1 ⟨vc,rfl,hown,hB1⟩;obtain⟨ac,cc,rfl⟩:=ap hown);go_ret;exact⟨_,rfl,by rw[HS.o];exact hown,hB1⟩
  ·by_cases h2:l.length=2
   ·obtain⟨p,q,rfl⟩:∃ p q,l=[p,q]:=by
     match l,h2 with
     | [p,q],_=>exact⟨p,q,rfl⟩
    exact AL v p q w hr hl
   ·have hi1:¬(l.length:Int)<2:=by omega
    have hi2:((l.length:Int)==2)=false:=by rw[beq_eq_false_iff_ne];omega
    clear h1 h2;go_enter Tryz.func114,Tryz.ntmps114;go_wp2_with (go_at_call 157;refine(ix _ l _ hr hl).mono ?_;rintro e w1 ⟨vc,rfl,hown,hB1⟩;obtain⟨ac,cc,rfl⟩:=ap hown);have hrp:=hown.reads;obtain⟨A1,C1,s1,r1⟩:=hrp.headRun (l.length / 2) ((l.length:Int) / 2) (by omega) (by omega);obtain⟨A2,C2,s2,r2⟩:=hrp.cutRun (l.length / 2) ((l.length:Int) / 2) (by omega) (by omega);have R1:=zH r1;have R2:=zH r2;have hn1:(l.take (l.length / 2)).length≤n:=by simp;omega
    have hn2:(l.drop (l.length / 2)).length≤n:=by simp;omega
    have hl1:(l.take (l.length / 2)).length*32≤140737488355328:=by simp;omega
    have hl2:(l.drop (l.length / 2)).length*32≤140737488355328:=by simp;omega
    have hl3:((srt (l.take (l.length / 2))).length+(srt (l.drop (l.length / 2))).length)*32≤140737488355328:=by rw[bC,bC];simp;omega
    clear r1 r2 hown hrp
    go_region_with (first
     | (go_at_call 115;refine(nQ _ _ _ _ _ ha3 hb3 hl3).mono ?_;rintro e w4 ⟨v4,rfl,hown4,hB4⟩)
     | (go_at_call 114;refine(ih _ (l.drop (l.length / 2)) w2 hn2 (R2.o.below hB2') hl2).mono ?_;rintro e w3 ⟨vb,rfl,hown3,hB3⟩;have ha3:=hown2.reads.below hB3;have hb3:=hown3.reads;have hB3':=bt hB2' hB3;obtain⟨ab,cb,rfl⟩:=ap hown3)
     | (go_at_call 114;refine(ih _ (l.take (l.length / 2)) w1.drew hn1 (R1.o.below (b_drew w1)) hl1).mono ?_;rintro e w2 ⟨va,rfl,hown2,hB2⟩;have hB2':Below w1.heap.size w1 w2:=(b_drew w1).trans hB2;obtain⟨aa,ca,rfl⟩:=ap hown2))
    all_goals
     go_wp2;go_ret;rw[qE,List.take_append_drop]at hown4;have hB5:=bt hB1 (bt hB3' hB4);exact⟨_,rfl,hown4.mono (bt hB1 hB3').size,hB5⟩
def RR (w:World)(v:Value)(rows:List (List PR)):Prop:=∃ a cap,v=.slice a rows.length cap∧rows.length≤cap∧(a=none→rows.length=0∧cap=0) ∧
 ∀ k (hk:k<rows.length),∃ b off u,a=some ⟨b,off,none⟩∧w.cell? ⟨b,off+k,none⟩=some u∧RP w u rows[k]
theorem RR.below {w w':World}{v:Value}{rows:List (List PR)}(h:RR w v rows)(hB:Below w.heap.size w w'):RR w' v rows:=by
 obtain⟨a,cap,hv,hle,hn,hc⟩:=h;refine⟨a,cap,hv,hle,hn,fun k hk=>?_⟩;obtain⟨b,off,u,ha,hu,hr⟩:=hc k hk;exact⟨b,off,u,ha,DK hB hu,hr.below hB⟩
theorem gn (rows:List (List PR))(k:Nat)(h:k<rows.length):(rows.take (k+1)).flatten=(rows.take k).flatten++rows[k]:=by
 rw[Ef h,List.flatten_append];simp only[List.flatten_cons,List.flatten_nil,Ep]
theorem mV (rows:List (List PR))(k:Nat):(rows.take k).flatten.length≤rows.flatten.length:=by
 have h:rows.flatten=(rows.take k).flatten++(rows.drop k).flatten:=by rw[←List.flatten_append,List.take_append_drop]
 rw[h,Ev];omega
theorem yA (v:Value)(rows:List (List PR))(w:World)(hr:RR w v rows)(hn:rows.length≤140737488355328)(hl:rows.flatten.length*32≤140737488355328):Calls Tryz.prog 70 #[v] w fun e w'=>∃ v',e=.returned v'∧OP w' w.heap.size v' (srt rows.flatten)∧Bw_ w w':=by
 obtain⟨a,cap,rfl,_,_,hc⟩:=hr;go_enter Tryz.func70,Tryz.ntmps70;go_wp2
 go_loopw [2,7] (fun out i wr=>∃ (k:Nat) (o:List PR),k≤rows.length∧i=.int .i64 k∧OP wr w.heap.size out o∧Hid (o=srt (rows.take k).flatten)∧Below w.heap.size w wr) (fun _ i _=>rows.length-(intOf i).toNat)
 case atStart=>exact⟨0,[],by omega,rfl,OP.nil _ _,rfl,Em _ _⟩
 case round =>
  obtain⟨k,o,hk,rfl,hown,hH,hB⟩:=hrel;obtain⟨ao,co,rfl⟩:=ap hown;have hO:=zH hown;clear hown
  by_cases h0:k<rows.length
  ·obtain⟨b,off,u,rfl,hu,hru⟩:=hc k h0
   obtain⟨ar,cr,rfl,_,_⟩:=hru.open;replace hu:=DK hB hu;have kk1:(k:Int)<(rows.length:Int):=by omega
   have hru2:=hru.below hB;have hf:=gn rows k h0;have hf2:=mV rows (k+1);rw[hf,Ev]at hf2;have hl1:rows[k].length*32≤140737488355328:=by omega
   have hl2:(o.length+(srt rows[k]).length)*32≤140737488355328:=by rw[hH.o,bC,bC];omega
   have HF:=zH hf;clear hf hru hc hf2
   go_wp2_with (first
    | (go_at_call 115;refine(nQ _ _ _ _ _ (hO.o.below hB2).reads hown2.reads hl2).mono ?_;rintro e w3 ⟨v3,rfl,hown3,hB3⟩)
    | (go_at_call 114;refine(tF _ _ rows[k] wr (Ei _) hru2 hl1).mono ?_;rintro e w2 ⟨vb,rfl,hown2,hB2⟩;obtain⟨ab,cb,rfl⟩:=ap hown2))
   go_roundw
   case rel =>
    have hB4:=bt hB hB2;refine⟨k+1,_,by omega,by go_num,hown3.mono hB4.size,?_,bt hB4 hB3⟩;unfold Hid;rw[HF.o,hH.o,qE]
   case measure=>simp[intOf];omega
  ·obtain rfl:k=rows.length:=by omega
   go_wp2;go_ret;have:=hH.o;rw[List.take_length]at this;exact⟨_,rfl,by rw[←this];exact hO.o,hB⟩
end
