/- Lemmas for DeltaJobs: walks, plain laws. -/
import Derived.RangeFuncBox
import Derived.Test.YtehllcbnheicoaaGreatDoorDeltaJobsK3
set_option linter.unusedSimpArgs false
set_option linter.unusedVariables false
set_option maxRecDepth 100000
set_option maxHeartbeats 16000000
namespace Go.Proofs.YtehllcbnheicoaaGreatDoor
open Go.RowKit Oct
section
structure Rec (α:Type) where
 cell:α→List Value
 e:TypeId
 n:Nat
 bytes:Nat
 z:Value
 len:∀ x,(cell x).length=n
 one:∀ x,∀ u∈cell x,u.oneCell'=true
 info:(Tryz.prog.info? e).map (fun i=>(i.zero,i.size,i.bytes))=some (some z,n,bytes)
 zs:z.cells.size=n
 pos:0<n
 bpos:0<bytes
section
variable {α:Type}
def Rec.cells (R:Rec α):List α→List Value
 | []=>[]
 | x::l=>R.cell x++R.cells l
theorem Rec.cells_length (R:Rec α):∀ l:List α,(R.cells l).length=l.length*R.n
 | []=>by simp[Rec.cells]
 | x::l=>by rw[Rec.cells,Ev,R.len,R.cells_length l,Ea,Nat.add_mul];omega
theorem Rec.cells_append (R:Rec α):∀ a b:List α,R.cells (a++b)=R.cells a++R.cells b
 | [],_=>rfl
 | x::a,b=>by rw[Ed,Rec.cells,Rec.cells,R.cells_append a b,Et]
theorem Rec.cells_one (R:Rec α)(l:List α):∀ u∈R.cells l,u.oneCell'=true:=by
 induction l with
 | nil=>intro u h;simp[Rec.cells]at h
 | cons x l ih =>
  intro u h;rw[Rec.cells,Ey]at h;rcases h with h|h
  ·exact R.one x u h
  ·exact ih u h
theorem Rec.cells_at (R:Rec α):∀ (l:List α) (k:Nat) (h:k<l.length) (j:Nat) (u:Value),(R.cell l[k])[j]?=some u→(R.cells l)[k*R.n+j]?=some u
 | x::l,0,_,j,u,hu=>by
  rw[Ez]at hu;rw[Nat.zero_mul,Ek,Rec.cells,List.getElem?_append_left (List.getElem?_eq_some_iff.1 hu).1];exact hu
 | x::l,k+1,h,j,u,hu=>by
  have:=R.cells_at l k (by simpa using h) j u hu;rw[Rec.cells,List.getElem?_append_right (by rw[R.len,Nat.add_mul];omega),R.len,show(k+1)*R.n+j-R.n=k*R.n+j by rw[Nat.add_mul];omega];exact this
theorem Rec.cells_drop (R:Rec α):∀ (l:List α) (k:Nat),(R.cells l).drop (k*R.n)=R.cells (l.drop k)
 | l,0=>by simp
 | [],k+1=>by simp[Rec.cells]
 | x::l,k+1=>by
  rw[EA,←R.cells_drop l k,Rec.cells,show(k+1)*R.n=(R.cell x).length+k*R.n by rw[R.len,Nat.add_mul];omega,←EC,List.drop_left]
theorem Rec.cells_take (R:Rec α):∀ (l:List α) (k:Nat),(R.cells l).take (k*R.n)=R.cells (l.take k)
 | l,0=>by simp[Rec.cells]
 | [],k+1=>by simp[Rec.cells]
 | x::l,k+1=>by
  rw[ED,Rec.cells,Rec.cells,←R.cells_take l k,show(k+1)*R.n=(R.cell x).length+k*R.n by rw[R.len,Nat.add_mul];omega,List.take_length_add_append]
def Rec.Row (R:Rec α)(w:World)(v:Value)(l:List α):Prop:=aZ w v l.length (R.cells l)∧∃ a cap,v=.slice a l.length cap∧l.length≤cap
def Rec.Own (R:Rec α)(w:World)(bZ:Nat)(v:Value)(l:List α):Prop:=w.ownsRow bZ R.e R.n v l.length (R.cells l)
variable {R:Rec α}{w w':World}{v:Value}{l:List α}
theorem Rec.Row.below (h:R.Row w v l)(hB:Below w.heap.size w w'):R.Row w' v l:=⟨aZ.below h.1 hB,h.2⟩
theorem Rec.Own.row {bZ:Nat}(h:R.Own w bZ v l):R.Row w v l:=by
 exact Hy
theorem Rec.Own.below {bZ:Nat}(h:R.Own w bZ v l)(hB:Below w.heap.size w w'):R.Own w' bZ v l:=bn h hB
theorem Rec.Own.mono {bZ base':Nat}(h:R.Own w bZ v l)(hb:base'≤bZ):R.Own w base' v l:=dL h hb
theorem Rec.Row.nil (w:World):R.Row w (.slice none 0 0) []:=⟨aZ.nil w,none,0,rfl,Ei _⟩
theorem Rec.Own.nil (w:World)(bZ:Nat):R.Own w bZ (.slice none 0 0) []:=⟨by simp[Rec.cells],.inl ⟨rfl,rfl⟩⟩
theorem Rec.Row.new (w:World)(l:List α)(e:TypeId):R.Row (w.alloc (.cells (R.cells l).toArray e)) (.slice (some ⟨w.heap.size,0,none⟩) l.length l.length) l:=⟨aZ.new w _ _ _ _,_,_,rfl,Ei _⟩
theorem Rec.Row.open (h:R.Row w v l):∃ a cap,v=.slice a l.length cap∧l.length≤cap ∧∀ k (hk:k<l.length),∃ b off,a=some ⟨b,off,none⟩∧∀ j u,(R.cell l[k])[j]?=some u→w.cell? ⟨b,off+k*R.n+j,none⟩=some u:=by
 obtain⟨⟨a,cap,rfl,hn,hc⟩,a',cap',hv,hle⟩:=h;injection hv with _ _ h3
 subst h3;refine⟨a,cap,rfl,hle,fun k hk=>?_⟩;obtain⟨u0,hu0⟩:∃ u,(R.cell l[k])[0]?=some u:=⟨_,List.getElem?_eq_getElem (l:=R.cell l[k]) (i:=0) (by rw[R.len];exact R.pos)⟩
 obtain⟨b,off,rfl,h1⟩:=hc _ _ (R.cells_at l k hk 0 u0 hu0);refine⟨b,off,rfl,fun j u hu=>?_⟩;obtain⟨b',off',hb,h2⟩:=hc _ _ (R.cells_at l k hk j u hu)
 cases hb
 rw[Ee];exact h2
theorem Rec.append {ops:Array Oper}{rest:List Oper}{o:Oper}{a:Act}{Q:Exit→Act→World→Prop}(R:Rec α)(w:World)(hgd:o.guard=none)(s x:Operand)(t:TypeId)(ho:o.op=.call { callee:=.builtin .append,args:=#[s,x],argTypes:=#[t,t] })(ht:Tryz.prog.underlying t=some (.slice R.e))(bZ:Nat)(v:Value)(xs:List α)(hown:R.Own w bZ v xs)(hs:a.eval s=v)(vx:Value)(ys:List α)(hr:R.Row w vx ys)(hx:a.eval x=vx)(hbytes:(xs.length+ys.length)*R.bytes≤140737488355328)(hbase:bZ≤w.heap.size)(h:∀ v' w',R.Own w' bZ v' (xs++ys)→Below bZ w w'→wpList Tryz.prog ops Q rest (a.put o.dst v') w'):wpList Tryz.prog ops Q (o::rest) a w :=
 lu w (R.cells ys) R.e hgd s x t ho bZ R.z R.n R.bytes ht R.info R.zs R.pos v xs.length (R.cells xs) hs hown vx ys.length hx hr.1 (R.cells_length ys) (R.cells_one ys) hbytes R.bpos hbase
  (fun v' w' h1 h2=>h v' w' (by unfold Rec.Own;rw[R.cells_append,Ev];exact h1) h2)
theorem Rec.append1 {ops:Array Oper}{rest:List Oper}{o:Oper}{a:Act}{Q:Exit→Act→World→Prop}(R:Rec α)(w:World)(p:α)(hgd:o.guard=none)(s x:Operand)(t:TypeId)(ho:o.op=.call { callee:=.builtin .append,args:=#[s,x],argTypes:=#[t,t] })(ht:Tryz.prog.underlying t=some (.slice R.e))(bZ:Nat)(v:Value)(xs:List α)(hown:R.Own w bZ v xs)(hs:a.eval s=v)(c:Nat)(hx:a.eval x=.slice (some ⟨w.heap.size,0,none⟩) 1 c)(cs:Array Value)(hcs:cs=(R.cell p).toArray)(e:TypeId)(he:e=R.e)(hbytes:(xs.length+1)*R.bytes≤140737488355328)(hbase:bZ≤w.heap.size)(h:∀ g cap w',R.Own w' bZ (.slice (some ⟨g,0,none⟩) (xs.length+1) cap) (xs++[p])→Below bZ w w'→wpList Tryz.prog ops Q rest (a.put o.dst (.slice (some ⟨g,0,none⟩) (xs.length+1) cap)) w'):wpList Tryz.prog ops Q (o::rest) a (w.alloc (.cells cs e)):=by
 subst hcs he
 exact Go.Proofs.YtehllcbnheicoaaGreatDoor.append1 w (R.cell p) R.e hgd s x t ho bZ R.z R.n R.bytes ht R.info R.zs R.pos v xs.length (R.cells xs) hs hown c hx (R.len p) (R.one p) hbytes R.bpos hbase
  (fun v' w' h1 h2=>by
   obtain⟨g,cap,rfl⟩:=ownsRow_succ h1;exact h g cap w' (by unfold Rec.Own;rw[R.cells_append,Ev,Rec.cells,Rec.cells,Ep];exact h1) h2)
theorem Rec.Row.sub {a:Option Addr}{cap:Nat}(h:R.Row w (.slice a l.length cap) l)(lo hi:Nat)(h1:lo≤hi)(h2:hi≤l.length):R.Row w (sliced a lo hi cap R.n) ((l.drop lo).take (hi-lo)):=by
 have hlen:((l.drop lo).take (hi-lo)).length=hi-lo:=by simp;omega
 obtain⟨hr,a',cap',hv,hle⟩:=h;injection hv with _ _ h3
 subst h3;have hn:=nO hr;obtain⟨a',cap',hv,_,hc⟩:=hr;injection hv with e1 _ e3
 subst e1 e3;unfold sliced;refine⟨?_,_,_,by rw[hlen],by rw[hlen];omega⟩;rw[hlen];refine aZ.mk ?_ ?_
 ·exact Ik
 ·intro j u hj
  rw[←Rec.cells_take,←Rec.cells_drop,List.getElem?_take]at hj
  split at hj
  ·rename_i hlt
   rw[List.getElem?_drop]at hj;obtain⟨b,off,rfl,hu⟩:=hc _ _ hj
   have hne:cap≠lo:=by
    intro e;have:hi-lo=0:=by omega
    rw[this,Nat.zero_mul]at hlt;omega
   rw[if_neg hne];refine⟨b,off+lo*R.n,?_,?_⟩
   ·rw[Option.map_some,Addr.add_lit]
   ·rw[←hu,Ee]
  ·simp at hj
theorem Rec.Row.cut {a:Option Addr}{cap:Nat}(h:R.Row w (.slice a l.length cap) l)(k:Nat)(hk:k≤l.length):R.Row w (sliced a k l.length cap R.n) (l.drop k):=by
 have:=h.sub k l.length hk (Ei _)
 rwa [Eh (by simp)]at this
theorem Rec.Row.cutRun {a:Option Addr}{cap:Nat}(h:R.Row w (.slice a l.length cap) l)(st:TypeId)(hst:Tryz.prog.underlying st=some (.slice (Tryz.prog.elem st)))(hsz:∀ wx,(sizeOf (Tryz.prog.elem st)).run Tryz.prog wx=.ok R.n wx)(k:Nat)(c:Int)(hc:c=(k:Int))(hk:k≤l.length):∃ A C,(∀ wx,(Instr.slice st (.slice a l.length cap) (some (.int .i64 c)) none none).run Tryz.prog wx=.ok (.slice A (l.length-k) C) wx)∧R.Row w (.slice A (l.length-k) C) (l.drop k):=by
 subst hc;refine⟨_,_,fun wx=>?_,h.cut k hk⟩;rw[run_slice_l wx st a l.length cap hst .i64 k (by omega) (by omega),hsz];simp[Result.andThen,sliced]
end
end
section
structure TR where
 key:LU_
 was:LU_
 now:LU_
 had:Bool
 has:Bool
deriving DecidableEq
def dm:Rec TR where
 cell t:=[.string (bs t.key),.string (bs t.was),.string (bs t.now),.bool t.had,.bool t.has]
 e:=77
 n:=5
 bytes:=56
 z:=.agg #[.string ByteArray.empty,.string ByteArray.empty,.string ByteArray.empty,.bool false,.bool false]
 len:=fun _=>rfl
 one:=by intro x u h;simp at h;rcases h with rfl|rfl|rfl|rfl|rfl<;>rfl
 info:=by kernel_rfl
 zs:=rfl
 pos:=by decide
 bpos:=by decide
theorem fZ {w:World}{v:Value}{l:List TR}(h:dm.Row w v l):∃ a cap,v=.slice a l.length cap∧l.length≤cap ∧∀ k (hk:k<l.length),∃ b off,a=some ⟨b,off,none⟩∧w.cell? ⟨b,off+k*5,none⟩=some (.string (bs l[k].key))∧w.cell? ⟨b,off+k*5+1,none⟩=some (.string (bs l[k].was)) ∧w.cell? ⟨b,off+k*5+2,none⟩=some (.string (bs l[k].now))∧w.cell? ⟨b,off+k*5+3,none⟩=some (.bool l[k].had)∧w.cell? ⟨b,off+k*5+4,none⟩=some (.bool l[k].has):=by
 obtain⟨a,cap,hv,hle,hc⟩:=h.open;refine⟨a,cap,hv,hle,fun k hk=>?_⟩;obtain⟨b,off,ha,hu⟩:=hc k hk;exact⟨b,off,ha,hu 0 _ rfl,hu 1 _ rfl,hu 2 _ rfl,hu 3 _ rfl,hu 4 _ rfl⟩
def jb:LL_→Bool
 | []=>true
 | [_]=>true
 | p::q::l=>lt p q&&jb (q::l)
theorem kR (l:LL_):jb l=true↔∀ k (h:k+1<l.length),lt l[k] l[k+1]=true:=by
 match l with
 | []=>simp[jb]
 | [_]=>simp[jb]
 | p::q::l =>
  have ih:=kR (q::l);simp only[jb,EE,ih];exact Hu
theorem nx (l:LL_)(k:Nat)(h:k+1<l.length)(hlt:lt l[k] l[k+1]=false):jb l=false:=by
 cases hs:jb l
 ·rfl
 ·rw[(kR l).1 hs k h]at hlt;simp at hlt
theorem pj (l:LL_)(k:Nat)(hk:l.length≤k+1)(h:∀ j (h:j+1<l.length),j<k→lt l[j] l[j+1]=true):jb l=true :=
 (kR l).2 fun j hj=>h j hj (by omega)
theorem lt3 (a b:LU_):(lt a b=true∧lt b a=false∧(a==b)=false∧(b==a)=false)∨(lt a b=false∧lt b a=true∧(a==b)=false∧(b==a)=false)∨(a=b∧lt a b=false∧lt b a=false∧(a==b)=true∧(b==a)=true):=by
 by_cases e:a=b
 ·subst e
  simp[lt_irr]
 ·have h1:(a==b)=false:=by simpa using e
  have h2:(b==a)=false:=by simpa using fun h=>e h.symm
  have:=An a b;rw[h1,Bool.or_false]at this
  cases h:lt a b
  ·rw[h]at this
   exact .inr (.inl ⟨rfl,this.symm,h1,h2⟩)
  ·exact .inl ⟨rfl,eH h,h1,h2⟩
def jC (l:List PR):LL_:=l.map (·.1)
def pO (l:List TR):LL_:=l.map (·.key)
def cP (l:List PR):Bool:=jb (jC l)
def pm (l:List TR):Bool:=jb (pO l)
theorem nL (l:List PR)(k:Nat)(h:k+1<l.length)(hlt:lt l[k].1 l[k+1].1=false):cP l=false:=nx _ k (by simpa[jC] using h) (by simpa[jC] using hlt)
theorem pH (l:List PR)(k:Nat)(hk:l.length≤k+1)(h:∀ j (h:j+1<l.length),j<k→lt l[j].1 l[j+1].1=true):cP l=true :=
 pj _ k (by simpa[jC] using hk) fun j hj hjk=>by simpa[jC] using h j (by simpa[jC] using hj) hjk
theorem rQ (l:List TR)(k:Nat)(h:k+1<l.length)(hlt:lt l[k].key l[k+1].key=false):pm l=false:=nx _ k (by simpa[pO] using h) (by simpa[pO] using hlt)
theorem ug (l:List TR)(k:Nat)(hk:l.length≤k+1)(h:∀ j (h:j+1<l.length),j<k→lt l[j].key l[j+1].key=true):pm l=true :=
 pj _ k (by simpa[pO] using hk) fun j hj hjk=>by simpa[pO] using h j (by simpa[pO] using hj) hjk
theorem E1 {T:Prop} (h:T:=by
 have HL:=zH t1;unfold lt at t1 t2;go_wp2;go_quiet (fail);go_wp2;go_roundw
 case rel =>
  refine⟨k+1,by omega,by go_num,?_,bt hB.o (DL _ _)⟩;intro j h hj
  by_cases hjk:j=k
  ·subst hjk;exact HL.o
  ·exact hH.o j h (by omega)
 case measure=>simp[intOf];omega
):T:=h
theorem ik (v:Value)(l:List PR)(w:World)(hr:RP w v l)(hl:l.length≤140737488355328):Calls Tryz.prog 16 #[v] w fun e w'=>e=.returned (.bool (cP l))∧Bw_ w w':=by
 obtain⟨a,cap,rfl,_,hc⟩:=hr.open;have HC:=zH hc;clear hc hr;obtain⟨n,hn⟩:∃ n:Nat,n=l.length-1:=⟨_,rfl⟩
 have HN:=zH hn;have hmx:max ((l.length:Int)-1) 0=(n:Int):=by omega
 clear hn;go_enter Tryz.func16,Tryz.ntmps16;go_wp2;clear hmx
 go_loopw [8] (fun i wr=>∃ k:Nat,k≤n∧i=.int .i64 (k:Int)∧Hid (∀ j (h:j+1<l.length),j<k→lt l[j].1 l[j+1].1=true)∧Hid (Below w.heap.size w wr)) (fun i _=>n-(intOf i).toNat)
 case atStart=>exact⟨0,by omega,rfl,fun j _ h=>absurd h (by omega),Em _ _⟩
 case round =>
  obtain⟨k,hk,rfl,hH,hB⟩:=hrel
  by_cases h0:k<n
  ·have hkl:k+1<l.length:=by have:=HN.o;omega
   obtain⟨b,off,rfl,c1,_⟩:=HC.o k (by omega);obtain⟨b',off',hb,c2,_⟩:=HC.o (k+1) hkl
   cases hb
   have d1:=DK hB.o c1;have d2:=DK hB.o c2;have i0:(k:Int)<(n:Int):=by omega
   have kk1:(k:Int)+1<(l.length:Int):=by omega
   have kk2:(k:Int)<(l.length:Int):=by omega
   have kk3:=nn_ k;clear c1 c2;rcases lt3 l[k].1 l[k+1].1 with ⟨t1,t2,t3,t4⟩|⟨t1,t2,t3,t4⟩|⟨t0,t1,t2,t3,t4⟩
   ·exact E1
   all_goals
    try clear t0
    have HL:=zH t1;unfold lt at t1 t2;go_wp2;go_quiet (fail);go_wp2;go_ret;exact⟨by rw[nL l k hkl HL.o];rfl,bt hB.o (DL _ _)⟩
  ·obtain rfl:k=n:=by omega
   have hs:=zH (pH l k (by have:=HN.o;omega) hH.o);go_wp2;go_ret;exact⟨by rw[hs.o];rfl,hB.o⟩
theorem pk (v:Value)(l:List TR)(w:World)(hr:dm.Row w v l)(hl:l.length≤140737488355328):Calls Tryz.prog 75 #[v] w fun e w'=>e=.returned (.bool (pm l))∧Bw_ w w':=by
 obtain⟨a,cap,rfl,_,hc⟩:=fZ hr;have HC:=zH hc;clear hc hr;obtain⟨n,hn⟩:∃ n:Nat,n=l.length-1:=⟨_,rfl⟩
 have HN:=zH hn;have hmx:max ((l.length:Int)-1) 0=(n:Int):=by omega
 clear hn;go_enter Tryz.func75,Tryz.ntmps75;go_wp2;clear hmx
 go_loopw [8] (fun i wr=>∃ k:Nat,k≤n∧i=.int .i64 (k:Int)∧Hid (∀ j (h:j+1<l.length),j<k→lt l[j].key l[j+1].key=true)∧Hid (Below w.heap.size w wr)) (fun i _=>n-(intOf i).toNat)
 case atStart=>exact⟨0,by omega,rfl,fun j _ h=>absurd h (by omega),Em _ _⟩
 case round =>
  obtain⟨k,hk,rfl,hH,hB⟩:=hrel
  by_cases h0:k<n
  ·have hkl:k+1<l.length:=by have:=HN.o;omega
   obtain⟨b,off,rfl,c1,_,_,_,_⟩:=HC.o k (by omega);obtain⟨b',off',hb,c2,_,_,_,_⟩:=HC.o (k+1) hkl
   cases hb
   have d1:=DK hB.o c1;have d2:=DK hB.o c2;have i0:(k:Int)<(n:Int):=by omega
   have kk1:(k:Int)+1<(l.length:Int):=by omega
   have kk2:(k:Int)<(l.length:Int):=by omega
   have kk3:=nn_ k;clear c1 c2;rcases lt3 l[k].key l[k+1].key with ⟨t1,t2,t3,t4⟩|⟨t1,t2,t3,t4⟩|⟨t0,t1,t2,t3,t4⟩
   ·exact E1
   all_goals
    try clear t0
    have HL:=zH t1;unfold lt at t1 t2;go_wp2;go_quiet (fail);go_wp2;go_ret;exact⟨by rw[rQ l k hkl HL.o];rfl,bt hB.o (DL _ _)⟩
  ·obtain rfl:k=n:=by omega
   have hs:=zH (ug l k (by have:=HN.o;omega) hH.o);go_wp2;go_ret;exact⟨by rw[hs.o];rfl,hB.o⟩
theorem fX (p:PR)(w:World):Calls Tryz.prog 73 #[.agg #[.string (bs p.1),.string (bs p.2)]] w fun e w'=>e=.returned (.string (bs p.1))∧Bw_ w w':=by
 go_enter Tryz.func73,Tryz.ntmps73;go_wp2;go_ret;exact⟨rfl,af _ _⟩
theorem lQ (t:TR)(w:World):Calls Tryz.prog 77 #[.agg (dm.cell t).toArray] w fun e w'=>e=.returned (.string (bs t.key))∧Bw_ w w':=by
 go_enter Tryz.func77,Tryz.ntmps77;unfold dm;go_wp2;go_ret;exact⟨rfl,af _ _⟩
def lp (a b:LU_):Int:=if lt a b then -1 else if lt b a then 1 else 0
theorem vZ (a:LU_)(w:World):Calls Tryz.prog 158 #[.string (bs a)] w fun e w'=>e=.returned (.bool false)∧w=w':=by
 go_enter Tryz.func158,Tryz.ntmps158;go_wp2;go_ret;exact⟨rfl,rfl⟩
theorem eK (a b:LU_)(w:World):Calls Tryz.prog 118 #[.string (bs a),.string (bs b)] w fun e w'=>e=.returned (.int .i64 (lp a b))∧w=w':=by
 rcases lt3 a b with ⟨t1,t2,t3,t4⟩|⟨t1,t2,t3,t4⟩|⟨t0,t1,t2,t3,t4⟩
 all_goals
  try clear t0
  have HL:=zH t1;have HL2:=zH t2;unfold lt at t1 t2;go_enter Tryz.func118,Tryz.ntmps118;go_wp2_with fail;refine(vZ a w).mono ?_;rintro e w1 ⟨rfl,rfl⟩;go_wp2_with fail;refine(vZ b w).mono ?_;rintro e w1 ⟨rfl,rfl⟩;go_wp2;go_ret;exact⟨by unfold lp;rw[HL.o,HL2.o];rfl,rfl⟩
theorem jk {a b:List TR}(k:Nat)(h:k<a.length)(h':k<b.length)(hne:a[k]≠b[k]):a≠b:=by
 rintro rfl;exact hne rfl
theorem CW (p q:TR):(p.key==q.key&&(p.was==q.was&&(p.now==q.now&&(p.had==q.had&&p.has==q.has))))=decide (p=q):=by
 obtain⟨a,b,c,d,e⟩:=p;obtain⟨a',b',c',d',e'⟩:=q;rw[Bool.eq_iff_iff];simp
theorem GC {T:Prop} (h:T:=by
 have HE:=zH he;clear he;go_wp2;go_quiet (fail);go_wp2;go_roundw
 case rel =>
  refine⟨k+1,by omega,by go_num,?_,bt hB (DL _ _)⟩;intro j h h' hj
  by_cases hjk:j=k
  ·subst hjk;exact HE.o
  ·exact hH.o j h h' (by omega)
 case measure=>simp[intOf];omega
):T:=h
theorem GD {T:Prop} (h:T:=by
 obtain rfl:k=a.length:=by omega
 go_wp2;go_ret;exact⟨by rw[decide_eq_true (List.ext_getElem hL.o (fun j h h'=>hH.o j h h' h))];rfl,hB⟩
):T:=h
theorem GE {T:Prop} (h:T:=by
 go_wp2;go_quiet (fail);go_wp2;go_ret;exact⟨by rw[decide_eq_false (sf k h0 h0b HE.o)];rfl,bt hB (DL _ _)⟩
):T:=h
theorem tZ (va vb:Value)(a b:List PR)(w:World)(ha:RP w va a)(hb:RP w vb b)(hla:a.length≤140737488355328)(hlb:b.length≤140737488355328):Calls Tryz.prog 15 #[va,vb] w fun e w'=>e=.returned (.bool (decide (a=b)))∧Bw_ w w':=by
 obtain⟨aa,ca,rfl,_,hca⟩:=ha.open;obtain⟨ab,cb,rfl,_,hcb⟩:=hb.open
 by_cases hl:a.length=b.length
 ·have hL:=zH hl
  have t1:((a.length:Int) != (b.length:Int))=false:=by rw[bne_eq_false_iff_eq];omega
  clear hl;go_enter Tryz.func15,Tryz.ntmps15;go_wp2
  go_loopw [5] (fun i wr=>∃ k:Nat,k≤a.length∧i=.int .i64 k∧Hid (∀ j (h:j<a.length) (h':j<b.length),j<k→a[j]=b[j])∧Below w.heap.size w wr) (fun i _=>a.length-(intOf i).toNat)
  case atStart=>exact⟨0,by omega,rfl,by intro j _ _ h;omega,Em _ _⟩
  case round =>
   obtain⟨k,hk,rfl,hH,hB⟩:=hrel
   by_cases h0:k<a.length
   ·have h0b:k<b.length:=by have:=hL.o;omega
    obtain⟨b1,o1,rfl,hc1,hc2⟩:=hca k h0;obtain⟨b2,o2,rfl,hc3,hc4⟩:=hcb k h0b;have hd1:=DK hB hc1;have hd2:=DK hB hc2;have hd3:=DK hB hc3;have hd4:=DK hB hc4;have kk1:(k:Int)<(a.length:Int):=by omega
    have kk2:(k:Int)<(b.length:Int):=by omega
    clear hca hcb
    by_cases he:a[k]=b[k]
    ·have he2:(a[k].1==b[k].1)=true:=by simp[he]
     have he3:(a[k].2==b[k].2)=true:=by simp[he]
     exact GC
    ·have HE:=zH he
     have he4:=BV a[k] b[k];rw[decide_eq_false he]at he4;clear he
     cases he2:(a[k].1==b[k].1)
     ·exact GE
     ·have he3:(a[k].2==b[k].2)=false:=by rw[he2,Bool.true_and]at he4;exact he4
      clear he4;exact GE
   ·exact GD
 ·have t1:((a.length:Int) != (b.length:Int))=true:=by rw[bne_iff_ne];omega
  go_enter Tryz.func15,Tryz.ntmps15;go_wp2;go_ret;exact⟨by rw[decide_eq_false (fun e=>hl (by rw[e]))];rfl,Em _ _⟩
theorem iJ (v:Value)(l:List PR)(w:World)(hr:RP w v l)(hl:l.length≤140737488355328):Calls Tryz.prog 17 #[v] w fun e w'=>e=.returned (.bool (cP l))∧Bw_ w w':=by
 obtain⟨a,cap,rfl,_,hc⟩:=hr.open;go_enter Tryz.func17,Tryz.ntmps17;go_wp2
 go_loopw [3] (fun i wr=>∃ k:Nat,(k=0∨k+1≤l.length)∧i=.int .i64 ((k:Int)+1)∧Hid (∀ j (h:j+1<l.length),j<k→lt l[j].1 l[j+1].1=true)∧Below w.heap.size w wr) (fun i _=>(l.length+1-(intOf i).toNat))
 case atStart=>exact⟨0,.inl rfl,rfl,by intro j _ h;omega,Em _ _⟩
 case round =>
  obtain⟨k,hk,rfl,hH,hB⟩:=hrel
  by_cases h0:k+1<l.length
  ·obtain⟨b,off,rfl,c1,_⟩:=hc (k+1) h0
   obtain⟨b',off',hb,c2,_⟩:=hc k (by omega)
   cases hb
   have d1:=DK hB c1;have d2:=DK hB c2;have kk1:(k:Int)+1<(l.length:Int):=by omega
   have kk2:(k:Int)<(l.length:Int):=by omega
   clear hc hk;rcases lt3 l[k].1 l[k+1].1 with ⟨t1,t2,t3,t4⟩|⟨t1,t2,t3,t4⟩|⟨t0,t1,t2,t3,t4⟩
   ·have HL:=zH t1
    unfold lt at t1 t2;go_wp2;go_quiet (fail);go_wp2;go_roundw
    case rel =>
     refine⟨k+1,.inr (by omega),by go_num,?_,bt hB (DL _ _)⟩;intro j h hj
     by_cases hjk:j=k
     ·subst hjk;exact HL.o
     ·exact hH.o j h (by omega)
    case measure=>simp[intOf];omega
   all_goals
    try clear t0
    have HL:=zH t1;unfold lt at t1 t2;go_wp2;go_quiet (fail);go_wp2;go_ret;exact⟨by rw[nL l k h0 HL.o];rfl,bt hB (DL _ _)⟩
  ·have hs:=zH (pH l k (by omega) hH.o)
   go_wp2;go_ret;exact⟨by rw[hs.o];rfl,hB⟩
theorem GB {T:Prop} (h:T:=by
 clear he9;go_wp2;go_quiet (fail);go_wp2;go_ret;exact⟨by rw[decide_eq_false (jk k h0 h0b HE.o)];rfl,bt hB (DL _ _)⟩
):T:=h
theorem ph (va vb:Value)(a b:List TR)(w:World)(ha:dm.Row w va a)(hb:dm.Row w vb b)(hla:a.length≤140737488355328)(hlb:b.length≤140737488355328):Calls Tryz.prog 22 #[va,vb] w fun e w'=>e=.returned (.bool (decide (a=b)))∧Bw_ w w':=by
 obtain⟨aa,ca,rfl,_,hca⟩:=fZ ha;obtain⟨ab,cb,rfl,_,hcb⟩:=fZ hb
 by_cases hl:a.length=b.length
 ·have hL:=zH hl
  have t1:((a.length:Int) != (b.length:Int))=false:=by rw[bne_eq_false_iff_eq];omega
  clear hl;go_enter Tryz.func22,Tryz.ntmps22;go_wp2
  go_loopw [5] (fun i wr=>∃ k:Nat,k≤a.length∧i=.int .i64 k∧Hid (∀ j (h:j<a.length) (h':j<b.length),j<k→a[j]=b[j])∧Below w.heap.size w wr) (fun i _=>a.length-(intOf i).toNat)
  case atStart=>exact⟨0,by omega,rfl,by intro j _ _ h;omega,Em _ _⟩
  case round =>
   obtain⟨k,hk,rfl,hH,hB⟩:=hrel
   by_cases h0:k<a.length
   ·have h0b:k<b.length:=by have:=hL.o;omega
    obtain⟨b1,o1,rfl,hc1,hc2,hc5,hc6,hc7⟩:=hca k h0;obtain⟨b2,o2,rfl,hc3,hc4,hc8,hc9,hc10⟩:=hcb k h0b;have hd1:=DK hB hc1;have hd2:=DK hB hc2;have hd3:=DK hB hc3;have hd4:=DK hB hc4;have hd5:=DK hB hc5;have hd6:=DK hB hc6;have hd7:=DK hB hc7;have hd8:=DK hB hc8;have hd9:=DK hB hc9;have hd10:=DK hB hc10;have kk1:(k:Int)<(a.length:Int):=by omega
    have kk2:(k:Int)<(b.length:Int):=by omega
    clear hca hcb
    by_cases he:a[k]=b[k]
    ·have g1:(a[k].key==b[k].key)=true:=by simp[he]
     have g2:(a[k].was==b[k].was)=true:=by simp[he]
     have g3:(a[k].now==b[k].now)=true:=by simp[he]
     have g4:(a[k].had==b[k].had)=true:=by simp[he]
     have g5:(a[k].has==b[k].has)=true:=by simp[he]
     exact GC
    ·have HE:=zH he
     have he9:=CW a[k] b[k];rw[decide_eq_false he]at he9;clear he
     cases g1:(a[k].key==b[k].key) with
     | false =>
      exact GB
     | true =>
      cases g2:(a[k].was==b[k].was) with
      | false =>
       exact GB
      | true =>
       cases g3:(a[k].now==b[k].now) with
       | false =>
        exact GB
       | true =>
        cases g4:(a[k].had==b[k].had) with
        | false =>
         exact GB
        | true =>
         cases g5:(a[k].has==b[k].has) with
         | false =>
          exact GB
         | true =>
          rw[g1,g2,g3,g4,g5]at he9;simp at he9
   ·exact GD
 ·have t1:((a.length:Int) != (b.length:Int))=true:=by rw[bne_iff_ne];omega
  go_enter Tryz.func22,Tryz.ntmps22;go_wp2;go_ret;exact⟨by rw[decide_eq_false (fun e=>hl (by rw[e]))];rfl,Em _ _⟩
def w18 (p:PR):Nat:=1+(p.1.length+p.2.length) / 64
def c18 (l:List PR):Nat:=(l.map w18).sum
def t18 (rows:List (List PR)):Nat:=(rows.map fun r=>c18 (r.take 200)).sum
end
