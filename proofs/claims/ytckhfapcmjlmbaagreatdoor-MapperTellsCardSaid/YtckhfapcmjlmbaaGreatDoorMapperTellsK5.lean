/- Lemmas for MapperTells: walks, plain laws. -/
import Derived.RangeFuncBox
import Derived.Test.YtckhfapcmjlmbaaGreatDoorMapperTellsK4
set_option linter.unusedSimpArgs false
set_option linter.unusedVariables false
set_option maxRecDepth 100000
set_option maxHeartbeats 16000000
namespace Go.Proofs.YtckhfapcmjlmbaaGreatDoor
open Go.RowKit Oct
section
structure Rec (α:Type) where
 cell:α→List Value
 e:TypeId
 n:Nat
 bytes:Nat
 z:Value
 len:∀ x,(cell x).length=n
 one:∀ x,∀ u∈cell x,u.oneCell'=true
 info:(Tryz.prog.info? e).map (fun i=>(i.zero,i.size,i.bytes))=some (some z,n,bytes)
 zs:z.cells.size=n
 pos:0<n
 bpos:0<bytes
section
variable {α:Type}
def Rec.cells (R:Rec α):List α→List Value
 | []=>[]
 | x::l=>R.cell x++R.cells l
theorem Rec.cells_length (R:Rec α):∀ l:List α,(R.cells l).length=l.length*R.n
 | []=>by simp[Rec.cells]
 | x::l=>by rw[Rec.cells,DL,R.len,R.cells_length l,Du,Nat.add_mul];omega
theorem Rec.cells_append (R:Rec α):∀ a b:List α,R.cells (a++b)=R.cells a++R.cells b
 | [],_=>rfl
 | x::a,b=>by rw[Dx,Rec.cells,Rec.cells,R.cells_append a b,DK]
theorem Rec.cells_one (R:Rec α)(l:List α):∀ u∈R.cells l,u.oneCell'=true:=by
 induction l with
 | nil=>intro u h;simp[Rec.cells]at h
 | cons x l ih =>
  intro u h;rw[Rec.cells,DM]at h;rcases h with h|h
  ·exact R.one x u h
  ·exact ih u h
theorem Rec.cells_at (R:Rec α):∀ (l:List α) (k:Nat) (h:k<l.length) (j:Nat) (u:Value),(R.cell l[k])[j]?=some u→(R.cells l)[k*R.n+j]?=some u
 | x::l,0,_,j,u,hu=>by
  rw[DN]at hu;rw[Nat.zero_mul,DE,Rec.cells,List.getElem?_append_left (List.getElem?_eq_some_iff.1 hu).1];exact hu
 | x::l,k+1,h,j,u,hu=>by
  have:=R.cells_at l k (by simpa using h) j u hu;rw[Rec.cells,List.getElem?_append_right (by rw[R.len,Nat.add_mul];omega),R.len,show(k+1)*R.n+j-R.n=k*R.n+j by rw[Nat.add_mul];omega];exact this
theorem Rec.cells_drop (R:Rec α):∀ (l:List α) (k:Nat),(R.cells l).drop (k*R.n)=R.cells (l.drop k)
 | l,0=>by simp
 | [],k+1=>by simp[Rec.cells]
 | x::l,k+1=>by
  rw[DO,←R.cells_drop l k,Rec.cells,show(k+1)*R.n=(R.cell x).length+k*R.n by rw[R.len,Nat.add_mul];omega,←DP,List.drop_left]
theorem Rec.cells_take (R:Rec α):∀ (l:List α) (k:Nat),(R.cells l).take (k*R.n)=R.cells (l.take k)
 | l,0=>by simp[Rec.cells]
 | [],k+1=>by simp[Rec.cells]
 | x::l,k+1=>by
  rw[DQ,Rec.cells,Rec.cells,←R.cells_take l k,show(k+1)*R.n=(R.cell x).length+k*R.n by rw[R.len,Nat.add_mul];omega,List.take_length_add_append]
def Rec.Row (R:Rec α)(w:World)(v:Value)(l:List α):Prop:=aJ w v l.length (R.cells l)∧∃ a cap,v=.slice a l.length cap∧l.length≤cap
def Rec.Own (R:Rec α)(w:World)(bZ:Nat)(v:Value)(l:List α):Prop:=w.ownsRow bZ R.e R.n v l.length (R.cells l)
variable {R:Rec α}{w w':World}{v:Value}{l:List α}
theorem Rec.Row.below (h:R.Row w v l)(hB:Below w.heap.size w w'):R.Row w' v l:=⟨aJ.below h.1 hB,h.2⟩
theorem Rec.Own.row {bZ:Nat}(h:R.Own w bZ v l):R.Row w v l:=by
 exact GA
theorem Rec.Own.below {bZ:Nat}(h:R.Own w bZ v l)(hB:Below w.heap.size w w'):R.Own w' bZ v l:=bD h hB
theorem Rec.Own.mono {bZ base':Nat}(h:R.Own w bZ v l)(hb:base'≤bZ):R.Own w base' v l:=dF h hb
theorem Rec.Row.nil (w:World):R.Row w (.slice none 0 0) []:=⟨aJ.nil w,none,0,rfl,DC _⟩
theorem Rec.Own.nil (w:World)(bZ:Nat):R.Own w bZ (.slice none 0 0) []:=⟨by simp[Rec.cells],.inl ⟨rfl,rfl⟩⟩
theorem Rec.Row.new (w:World)(l:List α)(e:TypeId):R.Row (w.alloc (.cells (R.cells l).toArray e)) (.slice (some ⟨w.heap.size,0,none⟩) l.length l.length) l:=⟨aJ.new w _ _ _ _,_,_,rfl,DC _⟩
theorem Rec.Row.open (h:R.Row w v l):∃ a cap,v=.slice a l.length cap∧l.length≤cap ∧∀ k (hk:k<l.length),∃ b off,a=some ⟨b,off,none⟩∧∀ j u,(R.cell l[k])[j]?=some u→w.cell? ⟨b,off+k*R.n+j,none⟩=some u:=by
 obtain⟨⟨a,cap,rfl,hn,hc⟩,a',cap',hv,hle⟩:=h;injection hv with _ _ h3
 subst h3;refine⟨a,cap,rfl,hle,fun k hk=>?_⟩;obtain⟨u0,hu0⟩:∃ u,(R.cell l[k])[0]?=some u:=⟨_,List.getElem?_eq_getElem (l:=R.cell l[k]) (i:=0) (by rw[R.len];exact R.pos)⟩
 obtain⟨b,off,rfl,h1⟩:=hc _ _ (R.cells_at l k hk 0 u0 hu0);refine⟨b,off,rfl,fun j u hu=>?_⟩;obtain⟨b',off',hb,h2⟩:=hc _ _ (R.cells_at l k hk j u hu)
 cases hb
 rw[Dy];exact h2
theorem Rec.append {ops:Array Oper}{rest:List Oper}{o:Oper}{a:Act}{Q:Exit→Act→World→Prop}(R:Rec α)(w:World)(hgd:o.guard=none)(s x:Operand)(t:TypeId)(ho:o.op=.call { callee:=.builtin .append,args:=#[s,x],argTypes:=#[t,t] })(ht:Tryz.prog.underlying t=some (.slice R.e))(bZ:Nat)(v:Value)(xs:List α)(hown:R.Own w bZ v xs)(hs:a.eval s=v)(vx:Value)(ys:List α)(hr:R.Row w vx ys)(hx:a.eval x=vx)(hbytes:(xs.length+ys.length)*R.bytes≤140737488355328)(hbase:bZ≤w.heap.size)(h:∀ v' w',R.Own w' bZ v' (xs++ys)→Below bZ w w'→wpList Tryz.prog ops Q rest (a.put o.dst v') w'):wpList Tryz.prog ops Q (o::rest) a w :=
 kQ w (R.cells ys) R.e hgd s x t ho bZ R.z R.n R.bytes ht R.info R.zs R.pos v xs.length (R.cells xs) hs hown vx ys.length hx hr.1 (R.cells_length ys) (R.cells_one ys) hbytes R.bpos hbase
  (fun v' w' h1 h2=>h v' w' (by unfold Rec.Own;rw[R.cells_append,DL];exact h1) h2)
theorem Rec.append1 {ops:Array Oper}{rest:List Oper}{o:Oper}{a:Act}{Q:Exit→Act→World→Prop}(R:Rec α)(w:World)(p:α)(hgd:o.guard=none)(s x:Operand)(t:TypeId)(ho:o.op=.call { callee:=.builtin .append,args:=#[s,x],argTypes:=#[t,t] })(ht:Tryz.prog.underlying t=some (.slice R.e))(bZ:Nat)(v:Value)(xs:List α)(hown:R.Own w bZ v xs)(hs:a.eval s=v)(c:Nat)(hx:a.eval x=.slice (some ⟨w.heap.size,0,none⟩) 1 c)(cs:Array Value)(hcs:cs=(R.cell p).toArray)(e:TypeId)(he:e=R.e)(hbytes:(xs.length+1)*R.bytes≤140737488355328)(hbase:bZ≤w.heap.size)(h:∀ g cap w',R.Own w' bZ (.slice (some ⟨g,0,none⟩) (xs.length+1) cap) (xs++[p])→Below bZ w w'→wpList Tryz.prog ops Q rest (a.put o.dst (.slice (some ⟨g,0,none⟩) (xs.length+1) cap)) w'):wpList Tryz.prog ops Q (o::rest) a (w.alloc (.cells cs e)):=by
 subst hcs he
 exact Go.Proofs.YtckhfapcmjlmbaaGreatDoor.append1 w (R.cell p) R.e hgd s x t ho bZ R.z R.n R.bytes ht R.info R.zs R.pos v xs.length (R.cells xs) hs hown c hx (R.len p) (R.one p) hbytes R.bpos hbase
  (fun v' w' h1 h2=>by
   obtain⟨g,cap,rfl⟩:=ownsRow_succ h1;exact h g cap w' (by unfold Rec.Own;rw[R.cells_append,DL,Rec.cells,Rec.cells,DR];exact h1) h2)
theorem Rec.Row.sub {a:Option Addr}{cap:Nat}(h:R.Row w (.slice a l.length cap) l)(lo hi:Nat)(h1:lo≤hi)(h2:hi≤l.length):R.Row w (sliced a lo hi cap R.n) ((l.drop lo).take (hi-lo)):=by
 have hlen:((l.drop lo).take (hi-lo)).length=hi-lo:=by simp;omega
 obtain⟨hr,a',cap',hv,hle⟩:=h;injection hv with _ _ h3
 subst h3;have hn:=nh hr;obtain⟨a',cap',hv,_,hc⟩:=hr;injection hv with e1 _ e3
 subst e1 e3;unfold sliced;refine⟨?_,_,_,by rw[hlen],by rw[hlen];omega⟩;rw[hlen];refine aJ.mk ?_ ?_
 ·exact GK
 ·intro j u hj
  rw[←Rec.cells_take,←Rec.cells_drop,List.getElem?_take]at hj
  split at hj
  ·rename_i hlt
   rw[List.getElem?_drop]at hj;obtain⟨b,off,rfl,hu⟩:=hc _ _ hj
   have hne:cap≠lo:=by
    intro e;have:hi-lo=0:=by omega
    rw[this,Nat.zero_mul]at hlt;omega
   rw[if_neg hne];refine⟨b,off+lo*R.n,?_,?_⟩
   ·rw[Option.map_some,Addr.add_lit]
   ·rw[←hu,Dy]
  ·simp at hj
theorem Rec.Row.cut {a:Option Addr}{cap:Nat}(h:R.Row w (.slice a l.length cap) l)(k:Nat)(hk:k≤l.length):R.Row w (sliced a k l.length cap R.n) (l.drop k):=by
 have:=h.sub k l.length hk (DC _)
 rwa [DB (by simp)]at this
end
end
