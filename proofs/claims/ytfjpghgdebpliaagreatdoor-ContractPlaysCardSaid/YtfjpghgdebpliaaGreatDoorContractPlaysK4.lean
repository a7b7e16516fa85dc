/- Lemmas. -/
import Derived.RangeFuncBox
import Derived.Test.YtfjpghgdebpliaaGreatDoorContractPlaysK2
set_option linter.unusedSimpArgs false
set_option linter.unusedVariables false
set_option maxRecDepth 100000
set_option maxHeartbeats 16000000
namespace Go.Proofs.YtfjpghgdebpliaaGreatDoor
open Go.Proofs.Tryz
open Go.RowKit Oct
structure Rec (α:Type) where
 cell:α→LV_
 e:T_
 n:Nat
 bytes:Nat
 z:V_
 len:∀ x,(cell x).length=n
 one:∀ x,∀ u∈cell x,u.oneCell'=true
 info:(prog.info? e).map (fun i=>(i.zero,i.size,i.bytes))=some (some z,n,bytes)
 zs:z.cells.size=n
 pos:0<n
 bpos:0<bytes
section
variable {α:Type}
def Rec.cells (R:Rec α):List α→LV_
 | []=>[]
 | x::l=>R.cell x++R.cells l
theorem Rec.cells_length (R:Rec α):∀ l:List α,(R.cells l).length=l.length*R.n
 | []=>by simp[Rec.cells]
 | x::l=>by rw[Rec.cells,Jh,R.len,R.cells_length l,Jq,Nat.add_mul];omega
theorem Rec.cells_append (R:Rec α):∀ a b:List α,R.cells (a++b)=R.cells a++R.cells b
 | [],_=>rfl
 | x::a,b=>by rw[Jk,Rec.cells,Rec.cells,R.cells_append a b,Jg]
theorem Rec.cells_one (R:Rec α)(l:List α):∀ u∈R.cells l,u.oneCell'=true:=by
 induction l with
 | nil=>intro u h;simp[Rec.cells]at h
 | cons x l H =>
  intro u h;rw[Rec.cells,Jt]at h;rcases h with h|h
  ·exact R.one x u h
  ·exact H u h
theorem Rec.cells_at (R:Rec α):∀ (l:List α) (k:Nat) (h:k<l.length) (j:Nat) (u:V_),(R.cell l[k])[j]?=some u→(R.cells l)[k*R.n+j]?=some u
 | x::l,0,_,j,u,hu=>by
  rw[Jm]at hu;rw[Nat.zero_mul,I9,Rec.cells,List.getElem?_append_left (List.getElem?_eq_some_iff.1 hu).1];exact hu
 | x::l,k+1,h,j,u,hu=>by
  have:=R.cells_at l k yze j u hu;rw[Rec.cells,List.getElem?_append_right (by rw[R.len,Nat.add_mul];omega),R.len,show(k+1)*R.n+j-R.n=k*R.n+j by rw[Nat.add_mul];omega];exact this
theorem Rec.cells_drop (R:Rec α):∀ (l:List α) (k:Nat),(R.cells l).drop (k*R.n)=R.cells (l.drop k)
 | l,0=>by simp
 | [],k+1=>by simp[Rec.cells]
 | x::l,k+1=>by
  rw[Ju,←R.cells_drop l k,Rec.cells,show(k+1)*R.n=(R.cell x).length+k*R.n by rw[R.len,Nat.add_mul];omega,←Jv,List.drop_left]
theorem Rec.cells_take (R:Rec α):∀ (l:List α) (k:Nat),(R.cells l).take (k*R.n)=R.cells (l.take k)
 | l,0=>by simp[Rec.cells]
 | [],k+1=>by simp[Rec.cells]
 | x::l,k+1=>by
  rw[Jw,Rec.cells,Rec.cells,←R.cells_take l k,show(k+1)*R.n=(R.cell x).length+k*R.n by rw[R.len,Nat.add_mul];omega,List.take_length_add_append]
def Rec.Row (R:Rec α)(w:Z)(v:V_)(l:List α):Prop:=aO w v l.length (R.cells l)∧∃ a ah,v=.slice a l.length ah∧l.length≤ah
def Rec.Own (R:Rec α)(w:Z)(bZ:Nat)(v:V_)(l:List α):Prop:=w.ownsRow bZ R.e R.n v l.length (R.cells l)
variable {R:Rec α}{w w':Z}{v:V_}{l:List α}
theorem Rec.Row.below (h:R.Row w v l)(hB:Bw_ w w'):R.Row w' v l:=⟨aO.below h.1 hB,h.2⟩
theorem Rec.Own.row {bZ:Nat}(h:R.Own w bZ v l):R.Row w v l:=by
 exact MD
theorem Rec.Own.below {bZ:Nat}(h:R.Own w bZ v l)(hB:Bw_ w w'):R.Own w' bZ v l:=cX h hB
theorem Rec.Own.mono {bZ a:Nat}(h:R.Own w bZ v l)(hb:a≤bZ):R.Own w a v l:=fq h hb
theorem Rec.Row.nil (w:Z):R.Row w (e_) []:=⟨aO.nil w,none,0,rfl,I6 _⟩
theorem Rec.Own.nil (w:Z)(bZ:Nat):R.Own w bZ (e_) []:=⟨by simp[Rec.cells],.inl ⟨rfl,rfl⟩⟩
theorem Rec.Row.new (w:Z)(l:List α)(e:T_):R.Row (w.alloc (.cells (R.cells l).toArray e)) (.slice (some ⟨w.heap.size,0,none⟩) l.length l.length) l:=⟨aO.new w _ _ _ _,_,_,rfl,I6 _⟩
theorem Rec.Row.open (h:R.Row w v l):∃ a ah,v=.slice a l.length ah∧l.length≤ah ∧∀ k (hk:k<l.length),∃ b aL,a=some ⟨b,aL,none⟩∧∀ j u,(R.cell l[k])[j]?=some u→w.cell? ⟨b,aL+k*R.n+j,none⟩=some u:=by
 obtain⟨⟨a,ah,rfl,hn,hc⟩,a',aK,hv,aq⟩:=h;injection hv with _ _ h3
 subst h3;refine⟨a,ah,rfl,aq,fun k hk=>?_⟩;obtain⟨u0,c⟩:∃ u,(R.cell l[k])[0]?=some u:=⟨_,List.getElem?_eq_getElem (l:=R.cell l[k]) (i:=0) (by rw[R.len];exact R.pos)⟩
 obtain⟨b,aL,rfl,h1⟩:=hc _ _ (R.cells_at l k hk 0 u0 c);refine⟨b,aL,rfl,fun j u hu=>?_⟩;obtain⟨b',J,hb,h2⟩:=hc _ _ (R.cells_at l k hk j u hu)
 cases hb
 rw[Ji];exact h2
theorem Rec.append {aM:Array Oper}{rest:LO_}{o:Oper}{a:Act}{Q:Exit→Act→Z→Prop}(R:Rec α)(w:Z)(av:o.guard=none)(s x:Operand)(t:T_)(ho:o.op=.call { callee:=.builtin .append,args:=#[s,x],argTypes:=#[t,t] })(ht:prog.underlying t=some (.slice R.e))(bZ:Nat)(v:V_)(xs:List α)(aw:R.Own w bZ v xs)(hs:a.eval s=v)(y:V_)(D:List α)(hr:R.Row w y D)(hx:a.eval x=y)(d:(xs.length+D.length)*R.bytes≤140737488355328)(aB:bZ≤w.heap.size)(h:∀ v' w',R.Own w' bZ v' (xs++D)→B_ bZ w w'→wpList prog aM Q rest (a.put o.dst v') w'):wpList prog aM Q (o::rest) a w :=
 ny w (R.cells D) R.e av s x t ho bZ R.z R.n R.bytes ht R.info R.zs R.pos v xs.length (R.cells xs) hs aw y D.length hx hr.1 (R.cells_length D) (R.cells_one D) d R.bpos aB
  (fun v' w' h1 h2=>h v' w' (by unfold Rec.Own;rw[R.cells_append,Jh];exact h1) h2)
theorem Rec.append1 {aM:Array Oper}{rest:LO_}{o:Oper}{a:Act}{Q:Exit→Act→Z→Prop}(R:Rec α)(w:Z)(p:α)(av:o.guard=none)(s x:Operand)(t:T_)(ho:o.op=.call { callee:=.builtin .append,args:=#[s,x],argTypes:=#[t,t] })(ht:prog.underlying t=some (.slice R.e))(bZ:Nat)(v:V_)(xs:List α)(aw:R.Own w bZ v xs)(hs:a.eval s=v)(c:Nat)(hx:a.eval x=.slice (some ⟨w.heap.size,0,none⟩) 1 c)(cs:AV_)(aR:cs=(R.cell p).toArray)(e:T_)(he:e=R.e)(d:(xs.length+1)*R.bytes≤140737488355328)(aB:bZ≤w.heap.size)(h:∀ g ah w',R.Own w' bZ (.slice (some ⟨g,0,none⟩) (xs.length+1) ah) (xs++[p])→B_ bZ w w'→wpList prog aM Q rest (a.put o.dst (.slice (some ⟨g,0,none⟩) (xs.length+1) ah)) w'):wpList prog aM Q (o::rest) a (w.alloc (.cells cs e)):=by
 subst aR he
 exact Go.Proofs.YtfjpghgdebpliaaGreatDoor.append1 w (R.cell p) R.e av s x t ho bZ R.z R.n R.bytes ht R.info R.zs R.pos v xs.length (R.cells xs) hs aw c hx (R.len p) (R.one p) d R.bpos aB
  (fun v' w' h1 h2=>by
   obtain⟨g,ah,rfl⟩:=ownsRow_succ h1;exact h g ah w' (by unfold Rec.Own;rw[R.cells_append,Jh,Rec.cells,Rec.cells,Jy];exact h1) h2)
theorem Rec.Row.sub {a:OA_}{ah:Nat}(h:R.Row w (.slice a l.length ah) l)(k hi:Nat)(h1:k≤hi)(h2:hi≤l.length):R.Row w (sliced a k hi ah R.n) ((l.drop k).take (hi-k)):=by
 have ai:((l.drop k).take (hi-k)).length=hi-k:=by simp;omega
 obtain⟨hr,a',aK,hv,aq⟩:=h;injection hv with _ _ h3
 subst h3;have hn:=qp hr;obtain⟨a',aK,hv,_,hc⟩:=hr;injection hv with e1 _ e3
 subst e1 e3;unfold sliced;refine⟨?_,_,_,by rw[ai],by rw[ai];omega⟩;rw[ai];refine aO.mk ?_ ?_
 ·exact MO
 ·intro j u hj
  rw[←Rec.cells_take,←Rec.cells_drop,List.getElem?_take]at hj
  split at hj
  ·rename_i aC
   rw[List.getElem?_drop]at hj;obtain⟨b,aL,rfl,hu⟩:=hc _ _ hj
   have aI:ah≠k:=by
    intro e;have:hi-k=0:=Y;rw[this,Nat.zero_mul]at aC;omega
   rw[if_neg aI];refine⟨b,aL+k*R.n,?_,?_⟩
   ·rw[Option.map_some,Addr.add_lit]
   ·rw[←hu,Ji]
  ·simp at hj
theorem Rec.Row.cut {a:OA_}{ah:Nat}(h:R.Row w (.slice a l.length ah) l)(k:Nat)(hk:k≤l.length):R.Row w (sliced a k l.length ah R.n) (l.drop k):=by
 have:=h.sub k l.length hk (I6 _)
 rwa [I5 i_]at this
theorem Rec.Row.head {a:OA_}{ah:Nat}(h:R.Row w (.slice a l.length ah) l)(k:Nat)(hk:k≤l.length):R.Row w (sliced a 0 k ah R.n) (l.take k):=by
 have:=h.sub 0 k Y hk;simpa using this
theorem Rec.Row.cutRun {a:OA_}{ah:Nat}(h:R.Row w (.slice a l.length ah) l)(st:T_)(ab:prog.underlying st=some (.slice (prog.elem st)))(a6:∀ wx,(sizeOf (prog.elem st)).run prog wx=.ok R.n wx)(k:Nat)(c:Int)(hc:c=(k:Int))(hk:k≤l.length):∃ A C,(∀ wx,(Instr.slice st (.slice a l.length ah) (some (F c)) none none).run prog wx=.ok (.slice A (l.length-k) C) wx)∧R.Row w (.slice A (l.length-k) C) (l.drop k):=by
 subst hc;refine⟨_,_,fun wx=>?_,h.cut k hk⟩;rw[run_slice_l wx st a l.length ah ab .i64 k Y Y,a6];simp[Result.andThen,sliced]
theorem Rec.Row.headRun {a:OA_}{ah:Nat}(h:R.Row w (.slice a l.length ah) l)(st:T_)(ab:prog.underlying st=some (.slice (prog.elem st)))(a6:∀ wx,(sizeOf (prog.elem st)).run prog wx=.ok R.n wx)(k:Nat)(c:Int)(hc:c=(k:Int))(hk:k≤l.length):∃ A C,(∀ wx,(Instr.slice st (.slice a l.length ah) none (some (F c)) none).run prog wx=.ok (.slice A k C) wx)∧R.Row w (.slice A k C) (l.take k):=by
 subst hc;obtain⟨_,a',aK,hv,aq⟩:=id h;injection hv with _ _ h3
 subst h3;refine⟨if ah=0 then a else a.map (·.add (0*R.n)),ah-0,fun wx=>?_,by have:=Rec.Row.head h k hk;simpa[sliced] using this⟩;rw[run_slice_h wx st a l.length ah ab .i64 k Y Y,a6];simp[Result.andThen,sliced]
theorem Rec.Row.subRun {a:OA_}{ah:Nat}(h:R.Row w (.slice a l.length ah) l)(st:T_)(ab:prog.underlying st=some (.slice (prog.elem st)))(a6:∀ wx,(sizeOf (prog.elem st)).run prog wx=.ok R.n wx)(k hi:Nat)(h1:k≤hi)(h2:hi≤l.length):∃ A C,(∀ wx,(Instr.slice st (.slice a l.length ah) (some (F k)) (some (F hi)) none).run prog wx=.ok (.slice A (hi-k) C) wx)∧R.Row w (.slice A (hi-k) C) ((l.drop k).take (hi-k)):=by
 obtain⟨_,a',aK,hv,aq⟩:=id h;injection hv with _ _ h3
 subst h3;refine⟨_,_,fun wx=>?_,h.sub k hi h1 h2⟩;rw[run_slice_lh wx st a l.length ah ab .i64 .i64 k hi Y Y Y,a6];simp[Result.andThen,sliced]
end