/- Lemmas for FoldTells, part 4: walks of the functions that it reaches, and the plain laws behind them. -/
import Derived.RangeFuncBox
import Derived.Test.YtehllcbnheicoaaGreatDoorFoldTellsK1
import Derived.Test.YtehllcbnheicoaaGreatDoorFoldTellsK2
import Derived.Test.YtehllcbnheicoaaGreatDoorFoldTellsK3
set_option linter.unusedSimpArgs false
set_option linter.unusedVariables false
set_option maxRecDepth 100000
set_option maxHeartbeats 16000000
namespace Go.Proofs.YtehllcbnheicoaaGreatDoor
open Go.RowKit Oct
structure Rec (α : Type) where
 cell : α → List Value
 e : TypeId
 n : Nat
 bytes : Nat
 z : Value
 len : ∀ x,(cell x).length = n
 one : ∀ x,∀ u ∈ cell x,u.oneCell' = true
 info : (Tryz.prog.info? e).map (fun i => (i.zero,i.size,i.bytes)) = some (some z,n,bytes)
 zs : z.cells.size = n
 pos : 0 < n
 bpos : 0 < bytes
section
variable {α : Type}
def Rec.cells (R : Rec α) : List α → List Value
 | [] => []
 | x :: l => R.cell x ++ R.cells l
theorem Rec.cells_length (R : Rec α) : ∀ l : List α,(R.cells l).length = l.length * R.n
 | [] => by simp [Rec.cells]
 | x :: l => by rw [Rec.cells,List.length_append,R.len,R.cells_length l,List.length_cons,Nat.add_mul]; omega
theorem Rec.cells_append (R : Rec α) : ∀ a b : List α,R.cells (a ++ b) = R.cells a ++ R.cells b
 | [],_ => rfl
 | x :: a,b => by rw [List.cons_append,Rec.cells,Rec.cells,R.cells_append a b,List.append_assoc]
theorem Rec.cells_one (R : Rec α) (l : List α) : ∀ u ∈ R.cells l,u.oneCell' = true:=by
 induction l with
 | nil => intro u h; simp [Rec.cells] at h
 | cons x l ih =>
  intro u h
  rw [Rec.cells,List.mem_append] at h
  rcases h with h | h
  ·exact R.one x u h
  ·exact ih u h
theorem Rec.cells_at (R : Rec α) : ∀ (l : List α) (k : Nat) (h : k < l.length) (j : Nat) (u : Value),(R.cell l[k])[j]? = some u → (R.cells l)[k * R.n + j]? = some u
 | x :: l,0,_,j,u,hu => by
  rw [List.getElem_cons_zero] at hu
  rw [Nat.zero_mul,Nat.zero_add,Rec.cells,List.getElem?_append_left (List.getElem?_eq_some_iff.1 hu).1]
  exact hu
 | x :: l,k + 1,h,j,u,hu => by
  have:=R.cells_at l k (by simpa using h) j u hu
  rw [Rec.cells,List.getElem?_append_right (by rw [R.len,Nat.add_mul]; omega),R.len,show (k + 1) * R.n + j - R.n = k * R.n + j by rw [Nat.add_mul]; omega]
  exact this
theorem Rec.cells_drop (R : Rec α) : ∀ (l : List α) (k : Nat),(R.cells l).drop (k * R.n) = R.cells (l.drop k)
 | l,0 => by simp
 | [],k + 1 => by simp [Rec.cells]
 | x :: l,k + 1 => by
  rw [List.drop_succ_cons,← R.cells_drop l k,Rec.cells,show (k + 1) * R.n = (R.cell x).length + k * R.n by rw [R.len,Nat.add_mul]; omega,← List.drop_drop,List.drop_left]
theorem Rec.cells_take (R : Rec α) : ∀ (l : List α) (k : Nat),(R.cells l).take (k * R.n) = R.cells (l.take k)
 | l,0 => by simp [Rec.cells]
 | [],k + 1 => by simp [Rec.cells]
 | x :: l,k + 1 => by
  rw [List.take_succ_cons,Rec.cells,Rec.cells,← R.cells_take l k,show (k + 1) * R.n = (R.cell x).length + k * R.n by rw [R.len,Nat.add_mul]; omega,List.take_length_add_append]
def Rec.Row (R : Rec α) (w : World) (v : Value) (l : List α) : Prop:=Reads w v l.length (R.cells l) ∧ ∃ a cap,v = .slice a l.length cap ∧ l.length ≤ cap
def Rec.Own (R : Rec α) (w : World) (base : Nat) (v : Value) (l : List α) : Prop:=w.ownsRow base R.e R.n v l.length (R.cells l)
variable {R : Rec α} {w w' : World} {v : Value} {l : List α}
theorem Rec.Row.below (h : R.Row w v l) (hB : Below w.heap.size w w') : R.Row w' v l:=⟨Reads.below h.1 hB,h.2⟩
theorem Rec.Own.row {base : Nat} (h : R.Own w base v l) : R.Row w v l:=by
 refine ⟨Reads.owned h,?_⟩
 rcases h.2 with ⟨hv,h0⟩ | ⟨g,cap,cur,hv,_,_,hc,_⟩
 ·exact ⟨none,0,by rw [hv,h0],by omega⟩
 ·exact ⟨_,_,hv,hc⟩
theorem Rec.Own.below {base : Nat} (h : R.Own w base v l) (hB : Below w.heap.size w w') : R.Own w' base v l:=ownsRow_below h hB
theorem Rec.Own.mono {base base' : Nat} (h : R.Own w base v l) (hb : base' ≤ base) : R.Own w base' v l:=owns_mono h hb
theorem Rec.Row.nil (w : World) : R.Row w (.slice none 0 0) []:=⟨Reads.nil w,none,0,rfl,Nat.le_refl _⟩
theorem Rec.Own.nil (w : World) (base : Nat) : R.Own w base (.slice none 0 0) []:=⟨by simp [Rec.cells],.inl ⟨rfl,rfl⟩⟩
theorem Rec.Row.new (w : World) (l : List α) (e : TypeId) : R.Row (w.alloc (.cells (R.cells l).toArray e)) (.slice (some ⟨w.heap.size,0,none⟩) l.length l.length) l:=⟨Reads.new w _ _ _ _,_,_,rfl,Nat.le_refl _⟩
theorem Rec.Row.open (h : R.Row w v l) : ∃ a cap,v = .slice a l.length cap ∧ l.length ≤ cap ∧
  ∀ k (hk : k < l.length),∃ b off,a = some ⟨b,off,none⟩ ∧ ∀ j u,(R.cell l[k])[j]? = some u → w.cell? ⟨b,off + k * R.n + j,none⟩ = some u:=by
 obtain ⟨⟨a,cap,rfl,hn,hc⟩,a',cap',hv,hle⟩:=h
 injection hv with _ _ h3
 subst h3
 refine ⟨a,cap,rfl,hle,fun k hk => ?_⟩
 obtain ⟨u0,hu0⟩ : ∃ u,(R.cell l[k])[0]? = some u:=⟨_,List.getElem?_eq_getElem (l:=R.cell l[k]) (i:=0) (by rw [R.len]; exact R.pos)⟩
 obtain ⟨b,off,rfl,h1⟩:=hc _ _ (R.cells_at l k hk 0 u0 hu0)
 refine ⟨b,off,rfl,fun j u hu => ?_⟩
 obtain ⟨b',off',hb,h2⟩:=hc _ _ (R.cells_at l k hk j u hu)
 cases hb
 rw [Nat.add_assoc]
 exact h2
theorem Rec.append1 {ops : Array Oper} {rest : List Oper} {o : Oper} {a : Act} {Q : Exit → Act → World → Prop} (R : Rec α) (w : World) (p : α) (hgd : o.guard = none) (s x : Operand) (t : TypeId)
  (ho : o.op = .call { callee:=.builtin .append,args:=#[s,x],argTypes:=#[t,t] }) (ht : Tryz.prog.underlying t = some (.slice R.e))
  (base : Nat) (v : Value) (xs : List α) (hown : R.Own w base v xs) (hs : a.eval s = v) (c : Nat) (hx : a.eval x = .slice (some ⟨w.heap.size,0,none⟩) 1 c)
  (cs : Array Value) (hcs : cs = (R.cell p).toArray) (e : TypeId) (he : e = R.e)
  (hbytes : (xs.length + 1) * R.bytes ≤ 140737488355328) (hbase : base ≤ w.heap.size)
  (h : ∀ g cap w',R.Own w' base (.slice (some ⟨g,0,none⟩) (xs.length + 1) cap) (xs ++ [p]) → Below base w w' → wpList Tryz.prog ops Q rest (a.put o.dst (.slice (some ⟨g,0,none⟩) (xs.length + 1) cap)) w') : wpList Tryz.prog ops Q (o :: rest) a (w.alloc (.cells cs e)):=by
 subst hcs he
 exact Go.Proofs.YtehllcbnheicoaaGreatDoor.append1 w (R.cell p) R.e hgd s x t ho base R.z R.n R.bytes ht R.info R.zs R.pos v xs.length (R.cells xs) hs hown c hx (R.len p) (R.one p) hbytes R.bpos hbase
  (fun v' w' h1 h2 => by
   obtain ⟨g,cap,rfl⟩:=ownsRow_succ h1
   exact h g cap w' (by unfold Rec.Own; rw [R.cells_append,List.length_append,Rec.cells,Rec.cells,List.append_nil]; exact h1) h2)
theorem Rec.Row.sub {a : Option Addr} {cap : Nat} (h : R.Row w (.slice a l.length cap) l) (lo hi : Nat) (h1 : lo ≤ hi) (h2 : hi ≤ l.length) :
  R.Row w (sliced a lo hi cap R.n) ((l.drop lo).take (hi - lo)):=by
 have hlen : ((l.drop lo).take (hi - lo)).length = hi - lo:=by simp; omega
 obtain ⟨hr,a',cap',hv,hle⟩:=h
 injection hv with _ _ h3
 subst h3
 have hn:=none_cap hr
 obtain ⟨a',cap',hv,_,hc⟩:=hr
 injection hv with e1 _ e3
 subst e1 e3
 unfold sliced
 refine ⟨?_,_,_,by rw [hlen],by rw [hlen]; omega⟩
 rw [hlen]
 refine Reads.mk ?_ ?_
 ·intro ha
  by_cases e : cap = lo
  ·omega
  ·rw [if_neg e] at ha
   have : a = none:=by simpa using ha
   have:=hn this
   omega
 ·intro j u hj
  rw [← Rec.cells_take,← Rec.cells_drop,List.getElem?_take] at hj
  split at hj
  ·rename_i hlt
   rw [List.getElem?_drop] at hj
   obtain ⟨b,off,rfl,hu⟩:=hc _ _ hj
   have hne : cap ≠ lo:=by
    intro e
    have : hi - lo = 0:=by omega
    rw [this,Nat.zero_mul] at hlt
    omega
   rw [if_neg hne]
   refine ⟨b,off + lo * R.n,?_,?_⟩
   ·rw [Option.map_some,Addr.add_lit]
   ·rw [← hu,Nat.add_assoc]
  ·simp at hj
theorem Rec.Row.cut {a : Option Addr} {cap : Nat} (h : R.Row w (.slice a l.length cap) l) (k : Nat) (hk : k ≤ l.length) : R.Row w (sliced a k l.length cap R.n) (l.drop k):=by
 have:=h.sub k l.length hk (Nat.le_refl _)
 rwa [List.take_of_length_le (by simp)] at this
end
end Go.Proofs.YtehllcbnheicoaaGreatDoor
namespace Go.Proofs.YtehllcbnheicoaaGreatDoor
open Go.RowKit Oct
def recS : Rec (List UInt8) where
 cell s:=[.string (bs s)]
 e:=9
 n:=1
 bytes:=16
 z:=.string ByteArray.empty
 len:=fun _ => rfl
 one:=by intro x u h; simp at h; subst h; rfl
 info:=by kernel_rfl
 zs:=rfl
 pos:=by decide
 bpos:=by decide
theorem recS_open {w : World} {v : Value} {l : List (List UInt8)} (h : recS.Row w v l) : ∃ a cap,v = .slice a l.length cap ∧ l.length ≤ cap ∧ ∀ k (hk : k < l.length),∃ b off,a = some ⟨b,off,none⟩ ∧ w.cell? ⟨b,off + k,none⟩ = some (.string (bs l[k])):=by
 obtain ⟨a,cap,hv,hle,hc⟩:=h.open
 refine ⟨a,cap,hv,hle,fun k hk => ?_⟩
 obtain ⟨b,off,ha,hu⟩:=hc k hk
 have:=hu 0 _ rfl
 rw [show recS.n = 1 from rfl,Nat.mul_one,Nat.add_zero] at this
 exact ⟨b,off,ha,this⟩
theorem count_kind (s : List UInt8) (w : World) : Calls Tryz.prog 211 #[.string (bs s),.string (bs [82])] w fun e w' => e = .returned (.int .i64 (Lib.countByte s 82)) ∧ w' = w:=by
 have:=Tryz.strings_Count_one (bs s) 82 w
 rwa [bs_data] at this
theorem index_kind (s : List UInt8) (w : World) : Calls Tryz.prog 213 #[.string (bs s),.string (bs [82])] w fun e w' => e = .returned (.int .i64 (Lib.indexByte s 82)) ∧ w' = w:=by
 have:=Tryz.strings_Index_one (bs s) 82 w
 rwa [bs_data] at this
theorem grow_kind (B b : Nat) (w : World) (hB : B ≤ b) (hbk : w.heap[b]? = some (.cells #[.pointer none,.slice none 0 0] 151 (0,0))) (hBw : B ≤ w.heap.size) :
  Calls Tryz.prog 212 #[.pointer (some ⟨b,0,none⟩),.int .i64 1] w fun e w' => e = .returned (.tuple #[]) ∧ Bld B b [] w' ∧ Below B w w':=by
 refine (Tryz.Builder_Grow_fresh B b 1 w hB hbk hBw (by decide)).mono ?_
 rintro e w' ⟨rfl,h1,h2⟩
 exact ⟨rfl,⟨Nat.le_trans hBw h2.size,.inr h1⟩,h2⟩
theorem Replace_no (s r : List UInt8) (w : World) (h0 : Lib.countByte s 82 = 0) (hr : r = [84] ∨ r = [78]) :
  Calls Tryz.prog 208 #[.string (bs s),.string (bs [82]),.string (bs r),.int .i64 (-1)] w fun e w' => e = .returned (.string (bs s)) ∧ Below w.heap.size w w':=by
 have HC:=Lib.hid (count_kind s w)
 rw [h0] at HC
 clear h0
 rcases hr with rfl | rfl
 ·go_enter Tryz.func208,Tryz.ntmps208
  go_wp2_with fail
  refine HC.out.mono ?_
  rintro e w1 ⟨rfl,rfl⟩
  go_wp2_with fail
  go_ret
  exact ⟨rfl,Below.refl _ _⟩
 ·go_enter Tryz.func208,Tryz.ntmps208
  go_wp2_with fail
  refine HC.out.mono ?_
  rintro e w1 ⟨rfl,rfl⟩
  go_wp2_with fail
  go_ret
  exact ⟨rfl,Below.refl _ _⟩
theorem Replace_one (r : List UInt8) (w : World) (hr : r = [84] ∨ r = [78]) :
  Calls Tryz.prog 208 #[.string (bs [82]),.string (bs [82]),.string (bs r),.int .i64 (-1)] w fun e w' => e = .returned (.string (bs r)) ∧ Below w.heap.size w w':=by
 have HC:=Lib.hid (count_kind [82] w)
 rw [show Lib.countByte [82] 82 = 1 from rfl] at HC
 have HI:=Lib.hid (fun w => index_kind [82] w)
 have hl : r.length = 1:=by rcases hr with rfl | rfl <;> rfl
 have hne : ((82 : UInt8) :: [] == r) = false:=by rcases hr with rfl | rfl <;> rfl
 have hl1 : (r.length : Int) = 1:=by omega
 clear hr
 go_enter Tryz.func208,Tryz.ntmps208
 go_wp2_with fail
 refine HC.out.mono ?_
 rintro e w1 ⟨rfl,rfl⟩
 go_wp2_with fail
 refine (grow_kind w1.heap.size w1.heap.size _ (Nat.le_refl _) (World.alloc_heap_new w1 _) (by simp)).mono ?_
 rintro e w2 ⟨rfl,hb2,hB2⟩
 have HB2:=Lib.hid hb2
 have HW2:=Lib.hid ((b_alloc w1 _).trans hB2)
 clear hb2 hB2
 have hs0 : ∀ wx,(Instr.slice 9 (.string (bs [82])) (some (.int .i64 0)) none none).run Tryz.prog wx = .ok (.string (bs [82])) wx:=by intro wx; kernel_rfl
 have hs1 : ∀ wx,(Instr.slice 9 (.string (bs [82])) (some (.int .i64 0)) (some (.int .i64 0)) none).run Tryz.prog wx = .ok (.string (bs [])) wx:=by intro wx; kernel_rfl
 have hs2 : ∀ wx,(Instr.slice 9 (.string (bs [82])) (some (.int .i64 1)) none none).run Tryz.prog wx = .ok (.string (bs [])) wx:=by intro wx; kernel_rfl
 have H0:=Lib.hid hs0
 have H1:=Lib.hid hs1
 have H2:=Lib.hid hs2
 clear hs0 hs1 hs2
 go_wp2
 go_loopw [11,53] (fun t11 t53 wr => (t11 = .int .i64 0 ∧ t53 = .int .i64 0 ∧ Hid (Bld w1.heap.size w1.heap.size [] wr) ∧ Hid (Below w1.heap.size w1 wr)) ∨ (t11 = .int .i64 1 ∧ t53 = .int .i64 1 ∧ Hid (Bld w1.heap.size w1.heap.size r wr) ∧ Hid (Below w1.heap.size w1 wr))) (fun _ t53 _ => 1 - (intOf t53).toNat)
 case atStart => exact .inl ⟨rfl,rfl,HB2.out,HW2.out⟩
 case round =>
  rcases hrel with ⟨rfl,rfl,HB,HW⟩ | ⟨rfl,rfl,HB,HW⟩
  ·have hs0:=H0.out
   go_wp2_with fail
   refine (HI.out _).mono ?_
   rw [show Lib.indexByte [82] 82 = 0 from rfl]
   rintro e w3 ⟨rfl,rfl⟩
   have hs1:=H1.out
   clear hs0
   go_wp2_with fail
   refine (WriteString_any _ _ [] [] _ HB.out (by decide)).mono ?_
   rintro e w4 ⟨rfl,hb4,hB4⟩
   have HB4:=Lib.hid hb4
   have HW4:=Lib.hid (HW.out.trans hB4)
   clear hb4 hB4 hs1
   go_wp2_with fail
   refine (WriteString_any _ _ [] r _ HB4.out (by simp; omega)).mono ?_
   rintro e w5 ⟨rfl,hb5,hB5⟩
   have HB5:=Lib.hid hb5
   have HW5:=Lib.hid (HW4.out.trans hB5)
   clear hb5 hB5
   go_wp2
   exact ⟨.inr ⟨rfl,rfl,HB5.out,HW5.out⟩,by simp [intOf]⟩
  ·have hs2:=H2.out
   go_wp2_with fail
   refine (WriteString_any _ _ r [] _ HB.out (by simp; omega)).mono ?_
   rintro e w4 ⟨rfl,hb4,hB4⟩
   rw [List.append_nil] at hb4
   have HB4:=Lib.hid hb4
   have HW4:=Lib.hid (HW.out.trans hB4)
   clear hb4 hB4 hs2
   go_wp2_with fail
   refine (BString_any _ _ r _ HB4.out).mono ?_
   rintro e w5 ⟨rfl,hB5⟩
   go_wp2_with fail
   go_ret
   exact ⟨rfl,HW4.out.trans hB5⟩
theorem ReplaceAll_any (s r : List UInt8) (w : World) (hs : Lib.countByte s 82 = 0 ∨ s = [82]) (hr : r = [84] ∨ r = [78]) :
  Calls Tryz.prog 197 #[.string (bs s),.string (bs [82]),.string (bs r)] w fun e w' => e = .returned (.string (bs (replV s r))) ∧ Below w.heap.size w w':=by
 rcases hs with hs | rfl
 ·have hne : s ≠ [82]:=by rintro rfl; exact absurd hs (by decide)
  have HR:=Lib.hid (Replace_no s r w hs hr)
  have HE:=Lib.hid (show replV s r = s by unfold replV; rw [if_neg hne])
  clear hs hr hne
  go_enter Tryz.func197,Tryz.ntmps197
  go_wp2_with fail
  refine HR.out.mono ?_
  rintro e w1 ⟨rfl,hB⟩
  go_wp2_with fail
  go_ret
  exact ⟨by rw [HE.out]; rfl,hB⟩
 ·have HR:=Lib.hid (Replace_one r w hr)
  clear hr
  go_enter Tryz.func197,Tryz.ntmps197
  go_wp2_with fail
  refine HR.out.mono ?_
  rintro e w1 ⟨rfl,hB⟩
  go_wp2_with fail
  go_ret
  exact ⟨rfl,hB⟩
end Go.Proofs.YtehllcbnheicoaaGreatDoor
