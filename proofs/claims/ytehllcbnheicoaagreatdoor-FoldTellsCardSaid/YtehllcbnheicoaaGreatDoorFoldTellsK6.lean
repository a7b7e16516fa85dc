/- Lemmas for FoldTells, part 6: walks of the functions that it reaches, and the plain laws behind them. -/
import Derived.OwnWalkIn
import Derived.TacticsInMore
import Derived.LoopNIn
import Derived.LoopIn
import Derived.RangeFuncBox
import Derived.Laws.EntriesVeiled
import Derived.Maps.OwnIn
import Derived.Maps.AppendAt
import Derived.Test.YtehllcbnheicoaaGreatDoorFoldTellsK3
import Derived.Test.YtehllcbnheicoaaGreatDoorFoldTellsK4
import Derived.Test.YtehllcbnheicoaaGreatDoorFoldTellsK5
set_option linter.unusedSimpArgs false
set_option linter.unusedVariables false
set_option maxRecDepth 100000
set_option maxHeartbeats 16000000
namespace Go.Proofs.YtehllcbnheicoaaGreatDoor
open Go.RowKit Oct
def recIns : Rec VI where
 cell x:=[.int .u8 (x.1.toNat : Int),.int .u8 (x.2.toNat : Int)]
 e:=97
 n:=2
 bytes:=2
 z:=.agg #[.int .u8 0,.int .u8 0]
 len:=fun _ => rfl
 one:=by intro x u h; simp at h; rcases h with rfl | rfl <;> rfl
 info:=by kernel_rfl
 zs:=rfl
 pos:=by decide
 bpos:=by decide
def recJ : Rec Int where
 cell x:=[.int .i64 x]
 e:=3
 n:=1
 bytes:=8
 z:=.int .i64 0
 len:=fun _ => rfl
 one:=by intro x u h; simp at h; subst h; rfl
 info:=by kernel_rfl
 zs:=rfl
 pos:=by decide
 bpos:=by decide
def recVb : Rec Vb where
 cell b:=[.int .u8 (b.op.toNat : Int),.string (bs b.want),.string (bs b.opn),.int .i64 (b.at_ : Int),.bool b.did]
 e:=264
 n:=5
 bytes:=56
 z:=.agg #[.int .u8 0,.string ByteArray.empty,.string ByteArray.empty,.int .i64 0,.bool false]
 len:=fun _ => rfl
 one:=by intro x u h; simp at h; rcases h with rfl | rfl | rfl | rfl | rfl <;> rfl
 info:=by kernel_rfl
 zs:=rfl
 pos:=by decide
 bpos:=by decide
section
variable {α : Type} {R : Rec α}
theorem Rec.cells_set (R : Rec α) {j : Nat} (hj : j < R.n) {u : Value} {y : α} : ∀ (l : List α) (k : Nat) (hk : k < l.length),R.cell y = (R.cell l[k]).set j u → (R.cells l).set (k * R.n + j) u = R.cells (l.set k y)
 | x :: l,0,_,hy => by
  simp only [Rec.cells,Nat.zero_mul,Nat.zero_add,List.set_cons_zero]
  rw [List.set_append_left _ _ (by rw [R.len]; exact hj)]
  rw [show R.cell y = (R.cell x).set j u from hy]
 | x :: l,k + 1,hk,hy => by
  simp only [Rec.cells,List.set_cons_succ]
  have hge : R.n ≤ (k + 1) * R.n:=Nat.le_mul_of_pos_left R.n (Nat.succ_pos k)
  rw [List.set_append_right _ _ (by rw [R.len]; omega),R.len]
  rw [show (k + 1) * R.n + j - R.n = k * R.n + j by rw [Nat.add_mul]; omega]
  rw [Rec.cells_set R hj l k (by simpa using hk) hy]
theorem Rec.Own.setCell {w : World} {base g n c : Nat} {l : List α} (h : R.Own w base (.slice (some ⟨g,0,none⟩) n c) l) {k : Nat} (hk : k < l.length) {y : α} {j : Nat} (hj : j < R.n) {u : Value} (hy : R.cell y = (R.cell l[k]).set j u) :
  R.Own (w.setCell ⟨g,k * R.n + j,none⟩ u) base (.slice (some ⟨g,0,none⟩) n c) (l.set k y):=by
 obtain ⟨h1,h2⟩:=h
 refine ⟨by rw [Rec.cells_length],?_⟩
 rcases h2 with ⟨hv,_⟩ | ⟨g',cap,cur,hv,hb,hh,r1,r2,r3,r4⟩
 ·cases hv
 ·cases hv
  have hb2 : Blk w g R.e cur.toList:=by unfold Blk; rw [hh]
  have hs:=hb2.set (k * R.n + j) u
  refine .inr ⟨g,c,(cur.toList.set (k * R.n + j) u).toArray,by rw [List.length_set],hb,hs,by rw [List.length_set]; exact r1,r2,by simpa using r3,?_⟩
  rw [List.length_set]
  simp only [List.toList_toArray]
  rw [List.take_set,r4]
  exact Rec.cells_set R hj l k hk hy
theorem Rec.Own.short {w : World} {base n c : Nat} {a : Option Addr} {l : List α} (h : R.Own w base (.slice a n c) l) (m : Nat) (hm : m ≤ l.length) : R.Own w base (.slice a m c) (l.take m):=by
 obtain ⟨h1,h2⟩:=h
 have hl : (l.take m).length = m:=by rw [List.length_take]; omega
 refine ⟨by rw [Rec.cells_length],?_⟩
 rcases h2 with ⟨hv,h0⟩ | ⟨g',cap,cur,hv,hb,hh,r1,r2,r3,r4⟩
 ·have hz : l.length = 0:=h0
  obtain rfl : m = 0:=by omega
  cases hv
  exact .inl ⟨rfl,hl⟩
 ·cases hv
  refine .inr ⟨g',c,cur,by rw [hl],hb,hh,by rw [hl]; omega,r2,r3,?_⟩
  rw [hl,← R.cells_take,← r4,List.take_take,Nat.min_eq_left (Nat.mul_le_mul_right _ hm)]
end
structure VG (w : World) (base G : Nat) (tv cv : Value) (inp : Nat) (role : UInt8) (s : Vs) (bv sv ev : Value) : Prop where
 blk : Blk w G 215 [tv,cv,.int .i64 (inp : Int),.int .u8 (role.toNat : Int),.string (bs s.kinds),bv,sv,ev,.int .i64 (s.deep : Int)]
 ob : recVb.Own w base bv s.blocks
 os : recS.Own w base sv s.seen
 oe : recJ.Own w base ev s.ends
 gb : base ≤ G
 a1 : ∀ b,bv.ownBlock = some b → b ≠ G ∧ sv.ownBlock ≠ some b ∧ ev.ownBlock ≠ some b
 a2 : ∀ b,sv.ownBlock = some b → b ≠ G ∧ ev.ownBlock ≠ some b
 a3 : ∀ b,ev.ownBlock = some b → b ≠ G
section
variable {w w' : World} {base G : Nat} {tv cv bv sv ev : Value} {inp : Nat} {role : UInt8} {s : Vs}
theorem VG.below (h : VG w base G tv cv inp role s bv sv ev) (hB : Below w.heap.size w w') : VG w' base G tv cv inp role s bv sv ev :=
 ⟨h.blk.below hB,h.ob.below hB,h.os.below hB,h.oe.below hB,h.gb,h.a1,h.a2,h.a3⟩
theorem VG.cell (h : VG w base G tv cv inp role s bv sv ev) {k : Nat} {v : Value} (hv : [tv,cv,.int .i64 (inp : Int),.int .u8 (role.toNat : Int),.string (bs s.kinds),bv,sv,ev,.int .i64 (s.deep : Int)][k]? = some v) : w.cell? ⟨G,k,none⟩ = some v:=h.blk.cell hv
theorem VG.free (h : VG w base G tv cv inp role s bv sv ev) {k : Nat} (hk : k < 9) : w.frozen? ⟨G,k,none⟩ = false:=h.blk.free hk
theorem VG.setG (h : VG w base G tv cv inp role s bv sv ev) (k : Nat) (v : Value) {kinds : List UInt8} {deep : Nat}
  (hs : [tv,cv,.int .i64 (inp : Int),.int .u8 (role.toNat : Int),.string (bs s.kinds),bv,sv,ev,.int .i64 (s.deep : Int)].set k v = [tv,cv,.int .i64 (inp : Int),.int .u8 (role.toNat : Int),.string (bs kinds),bv,sv,ev,.int .i64 (deep : Int)]) :
  VG (w.setCell ⟨G,k,none⟩ v) base G tv cv inp role { s with kinds:=kinds,deep:=deep } bv sv ev ∧ Below base w (w.setCell ⟨G,k,none⟩ v):=by
 have hc : Chg (fun x => x = G) w (w.setCell ⟨G,k,none⟩ v):=Chg.setCell _ _ _ rfl
 have key : ∀ {β : Type} (R : Rec β) (x : Value) (l : List β),R.Own w base x l → (∀ b,x.ownBlock = some b → b ≠ G) → R.Own (w.setCell ⟨G,k,none⟩ v) base x l:=fun R x l ho hn => by
  obtain ⟨h1,h2⟩:=ho
  refine ⟨h1,?_⟩
  rcases h2 with h2 | ⟨g,cap,cur,rfl,hg,hh,r⟩
  ·exact .inl h2
  ·exact .inr ⟨g,cap,cur,rfl,hg,hc.at hh (hn g rfl),r⟩
 have hb:=h.blk.set k v
 rw [hs] at hb
 exact ⟨⟨hb,key _ _ _ h.ob (fun b hb => (h.a1 b hb).1),key _ _ _ h.os (fun b hb => (h.a2 b hb).1),key _ _ _ h.oe h.a3,h.gb,h.a1,h.a2,h.a3⟩,hc.below (fun x hx => by have:=h.gb; omega) (Nat.le_trans h.gb (Nat.le_of_lt h.blk.lt))⟩
theorem VG.kinds (h : VG w base G tv cv inp role s bv sv ev) (k : List UInt8) : VG (w.setCell ⟨G,4,none⟩ (.string (bs k))) base G tv cv inp role { s with kinds:=k } bv sv ev ∧ Below base w (w.setCell ⟨G,4,none⟩ (.string (bs k))):=h.setG 4 _ rfl
theorem VG.deep (h : VG w base G tv cv inp role s bv sv ev) (d : Nat) : VG (w.setCell ⟨G,8,none⟩ (.int .i64 (d : Int))) base G tv cv inp role { s with deep:=d } bv sv ev ∧ Below base w (w.setCell ⟨G,8,none⟩ (.int .i64 (d : Int))):=h.setG 8 _ rfl
end
end Go.Proofs.YtehllcbnheicoaaGreatDoor
namespace Go.Proofs.YtehllcbnheicoaaGreatDoor
open Go.RowKit Oct
theorem wpG_nilV3 {P : Program} {ops : Array Oper} {C : World → Prop} {R : World → World → Prop} {F : Nat → Option (Known R)} {Q : Facts → Act → Prop} {k : Nat} {S : Facts} {a : Act} (h : Q S a) : wpG P ops C R F Q k [] S a:=h
attribute [local irreducible] wpG
section
variable {α : Type} {R : Rec α}
theorem Rec.Own.chgV {X : Nat → Prop} {w w' : World} {base : Nat} {v : Value} {l : List α} (h : R.Own w base v l) (hc : Chg X w w') (hX : ∀ k,v.ownBlock = some k → ¬ X k) : R.Own w' base v l:=by
 obtain ⟨h1,h2⟩:=h
 refine ⟨h1,?_⟩
 rcases h2 with h2 | ⟨g,cap,cur,rfl,hg,hh,r⟩
 ·exact .inl h2
 ·exact .inr ⟨g,cap,cur,rfl,hg,hc.at hh (hX g rfl),r⟩
theorem Rec.Own.ltV {w : World} {base : Nat} {v : Value} {l : List α} (h : R.Own w base v l) : ∀ b,v.ownBlock = some b → base ≤ b ∧ b < w.heap.size:=fun b hb => World.ownsRow.lt h b hb
end
section
variable {w w' w3 : World} {base G : Nat} {tv cv bv sv ev bv' sv' : Value} {inp : Nat} {role : UInt8} {s : Vs}
theorem VG.newB (h : VG w base G tv cv inp role s bv sv ev) {l : List Vb} (hc : Chg (fun k => bv.ownBlock = some k) w w3) (hg : ∀ k,bv'.ownBlock = some k → bv.ownBlock = some k ∨ w.heap.size ≤ k) (ho : recVb.Own w3 base bv' l) :
  VG (w3.setCell ⟨G,5,none⟩ bv') base G tv cv inp role { s with blocks:=l } bv' sv ev ∧ Below base w (w3.setCell ⟨G,5,none⟩ bv'):=by
 have hs : Chg (fun k => k = G) w3 (w3.setCell ⟨G,5,none⟩ bv'):=Chg.setCell _ _ _ rfl
 have hlt:=h.blk.lt
 have nb : ∀ b,bv'.ownBlock = some b → b ≠ G ∧ sv.ownBlock ≠ some b ∧ ev.ownBlock ≠ some b:=fun b hb => by
  rcases hg b hb with e | e
  ·exact h.a1 b e
  ·refine ⟨by omega,fun e2 => ?_,fun e2 => ?_⟩
   ·have:=(h.os.ltV b e2).2; omega
   ·have:=(h.oe.ltV b e2).2; omega
 have hb3 : Blk w3 G 215 _:=h.blk.chg hc (fun e => (h.a1 G e).1 rfl)
 have o1:=(h.os.chgV hc (fun k hk e => (h.a1 k e).2.1 hk)).chgV hs (fun k hk => (h.a2 k hk).1)
 have o2:=(h.oe.chgV hc (fun k hk e => (h.a1 k e).2.2 hk)).chgV hs (fun k hk => h.a3 k hk)
 refine ⟨⟨hb3.set 5 bv',ho.chgV hs (fun k hk => (nb k hk).1),o1,o2,h.gb,nb,h.a2,h.a3⟩,?_⟩
 exact (hc.below (fun k hk => (h.ob.ltV k hk).1) (Nat.le_trans h.gb (Nat.le_of_lt hlt))).trans (hs.below (fun k hk => by have:=h.gb; omega) (by have:=hc.size; have:=h.gb; omega))
theorem VG.newS (h : VG w base G tv cv inp role s bv sv ev) {l : List (List UInt8)} (hc : Chg (fun k => sv.ownBlock = some k) w w3) (hg : ∀ k,sv'.ownBlock = some k → sv.ownBlock = some k ∨ w.heap.size ≤ k) (ho : recS.Own w3 base sv' l) :
  VG (w3.setCell ⟨G,6,none⟩ sv') base G tv cv inp role { s with seen:=l } bv sv' ev ∧ Below base w (w3.setCell ⟨G,6,none⟩ sv'):=by
 have hs : Chg (fun k => k = G) w3 (w3.setCell ⟨G,6,none⟩ sv'):=Chg.setCell _ _ _ rfl
 have hlt:=h.blk.lt
 have nb : ∀ b,sv'.ownBlock = some b → b ≠ G ∧ ev.ownBlock ≠ some b ∧ bv.ownBlock ≠ some b:=fun b hb => by
  rcases hg b hb with e | e
  ·exact ⟨(h.a2 b e).1,(h.a2 b e).2,fun e2 => (h.a1 b e2).2.1 e⟩
  ·refine ⟨by omega,fun e2 => ?_,fun e2 => ?_⟩
   ·have:=(h.oe.ltV b e2).2; omega
   ·have:=(h.ob.ltV b e2).2; omega
 have hb3 : Blk w3 G 215 _:=h.blk.chg hc (fun e => (h.a2 G e).1 rfl)
 have o1:=(h.ob.chgV hc (fun k hk e => (h.a1 k hk).2.1 e)).chgV hs (fun k hk => (h.a1 k hk).1)
 have o2:=(h.oe.chgV hc (fun k hk e => (h.a2 k e).2 hk)).chgV hs (fun k hk => h.a3 k hk)
 refine ⟨⟨hb3.set 6 sv',o1,ho.chgV hs (fun k hk => (nb k hk).1),o2,h.gb,fun b hb => ⟨(h.a1 b hb).1,fun e => (nb b e).2.2 hb,(h.a1 b hb).2.2⟩,fun b hb => ⟨(nb b hb).1,(nb b hb).2.1⟩,h.a3⟩,?_⟩
 exact (hc.below (fun k hk => (h.os.ltV k hk).1) (Nat.le_trans h.gb (Nat.le_of_lt hlt))).trans (hs.below (fun k hk => by have:=h.gb; omega) (by have:=hc.size; have:=h.gb; omega))
theorem VG.chgB (h : VG w base G tv cv inp role s bv sv ev) {l : List Vb} (hc : Chg (fun k => bv.ownBlock = some k) w w') (ho : recVb.Own w' base bv l) : VG w' base G tv cv inp role { s with blocks:=l } bv sv ev ∧ Below base w w' :=
 ⟨⟨h.blk.chg hc (fun e => (h.a1 G e).1 rfl),ho,h.os.chgV hc (fun k hk e => (h.a1 k e).2.1 hk),h.oe.chgV hc (fun k hk e => (h.a1 k e).2.2 hk),h.gb,h.a1,h.a2,h.a3⟩,hc.below (fun k hk => (h.ob.ltV k hk).1) (Nat.le_trans h.gb (Nat.le_of_lt h.blk.lt))⟩
theorem VG.chgE (h : VG w base G tv cv inp role s bv sv ev) {l : List Int} (hc : Chg (fun k => ev.ownBlock = some k) w w') (ho : recJ.Own w' base ev l) : VG w' base G tv cv inp role { s with ends:=l } bv sv ev ∧ Below base w w' :=
 ⟨⟨h.blk.chg hc (fun e => h.a3 G e rfl),h.ob.chgV hc (fun k hk e => (h.a1 k hk).2.2 e),h.os.chgV hc (fun k hk e => (h.a2 k hk).2 e),ho,h.gb,h.a1,h.a2,h.a3⟩,hc.below (fun k hk => (h.oe.ltV k hk).1) (Nat.le_trans h.gb (Nat.le_of_lt h.blk.lt))⟩
theorem VG.slices (h : VG w base G tv cv inp role s bv sv ev) : (∃ ab cb,bv = .slice ab s.blocks.length cb) ∧ (∃ a1 c1,sv = .slice a1 s.seen.length c1) ∧ ∃ ae ce,ev = .slice ae s.ends.length ce:=⟨owns_slice h.ob,owns_slice h.os,owns_slice h.oe⟩
theorem Rec.Own.at0 {α : Type} {R : Rec α} {a : Option Addr} {n c : Nat} {l : List α} (h : R.Own w base (.slice a n c) l) (hl : 0 < l.length) : ∃ g,a = some ⟨g,0,none⟩:=by
 rcases h.2 with ⟨_,h0⟩ | ⟨g,cap,cur,hv,_⟩
 ·have : l.length = 0:=h0
  omega
 ·cases hv; exact ⟨g,rfl⟩
theorem slen_any (h : VG w base G tv cv inp role s bv sv ev) :
  Calls Tryz.prog 178 #[.pointer (some ⟨G,5,none⟩)] w fun e w' => e = .returned (.int .i64 (s.blocks.length : Int)) ∧ w' = w:=by
 obtain ⟨⟨ab,cb,rfl⟩,_,_⟩:=h.slices
 have c5:=h.cell (k:=5) rfl
 clear h
 go_enter Tryz.func178,Tryz.ntmps178
 go_wp2
 go_ret
 exact ⟨rfl,rfl⟩
theorem stop_any (h : VG w base G tv cv inp role s bv sv ev) (hl : s.blocks.length ≤ 1000) :
  Calls Tryz.prog 196 #[.pointer (some ⟨G,5,none⟩)] w fun e w' => ((s.blocks = [] ∧ e = .returned (.pointer none)) ∨ ∃ g c m,bv = .slice (some ⟨g,0,none⟩) s.blocks.length c ∧ s.blocks.length = m + 1 ∧ e = .returned (.pointer (some ⟨g,m * 5,none⟩))) ∧ Below w.heap.size w w':=by
 obtain ⟨⟨ab,cb,rfl⟩,_,_⟩:=h.slices
 have c5:=h.cell (k:=5) rfl
 rcases Nat.eq_zero_or_pos s.blocks.length with h0 | h0
 ·have hb0 : s.blocks = []:=List.eq_nil_of_length_eq_zero h0
  have h1 : ((s.blocks.length : Int) == 0) = true:=by rw [beq_iff_eq]; omega
  have HB:=Lib.hid hb0
  clear h h0 hb0
  go_enter Tryz.func196,Tryz.ntmps196
  go_wp2
  go_ret
  exact ⟨.inl ⟨HB.out,rfl⟩,Below.refl _ _⟩
 ·obtain ⟨g,rfl⟩:=h.ob.at0 h0
  have h1 : ((s.blocks.length : Int) == 0) = false:=by rw [beq_eq_false_iff_ne]; omega
  obtain ⟨m,hm⟩ : ∃ m,s.blocks.length = m + 1:=⟨s.blocks.length - 1,by omega⟩
  have hm1 : (s.blocks.length : Int) - 1 = (m : Int):=by omega
  have hm2 : (m : Int) < (s.blocks.length : Int):=by omega
  have hm3 : (0 : Int) ≤ (m : Int):=by omega
  have hm4 : (s.blocks.length : Int) ≤ 1000:=by omega
  have HM:=Lib.hid hm
  clear h h0 hm
  go_enter Tryz.func196,Tryz.ntmps196
  go_wp2
  refine region_known [(3,.exact _ (.slice (some ⟨g,0,none⟩) s.blocks.length cb)),(7,.exact _ (.slice (some ⟨g,0,none⟩) s.blocks.length cb))] (by kernel_rfl) (by kernel_rfl) ?_
  (repeat (first | (refine wpG_skip (by kernel_rfl) (fun K hK => ?_); go_big_quiet_skip; refine wpQuiet_nil (hK _ ?_); clear hK K) | (refine wpG_quiet (by rfl) (by rfl) (fun K hK => ?_); go_big_quiet_want; go_big_quiet_op; go_big_quiet_on; refine wpQuiet_nil (hK _ ?_); clear hK K) | (refine wpG_nilOk rfl rfl rfl (by kernel_rfl) (fun K hK => ?_); go_simp; refine hK _ ?_; clear hK K)))
  refine wpG_exact rfl (by kernel_rfl) (fun w' G hB hS hG => ?_) (fun K hK => ?_)
  ·have y:=Below.keeps hB c5
   go_simp; exact hG _ (Bel.refl _)
  go_simp; refine hK _ ?_; clear hK K; (repeat (first | (refine wpG_skip (by kernel_rfl) (fun K hK => ?_); go_big_quiet_skip; refine wpQuiet_nil (hK _ ?_); clear hK K) | (refine wpG_quiet (by rfl) (by rfl) (fun K hK => ?_); go_big_quiet_want; go_big_quiet_op; go_big_quiet_on; refine wpQuiet_nil (hK _ ?_); clear hK K) | (refine wpG_nilOk rfl rfl rfl (by kernel_rfl) (fun K hK => ?_); go_simp; refine hK _ ?_; clear hK K)))
  refine wpG_exact rfl (by kernel_rfl) (fun w' G hB hS hG => ?_) (fun K hK => ?_)
  ·have y:=Below.keeps hB c5
   go_simp; exact hG _ (Bel.refl _)
  go_simp; refine hK _ ?_; clear hK K; (repeat (first | (refine wpG_skip (by kernel_rfl) (fun K hK => ?_); go_big_quiet_skip; refine wpQuiet_nil (hK _ ?_); clear hK K) | (refine wpG_quiet (by rfl) (by rfl) (fun K hK => ?_); go_big_quiet_want; go_big_quiet_op; go_big_quiet_on; refine wpQuiet_nil (hK _ ?_); clear hK K) | (refine wpG_nilOk rfl rfl rfl (by kernel_rfl) (fun K hK => ?_); go_simp; refine hK _ ?_; clear hK K)))
  refine wpG_nilV3 ?_
  intro w' hB hA
  go_wp2
  go_ret
  exact ⟨.inr ⟨g,cb,m,rfl,HM.out,by simp⟩,hB⟩
end
end Go.Proofs.YtehllcbnheicoaaGreatDoor
namespace Go.Proofs.YtehllcbnheicoaaGreatDoor
open Go.RowKit
section
variable {P : Program}
theorem ownsRow_chg {X : Nat → Prop} {w w' : World} {base : Nat} {e : TypeId} {size : Nat} {v : Value} {n : Nat} {xs : List Value} (h : w.ownsRow base e size v n xs) (hc : Chg X w w') (hX : ∀ k,base ≤ k → ¬ X k) : w'.ownsRow base e size v n xs:=by
 obtain ⟨h1,h2⟩:=h
 refine ⟨h1,?_⟩
 rcases h2 with h2 | ⟨g,cap,cur,hv,hg,hh,r⟩
 ·exact .inl h2
 ·exact .inr ⟨g,cap,cur,hv,hg,hc.at hh (hX g hg),r⟩
theorem append1In {F : Fence} {k : Nat} {ops : Array Oper} {rest : List Oper} {o : Oper} {a : Act} {Q : Exit → Act → World → Prop} (wr : World) (news : List Value) (e : TypeId) (hgd : o.guard = none) (s x : Operand) (t : TypeId)
  (ho : o.op = .call { callee:=.builtin .append,args:=#[s,x],argTypes:=#[t,t] })
  (base : Nat) (z : Value) (size bytes : Nat) (ht : P.underlying t = some (.slice e)) (hinfo : (P.info? e).map (fun i => (i.zero,i.size,i.bytes)) = some (some z,size,bytes))
  (hzs : z.cells.size = size) (hsz : 0 < size) (v : Value) (n : Nat) (xs : List Value) (hs : a.eval s = v) (hown : wr.ownsRow base e size v n xs)
  (c : Nat) (hx : a.eval x = .slice (some ⟨wr.heap.size,0,none⟩) 1 c) (hl : news.length = size) (h1 : ∀ u ∈ news,u.oneCell' = true)
  (hbytes : (n + 1) * bytes ≤ 140737488355328) (hby : 0 < bytes) (hbase : base ≤ wr.heap.size)
  (h : ∀ g cap w',w'.ownsRow base e size (.slice (some ⟨g,0,none⟩) (n + 1) cap) (n + 1) (xs ++ news) → Below base wr w' → wpListIn F k P ops Q rest (a.put o.dst (.slice (some ⟨g,0,none⟩) (n + 1) cap)) w') : wpListIn F k P ops Q (o :: rest) a (wr.alloc (.cells news.toArray e)):=by
 obtain ⟨i,hi,hz,hi1,hi2⟩:=info_parts hinfo
 have hn : n + 1 ≤ (n + 1) * bytes:=Nat.le_mul_of_pos_right _ hby
 refine wpListIn_append_own _ hgd s x t ho base e i z size bytes ht hi hz hi1 hi2 hzs hsz v n xs hs (hown.alloc _) ⟨wr.heap.size,0,none⟩ 1 c news hx (by simpa using hl) ?_ h1 (by unfold maxLen; omega) hbytes (by simp; omega) ?_
 ·intro j u hj
  have : j < news.length:=by
   rcases Nat.lt_or_ge j news.length with h | h
   ·exact h
   ·simp [List.getElem?_eq_none h] at hj
  rw [Addr.add_lit,Nat.zero_add,World.cell?_alloc_new]
  simpa using hj
 ·intro v' w' h2 h3 _
  obtain ⟨g,cap,rfl⟩:=ownsRow_succ h2
  refine h g cap w' h2 (((Below.refl base wr).alloc hbase _).grown h3 (by simp; omega) ?_)
  intro k hk
  exact (hown.lt k hk).1
def BoxRow (s base : Nat) (t e : TypeId) (size : Nat) (U : World) (n : Nat) (cells : List Value) : Prop:=∃ v,U.heap[s]? = some (.cells #[v] t (0,0)) ∧ U.ownsRow base e size v n cells
theorem BoxRow.chg {s base : Nat} {t e : TypeId} {size : Nat} {U U' : World} {n : Nat} {cells : List Value} {X : Nat → Prop} (h : BoxRow s base t e size U n cells) (hc : Chg X U U') (hX : ∀ k,X k → k ≠ s ∧ k < base) : BoxRow s base t e size U' n cells:=by
 obtain ⟨v,h1,h2⟩:=h
 exact ⟨v,hc.at h1 fun hx => (hX s hx).1 rfl,ownsRow_chg h2 hc fun k hk hx => by have:=(hX k hx).2; omega⟩
theorem BoxRow.stored {s base g cap : Nat} {t e : TypeId} {size : Nat} {U W : World} {v : Value} {n : Nat} {cells : List Value} (hsb : s < base) (hs : U.heap[s]? = some (.cells #[v] t (0,0))) (hB : Below base U W) (hown : W.ownsRow base e size (.slice (some ⟨g,0,none⟩) n cap) n cells) :
  BoxRow s base t e size (W.setCell ⟨s,0,none⟩ (.slice (some ⟨g,0,none⟩) n cap)) n cells ∧ Chg (fun k => k = s ∨ base ≤ k) U (W.setCell ⟨s,0,none⟩ (.slice (some ⟨g,0,none⟩) n cap)) :=
 ⟨⟨_,one_setCell (v:=v) ((hB.block s hsb).trans hs),ownsRow_setCell_below hown hsb _⟩,(Chg.of_base hB fun k hk => .inr hk).trans (Chg.setCell _ _ _ (.inl rfl))⟩
def kReads (n : Nat) (cells : List Value) : Known Bel:=⟨Option Addr × Nat,fun x => .slice x.1 n x.2,fun x => some fun w => Reads w (.slice x.1 n x.2) n cells,fun _ _ h _ _ hφ hB => by cases h; exact Reads.below hφ hB⟩
@[go_sem] theorem kReads_val (n : Nat) (cells : List Value) (a : Option Addr) (c : Nat) : (kReads n cells).val (a,c) = .slice a n c:=rfl
theorem calls_of_wp_marks {f : FuncId} {fn : Func} {c : Code} {args : Array Value} {w : World} {R : Ending → World → Prop} (hf : P.funcs[f]? = some fn) (hb : fn.body = some c)
  (h : c.wp P (bodyPostM Fence.wide 1 P fn R) { tmps:=args ++ Array.replicate (fn.ntmps - args.size) undef,defers:=[] } w) : Calls P f args w R :=
 (callsIn_wide (n:=1)).1 (callsIn_of_wp_marks (F:=Fence.wide) hf hb trivial (wpIn_wide.2 h))
theorem marks_ret {fn : Func} {R : Ending → World → Prop} {a : Act} {w : World} {D : Nat} {v : Value} (hd : a.defers = [{ target:=.collected D,args:=#[] }]) (hK : w.heap[D]? = some (.deferred (some [])))
  (hr : (results fn a.tmps).run P (w.putObj D (.deferred none)) = .ok v (w.putObj D (.deferred none))) (hR : R (.returned v) (w.putObj D (.deferred none))) : bodyPostM Fence.wide 1 P fn R .ret a w:=by
 unfold bodyPostM
 simp only [hd]
 exact ⟨by simp,.inl ⟨_,_,rfl,run_takeDeferred hK,v,hr,hR⟩⟩
theorem marks_none {fn : Func} {R : Ending → World → Prop} {a : Act} {w : World} {v : Value} (hd : a.defers = []) (hr : (results fn a.tmps).run P w = .ok v w) (hR : R (.returned v) w) : bodyPostM Fence.wide 1 P fn R .ret a w:=by
 unfold bodyPostM
 simp only [hd]
 exact ⟨v,hr,hR⟩
end
end Go.Proofs.YtehllcbnheicoaaGreatDoor
namespace Go.Proofs.YtehllcbnheicoaaGreatDoor
open Go.RowKit Oct
attribute [local irreducible] wpG
theorem Rec.append1V {α : Type} {ops : Array Oper} {rest : List Oper} {o : Oper} {a : Act} {Q : Exit → Act → World → Prop} (R : Rec α) (w : World) (p : α) (hgd : o.guard = none) (s x : Operand) (t : TypeId)
  (ho : o.op = .call { callee:=.builtin .append,args:=#[s,x],argTypes:=#[t,t] }) (ht : Tryz.prog.underlying t = some (.slice R.e))
  (base : Nat) (v : Value) (xs : List α) (hown : R.Own w base v xs) (hs : a.eval s = v) (vx : Value) (hx : a.eval x = vx) (hr : Reads w vx 1 (R.cell p))
  (hbytes : (xs.length + 1) * R.bytes ≤ 140737488355328) (hbase : base ≤ w.heap.size)
  (h : ∀ g cap w',R.Own w' base (.slice (some ⟨g,0,none⟩) (xs.length + 1) cap) (xs ++ [p]) → Chg (fun k => v.ownBlock = some k) w w' → (v.ownBlock = some g ∨ w.heap.size ≤ g) →
   wpList Tryz.prog ops Q rest (a.put o.dst (.slice (some ⟨g,0,none⟩) (xs.length + 1) cap)) w') : wpList Tryz.prog ops Q (o :: rest) a w:=by
 obtain ⟨i,hi,hz,hi1,hi2⟩:=info_parts R.info
 have hn : xs.length + 1 ≤ (xs.length + 1) * R.bytes:=Nat.le_mul_of_pos_right _ R.bpos
 obtain ⟨ax,c,rfl,hnone,hc⟩:=hr
 cases ax with
 | none => have:=(hnone rfl).1; omega
 | some ad =>
  refine wpList_append_lies _ hgd s x t ho base R.e i R.z R.n R.bytes ht hi hz hi1 hi2 R.zs R.pos v xs.length (R.cells xs) hs hown ad 1 c (R.cell p) hx (by simpa using R.len p) ?_ (R.one p) (by decide) (by unfold maxLen; omega) hbytes hbase _ rfl ?_
  ·intro j u hj
   obtain ⟨b,off,ha,hu⟩:=hc j u hj
   cases ha
   rw [Addr.add_lit]; exact hu
  ·intro g cap w' h2 h3 h4 h5
   have hB : Below base w w':=(Below.refl base w).grown h3 hbase (fun k hk => (Rec.Own.ltV hown k hk).1)
   refine h g cap w' ?_ ⟨hB.os,hB.tape,hB.output,hB.size,fun j hj hne => h3.block j hj (fun e => hne e.symm)⟩ ?_
   ·unfold Rec.Own; rw [R.cells_append,List.length_append,Rec.cells,Rec.cells,List.append_nil]; exact h2
   ·rcases h4 with h4 | h4
    ·exact .inl h4
    ·exact .inr (by omega)
theorem Rec.step_append1V {α : Type} {ops : Array Oper} {o : Oper} {a : Act} {K : Act → World → Prop} {Q : Exit → Act → World → Prop} {E : Prop} (R : Rec α) (wr : World) (p : α) (hgd : o.guard = none) (s x : Operand) (t : TypeId)
  (ho : o.op = .call { callee:=.builtin .append,args:=#[s,x],argTypes:=#[t,t] }) (ht : Tryz.prog.underlying t = some (.slice R.e))
  (base : Nat) (v : Value) (xs : List α) (hs : a.eval s = v) (hown : R.Own wr base v xs) (c : Nat) (hx : a.eval x = .slice (some ⟨wr.heap.size,0,none⟩) 1 c)
  (cs : Array Value) (hcs : cs = (R.cell p).toArray) (e : TypeId) (he : e = R.e)
  (hbytes : (xs.length + 1) * R.bytes ≤ 140737488355328) (hbase : base ≤ wr.heap.size)
  (h : ∀ g cap w',R.Own w' base (.slice (some ⟨g,0,none⟩) (xs.length + 1) cap) (xs ++ [p]) → Chg (fun k => v.ownBlock = some k) wr w' → (v.ownBlock = some g ∨ wr.heap.size ≤ g) → K (a.put o.dst (.slice (some ⟨g,0,none⟩) (xs.length + 1) cap)) w') :
  if Region.wanted o (yielded ops a.tmps) = true then Oper.wp Tryz.prog o a (wr.alloc (.cells cs e)) K Q else E:=by
 subst hcs he
 obtain ⟨i,hi,hz,hi1,hi2⟩:=info_parts R.info
 have hn : xs.length + 1 ≤ (xs.length + 1) * R.bytes:=Nat.le_mul_of_pos_right _ R.bpos
 refine step_append_lies _ hgd s x t ho base R.e i R.z R.n R.bytes ht hi hz hi1 hi2 R.zs R.pos v xs.length (R.cells xs) hs (World.ownsRow.alloc hown _) ⟨wr.heap.size,0,none⟩ 1 c (R.cell p) hx (by simpa using R.len p) ?_ (R.one p) (by decide) (by unfold maxLen; omega) hbytes (by simp; omega) _ rfl ?_
 ·intro j u hj
  have : j < (R.cell p).length:=by
   rcases Nat.lt_or_ge j (R.cell p).length with h | h
   ·exact h
   ·simp [List.getElem?_eq_none h] at hj
  rw [Addr.add_lit,Nat.zero_add,World.cell?_alloc_new]
  simpa using hj
 ·intro g cap w' h2 h3 h4 h5
  have hB : Below base wr w':=((Below.refl base wr).alloc hbase _).grown h3 (by simp; omega) (fun k hk => (Rec.Own.ltV hown k hk).1)
  refine h g cap w' ?_ ⟨hB.os,hB.tape,hB.output,hB.size,fun j hj hne => ?_⟩ ?_
  ·unfold Rec.Own; rw [R.cells_append,List.length_append,Rec.cells,Rec.cells,List.append_nil]; exact h2
  ·rw [h3.block j (by simp; omega) (fun e => hne e.symm)]
   exact Below.heap_alloc _ _ _ hj
  ·rcases h4 with h4 | h4
   ·exact .inl h4
   ·exact .inr (by simp at h4; omega)
theorem Rec.Own.shortRun {α : Type} {R : Rec α} {w : World} {base g c : Nat} {l : List α} (h : R.Own w base (.slice (some ⟨g,0,none⟩) l.length c) l) (st : TypeId) (hst : Tryz.prog.underlying st = some (.slice (Tryz.prog.elem st))) (hsz : ∀ wx,(sizeOf (Tryz.prog.elem st)).run Tryz.prog wx = .ok R.n wx) (k : Nat) (hk : k ≤ l.length) :
  ∀ wx,(Instr.slice st (.slice (some ⟨g,0,none⟩) l.length c) none (some (.int .i64 (k : Int))) none).run Tryz.prog wx = .ok (.slice (some ⟨g,0,none⟩) k c) wx:=by
 intro wx
 obtain ⟨_,a',cap',hv,hle⟩:=id h.row
 injection hv with _ _ h3
 subst h3
 have hr:=run_slice_h wx st (some ⟨g,0,none⟩) l.length c hst .i64 k (by omega) (by omega)
 rw [hsz] at hr
 rw [hr]
 simp only [Result.andThen,sliced]
 split <;> simp [Addr.add]
def vbV (b : Vb) : Value:=.agg #[.int .u8 (b.op.toNat : Int),.string (bs b.want),.string (bs b.opn),.int .i64 (b.at_ : Int),.bool b.did]
section
variable {w w' w3 : World} {base G : Nat} {tv cv bv sv ev bv' sv' : Value} {inp : Nat} {role : UInt8} {s : Vs}
theorem spush_any (b : Vb) (h : VG w base G tv cv inp role s bv sv ev) (hl : s.blocks.length ≤ 1000) :
  Calls Tryz.prog 198 #[.pointer (some ⟨G,5,none⟩),vbV b] w fun e w' => (∃ v,e = .returned v) ∧ (∃ bv',VG w' base G tv cv inp role { s with blocks:=s.blocks ++ [b] } bv' sv ev) ∧ Below base w w':=by
 obtain ⟨⟨ab,cb,rfl⟩,_,_⟩:=h.slices
 have HH:=Lib.hid h
 obtain ⟨W1,hW1⟩ : ∃ W1,W1 = w.alloc (.cells #[.int .u8 (b.op.toNat : Int),.string (bs b.want),.string (bs b.opn),.int .i64 (b.at_ : Int),.bool b.did] 264):=⟨_,rfl⟩
 have hb1 : Below w.heap.size w W1:=by rw [hW1]; exact b_alloc _ _
 have hx : Blk W1 w.heap.size 264 [.int .u8 (b.op.toNat : Int),.string (bs b.want),.string (bs b.opn),.int .i64 (b.at_ : Int),.bool b.did]:=by rw [hW1]; exact Blk.new w _ _
 have h1:=h.below hb1
 have c5:=h1.cell (k:=5) rfl
 have x0:=hx.cell (k:=0) rfl
 have x1:=hx.cell (k:=1) rfl
 have x2:=hx.cell (k:=2) rfl
 have x3:=hx.cell (k:=3) rfl
 have x4:=hx.cell (k:=4) rfl
 have H1:=Lib.hid h1
 have HB1:=Lib.hid hb1
 clear h h1 hx hb1
 unfold vbV
 go_enter Tryz.func198,Tryz.ntmps198
 go_upto_region 1 with fail
 rw [← hW1]
 clear hW1
 have h1d:=H1.out.below (b_drew W1)
 have hgb : base ≤ W1.drew.heap.size:=Nat.le_trans h1d.gb (Nat.le_of_lt h1d.blk.lt)
 have hby : (s.blocks.length + 1) * 56 ≤ 140737488355328:=by omega
 have H1D:=Lib.hid h1d
 have hod:=h1d.ob
 have hGl : G < W1.heap.size:=H1.out.blk.lt
 have hwl : w.heap.size < W1.heap.size:=lt_of_cell x0
 clear h1d
 go_region_law (refine recVb.step_append1V W1.drew b rfl _ _ 211 rfl Tryz.underlying211 base (.slice ab s.blocks.length cb) s.blocks rfl hod _ rfl _ rfl _ rfl hby hgb ?_; intro g gc w3 hown3 hc3 hg3; have hn:=H1D.out.newB (bv':=.slice (some ⟨g,0,none⟩) (s.blocks.length + 1) gc) hc3 (fun k hk => by cases hk; exact hg3) hown3; have hb3 : Blk w3 G 215 _:=H1D.out.blk.chg hc3 (fun e => (H1D.out.a1 G e).1 rfl); have f5:=hb3.free (k:=5) (by simp); have c5':=hb3.cell (k:=5) rfl; have HN:=Lib.hid hn; clear hn hb3 hown3 hc3 hg3)
 all_goals
  refine bodyPost_end (results_none rfl _ _ _) rfl ?_
  exact ⟨⟨_,rfl⟩,⟨_,HN.out.1⟩,((bt HB1.out (b_drew W1)).mono (Nat.le_trans HH.out.gb (Nat.le_of_lt HH.out.blk.lt))).trans HN.out.2⟩
theorem spop_any (h : VG w base G tv cv inp role s bv sv ev) (hl : s.blocks.length ≤ 1000) (h0 : 0 < s.blocks.length) :
  Calls Tryz.prog 199 #[.pointer (some ⟨G,5,none⟩)] w fun e w' => (∃ v,e = .returned v) ∧ (∃ bv',VG w' base G tv cv inp role { s with blocks:=s.blocks.dropLast } bv' sv ev) ∧ Below base w w':=by
 obtain ⟨⟨ab,cb,rfl⟩,_,_⟩:=h.slices
 obtain ⟨m,hm⟩ : ∃ m,s.blocks.length = m + 1:=⟨s.blocks.length - 1,by omega⟩
 have hm1 : (s.blocks.length : Int) - 1 = (m : Int):=by omega
 have hm2 : (m : Int) < (s.blocks.length : Int):=by omega
 have hm3 : (0 : Int) ≤ (m : Int):=by omega
 have hm4 : (s.blocks.length : Int) ≤ 1000:=by omega
 have hd : s.blocks.dropLast = s.blocks.take m:=by rw [List.dropLast_eq_take]; congr 1; omega
 have HD:=Lib.hid hd
 have HM:=Lib.hid hm
 have c5:=h.cell (k:=5) rfl
 have HH:=Lib.hid h
 obtain ⟨g,rfl⟩:=h.ob.at0 h0
 have hrun:=h.ob.shortRun 211 Tryz.underlying211 (by intro wx; kernel_rfl) m (by omega)
 clear h h0 hd hm
 go_enter Tryz.func199,Tryz.ntmps199
 go_wp2
 refine region_tail 12 [(4,.exact _ (.slice (some ⟨g,0,none⟩) s.blocks.length cb)),(8,.exact _ (.slice (some ⟨g,0,none⟩) s.blocks.length cb))] (by kernel_rfl) (by kernel_rfl) ?_
 simp only [List.take_succ_cons,List.take_zero,List.drop_succ_cons,List.drop_zero]
 (repeat (first | (refine wpG_skip (by kernel_rfl) (fun K hK => ?_); go_big_quiet_skip; refine wpQuiet_nil (hK _ ?_); clear hK K) | (refine wpG_quiet (by rfl) (by rfl) (fun K hK => ?_); go_big_quiet_want; go_big_quiet_op; go_big_quiet_on; refine wpQuiet_nil (hK _ ?_); clear hK K) | (refine wpG_nilOk rfl rfl rfl (by kernel_rfl) (fun K hK => ?_); go_simp; refine hK _ ?_; clear hK K)))
 refine wpG_exact rfl (by kernel_rfl) (fun w' G hB hS hG => ?_) (fun K hK => ?_)
 ·have y:=Below.keeps hB c5
  go_simp; exact hG _ (Bel.refl _)
 go_simp; refine hK _ ?_; clear hK K; (repeat (first | (refine wpG_skip (by kernel_rfl) (fun K hK => ?_); go_big_quiet_skip; refine wpQuiet_nil (hK _ ?_); clear hK K) | (refine wpG_quiet (by rfl) (by rfl) (fun K hK => ?_); go_big_quiet_want; go_big_quiet_op; go_big_quiet_on; refine wpQuiet_nil (hK _ ?_); clear hK K) | (refine wpG_nilOk rfl rfl rfl (by kernel_rfl) (fun K hK => ?_); go_simp; refine hK _ ?_; clear hK K)))
 refine wpG_exact rfl (by kernel_rfl) (fun w' G hB hS hG => ?_) (fun K hK => ?_)
 ·have y:=Below.keeps hB c5
  go_simp; exact hG _ (Bel.refl _)
 go_simp; refine hK _ ?_; clear hK K; (repeat (first | (refine wpG_skip (by kernel_rfl) (fun K hK => ?_); go_big_quiet_skip; refine wpQuiet_nil (hK _ ?_); clear hK K) | (refine wpG_quiet (by rfl) (by rfl) (fun K hK => ?_); go_big_quiet_want; go_big_quiet_op; go_big_quiet_on; refine wpQuiet_nil (hK _ ?_); clear hK K) | (refine wpG_nilOk rfl rfl rfl (by kernel_rfl) (fun K hK => ?_); go_simp; refine hK _ ?_; clear hK K)))
 refine wpG_nilV3 ?_
 intro w5 hB5 hA5
 have h5:=HH.out.below hB5
 have f5:=h5.free (k:=5) (by decide)
 have c5':=h5.cell (k:=5) rfl
 have hn:=h5.newB (bv':=.slice (some ⟨g,0,none⟩) m cb) (l:=s.blocks.take m) (Chg.refl _ _) (fun k hk => by cases hk; exact .inl rfl) (h5.ob.short m (by have:=HM.out; omega))
 have HN:=Lib.hid hn
 have HB5:=Lib.hid hB5
 clear hB5 hA5 h5 hn c5
 go_wp2
 refine bodyPost_end (results_none rfl _ _ _) rfl ?_
 rw [HD.out]
 exact ⟨⟨_,rfl⟩,⟨_,HN.out.1⟩,(HB5.out.mono (Nat.le_trans HH.out.gb (Nat.le_of_lt HH.out.blk.lt))).trans HN.out.2⟩
end
end Go.Proofs.YtehllcbnheicoaaGreatDoor
