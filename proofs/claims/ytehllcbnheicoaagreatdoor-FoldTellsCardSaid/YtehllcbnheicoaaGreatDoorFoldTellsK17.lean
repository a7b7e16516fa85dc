/- Lemmas for FoldTells, part 17: walks of the functions that it reaches, and the plain laws behind them. -/
import Derived.Test.YtehllcbnheicoaaGreatDoorFoldTellsK7
import Derived.Test.YtehllcbnheicoaaGreatDoorFoldTellsK16
set_option linter.unusedSimpArgs false
set_option linter.unusedVariables false
set_option maxRecDepth 100000
set_option maxHeartbeats 16000000
namespace Go.Proofs.YtehllcbnheicoaaGreatDoor
open Go.RowKit Oct
attribute [local irreducible] wpG
section
variable {α : Type}
def RelA (R : Rec α) (base : Nat) (xs : List α) (p : α) (w w' : World) : Prop :=
 Below base w w' ∧ (∀ v,R.Own w base v xs → R.Own w' base v xs) ∧ (∀ v,R.Own w base v (xs ++ [p]) → R.Own w' base v (xs ++ [p])) ∧
  ∀ b : Nat,w.heap[b]? = some (.cells (R.cell p).toArray R.e (0,0)) → w'.heap[b]? = some (.cells (R.cell p).toArray R.e (0,0))
variable {R : Rec α} {base : Nat} {xs : List α} {p : α}
theorem RelA.refl (w : World) : RelA R base xs p w w:=⟨Below.refl _ _,fun _ h => h,fun _ h => h,fun _ h => h⟩
theorem RelA.of_bel {w w' : World} (hb : base ≤ w.heap.size) (h : Bel w w') : RelA R base xs p w w' :=
 ⟨Below.mono h hb,fun _ ho => ownsRow_below ho h,fun _ ho => ownsRow_below ho h,fun b hh => (h.block b (Array.getElem?_eq_some_iff.1 hh).1).trans hh⟩
def kOwnA (R : Rec α) (base : Nat) (xs : List α) (p : α) : Known (RelA R base xs p) :=
 ⟨Option Addr × Nat,fun x => .slice x.1 xs.length x.2,fun x => some fun w => R.Own w base (.slice x.1 xs.length x.2) xs,fun _ _ h _ _ hφ hB => by cases h; exact hB.2.1 _ hφ⟩
@[go_sem] theorem kOwnA_val (a : Option Addr) (c : Nat) : (kOwnA R base xs p).val (a,c) = .slice a xs.length c:=rfl
def kOwnB (R : Rec α) (base : Nat) (xs : List α) (p : α) : Known (RelA R base xs p) :=
 ⟨Option Addr × Nat,fun x => .slice x.1 (xs.length + 1) x.2,fun x => some fun w => R.Own w base (.slice x.1 (xs.length + 1) x.2) (xs ++ [p]),fun _ _ h _ _ hφ hB => by cases h; exact hB.2.2.1 _ hφ⟩
@[go_sem] theorem kOwnB_val (a : Option Addr) (c : Nat) : (kOwnB R base xs p).val (a,c) = .slice a (xs.length + 1) c:=rfl
def kOneA (R : Rec α) (base : Nat) (xs : List α) (p : α) : Known (RelA R base xs p) :=
 ⟨Nat,fun b => .slice (some ⟨b,0,none⟩) 1 1,fun b => some fun w => w.heap[b]? = some (.cells (R.cell p).toArray R.e (0,0)),fun _ _ h _ _ hφ hB => by cases h; exact hB.2.2.2 _ hφ⟩
@[go_sem] theorem kOneA_val (b : Nat) : (kOneA R base xs p).val b = .slice (some ⟨b,0,none⟩) 1 1:=rfl
theorem own_sameA {w w' : World} {v : Value} {l : List α} (h : R.Own w base v l) (h4 : ∀ k,k < w.heap.size → w'.heap[k]? = w.heap[k]?) : R.Own w' base v l:=own_same h h4
theorem Rec.grow_app1 (R : Rec α) {o : Oper} {a : Act} {w : World} {G : Value → World → Prop} (s x : Operand) (t : TypeId)
  (ho : o.op = .call { callee:=.builtin .append,args:=#[s,x],argTypes:=#[t,t] }) (ht : Tryz.prog.underlying t = some (.slice R.e))
  (base : Nat) (v : Value) (xs : List α) (p : α) (hown : R.Own w base v xs) (hs : a.eval s = v) (b : Nat) (hx : a.eval x = .slice (some ⟨b,0,none⟩) 1 1) (hb : w.heap[b]? = some (.cells (R.cell p).toArray R.e (0,0)))
  (hbytes : (xs.length + 1) * R.bytes ≤ 140737488355328) (hbase : base ≤ w.heap.size)
  (h : ∀ A C w',R.Own w' base (.slice A (xs.length + 1) C) (xs ++ [p]) → RelA R base xs p w w' → G (.slice A (xs.length + 1) C) w') : growAt Tryz.prog o a w G:=by
 obtain ⟨i,hi,hz,hi1,hi2⟩:=info_parts R.info
 have hle : xs.length + 1 ≤ 140737488355328:=by have:=Nat.le_mul_of_pos_right (xs.length + 1) R.bpos; omega
 obtain ⟨v',w',h1,h2,h3,h4⟩:=run_append3 (P:=Tryz.prog) w base t o.type R.e i R.z R.n R.bytes ht hi hz hi1 hi2 R.zs R.pos v xs.length (R.cells xs) hown ⟨b,0,none⟩ 1 1 (R.cell p) (by rw [Nat.one_mul]; exact R.len p) (by
  intro j u hj
  rw [Addr.add_lit,Nat.zero_add]
  simp [World.cell?,hb,hj]) (R.one p) (by unfold maxLen; omega) hbytes hbase
 have h2' : R.Own w' base v' (xs ++ [p]):=by
  unfold Rec.Own
  rw [R.cells_append,List.length_append,Rec.cells,Rec.cells,List.append_nil]
  exact h2
 have key : ∀ (l : List α),(l = xs ∨ l = xs ++ [p]) → ∀ u,R.Own w base u l → R.Own w' base u l:=by
  intro l hl u hu
  rcases h4 with h4 | ⟨g,cap',cur,cur',rfl,hg,hg',hsz,htk,hoth⟩
  ·exact own_sameA hu h4
  ·refine ⟨hu.1,?_⟩
   rcases hu.2 with h5 | ⟨g2,c2,cur2,rfl,hb2,hh2,hn2,hm2,hs2,ht2⟩
   ·exact .inl h5
   ·by_cases hgg : g2 = g
    ·subst hgg
     rw [hg] at hh2
     obtain rfl : cur = cur2:=by simp only [Option.some.injEq,Obj.cells.injEq] at hh2; exact hh2.1
     refine .inr ⟨g2,c2,cur',rfl,hb2,hg',hn2,hm2,by rw [hsz]; exact hs2,?_⟩
     rcases hl with rfl | rfl
     ·have h6 : cur'.toList.take (l.length * R.n) = (cur'.toList.take ((l.length + 1) * R.n)).take (l.length * R.n):=by
       rw [List.take_take,Nat.min_eq_left (Nat.mul_le_mul_right _ (by omega))]
      rw [h6,htk,← R.cells_length l]
      exact List.take_left
     ·rw [List.length_append,List.length_singleton,htk,R.cells_append,Rec.cells,Rec.cells,List.append_nil]
    ·exact .inr ⟨g2,c2,cur2,rfl,hb2,by rw [hoth g2 hgg]; exact hh2,hn2,hm2,hs2,ht2⟩
 have hrel : RelA R base xs p w w':=by
  refine ⟨(Below.refl base w).grown h3 hbase (fun k hk => (Rec.Own.ltV hown k hk).1),key xs (.inl rfl),key _ (.inr rfl),?_⟩
  intro b' hb'
  rcases h4 with h4 | ⟨g,cap',cur,cur',rfl,hg,hg',hsz,htk,hoth⟩
  ·rw [h4 b' (Array.getElem?_eq_some_iff.1 hb').1]; exact hb'
  ·by_cases hgg : b' = g
   ·subst hgg
    rw [hg] at hb'
    obtain rfl : cur = (R.cell p).toArray:=by simp only [Option.some.injEq,Obj.cells.injEq] at hb'; exact hb'.1
    rw [hg']
    have hl1:=congrArg List.length htk
    have hcl : cur'.toList.length = R.n:=by rw [show cur'.toList.length = cur'.size from Array.length_toList,hsz,List.size_toArray,R.len]
    rw [List.length_take,List.length_append,R.cells_length,R.len,hcl] at hl1
    have hp:=R.pos
    have hx0 : xs.length * R.n = 0:=by
     have:=Nat.min_le_right ((xs.length + 1) * R.n) R.n
     omega
    have hx1 : xs.length = 0:=by
     rcases Nat.mul_eq_zero.1 hx0 with e | e
     ·exact e
     ·omega
    obtain rfl : xs = []:=List.eq_nil_of_length_eq_zero hx1
    rw [Rec.cells,List.nil_append,List.length_nil,Nat.zero_add,Nat.one_mul,List.take_of_length_le (by rw [hcl]; exact Nat.le_refl _)] at htk
    rw [← htk,Array.toArray_toList]
   ·rw [hoth b' hgg]; exact hb'
 obtain ⟨A,C,rfl⟩:=owns_slice h2
 unfold growAt execOp
 simp only [ho,resolve,invoke,builtin,Sem.run_bind,Sem.run_pure,Result.andThen_ok,List.map_toArray,List.map_cons,List.map_nil,hs,hx,h1]
 exact h A C w' h2' hrel
theorem one_newA {w' : World} {G : Value → World → Prop} {cs : Array Value} (hG : ∀ x w'',RelA R base xs p w' w'' → (∀ φ,(kOneA R base xs p).fact x = some φ → φ w'') → G ((kOneA R base xs p).val x) w'') (hcs : cs = (R.cell p).toArray) (hb : base ≤ w'.heap.size) :
  G (.slice (some ⟨w'.heap.size,0,none⟩) 1 1) (w'.alloc (.cells cs R.e)):=by
 subst hcs
 exact hG w'.heap.size _ (RelA.of_bel hb (b_alloc w' _)) (fun φ h => by cases h; exact heap_alloc_last w' _)
theorem region_relA {id : Nat} {Q : Exit → Act → World → Prop} {a : Act} {w : World} {l : List Oper} (R : Rec α) (xs : List α) (p : α) (n : Nat) (L : List (Nat × Known (RelA R w.heap.size xs p))) (hm : Tryz.prog.follows .mixedOrders = true) (hB : splitB l.toArray n = true)
  (h : wpG Tryz.prog l.toArray (Bel w) (RelA R w.heap.size xs p) (knownAt L) (fun S a' => ∀ w',Bel w w' → S.all w' → wpList Tryz.prog l.toArray Q (l.drop n) a' w') 0 (l.take n) Facts.none a) : (Code.region id l.toArray true).wp Tryz.prog Q a w :=
 wp_region_grown (knownAt L) n hm hB (fun _ _ h k => h.trans k.1) (b_drew w) h
end
theorem wpG_nilVT {P : Program} {ops : Array Oper} {C : World → Prop} {R : World → World → Prop} {F : Nat → Option (Known R)} {Q : Facts → Act → Prop} {k : Nat} {S : Facts} {a : Act} (h : Q S a) : wpG P ops C R F Q k [] S a:=by unfold wpG; exact h
section
variable {w : World} {base G : Nat} {tv cv bv sv ev : Value} {role : UInt8} {s : Vs}
theorem RG.freshB {w3 : World} {b0 : Nat} {bv' : Value} {l : List Vb} (h : RG w base G tv cv role s bv sv ev) (hB : Below w.heap.size w w3) (hb0 : w.heap.size ≤ b0) (ho : recRb.Own w3 b0 bv' l) :
  RG (w3.setCell ⟨G,4,none⟩ bv') base G tv cv role { s with blocks:=l } bv' sv ev ∧ Below base w (w3.setCell ⟨G,4,none⟩ bv'):=by
 have hGb:=Nat.le_trans h.gb (Nat.le_of_lt h.blk.lt)
 refine h.newB (l:=l) ⟨hB.os,hB.tape,hB.output,hB.size,fun j hj _ => hB.block j hj⟩ (fun k hk => .inr (Nat.le_trans hb0 (Rec.Own.ltV ho k hk).1)) (ho.baseLe (Nat.le_trans hGb hb0))
theorem rSet_any (b : Vb) (h : RG w base G tv cv role s bv sv ev) (hl : s.blocks.length ≤ 1000) (h0 : 0 < s.blocks.length) :
  Calls Tryz.prog 167 #[.pointer (some ⟨G,0,none⟩),rbV b] w fun e w' => (∃ v,e = .returned v) ∧ (∃ bv',RG w' base G tv cv role { s with blocks:=s.blocks.dropLast ++ [b] } bv' sv ev) ∧ Chg (fun x => x = G) w w':=by
 obtain ⟨⟨ab,cb,rfl⟩,_,_⟩:=h.slices
 obtain ⟨m,hm⟩ : ∃ m,s.blocks.length = m + 1:=⟨s.blocks.length - 1,by omega⟩
 obtain ⟨g,rfl⟩:=h.ob.at0 h0
 have hm1 : (s.blocks.length : Int) - 1 = (m : Int):=by omega
 have hm2 : (m : Int) < (s.blocks.length : Int):=by omega
 have hm3 : (0 : Int) ≤ (m : Int):=by omega
 have hm4 : (s.blocks.length : Int) ≤ 1000:=by omega
 have hd : s.blocks.dropLast = s.blocks.take m:=by rw [List.dropLast_eq_take]; congr 1; omega
 have HD:=Lib.hid hd
 have hrun:=h.ob.shortRun 200 Tryz.underlying200 (by intro wx; kernel_rfl) m (by omega)
 obtain ⟨W1,hW1⟩ : ∃ W1,W1 = w.alloc (.cells #[.int .u8 (b.op.toNat : Int),.string (bs b.opn),.string (bs (keptR b)),.bool b.did,.int .i64 (b.at_ : Int)] 253):=⟨_,rfl⟩
 have hb1 : Below w.heap.size w W1:=by rw [hW1]; exact b_alloc _ _
 have hx : Blk W1 w.heap.size 253 [.int .u8 (b.op.toNat : Int),.string (bs b.opn),.string (bs (keptR b)),.bool b.did,.int .i64 (b.at_ : Int)]:=by rw [hW1]; exact Blk.new w _ _
 have h1:=h.below hb1
 have c4:=h1.cell (k:=4) rfl
 have HX:=Lib.hid hx
 have HB1:=Lib.hid hb1
 have H1:=Lib.hid h1
 have HH:=Lib.hid h
 obtain ⟨xs,hxs⟩ : ∃ xs,xs = s.blocks.take m:=⟨_,rfl⟩
 have hxl : xs.length = m:=by rw [hxs,List.length_take]; omega
 have HXS:=Lib.hid hxs
 have HSH:=Lib.hid (show recRb.Own W1 base (.slice (some ⟨g,0,none⟩) m cb) xs from by rw [hxs]; exact h1.ob.short m (by omega))
 have HXL:=Lib.hid hxl
 have hm5 : m ≤ 1000:=by omega
 clear h h1 h0 hm hd hb1 hx hxs hxl
 unfold rbV
 go_enter Tryz.func167,Tryz.ntmps167
 go_upto_region 1 with fail
 rw [← hW1]
 clear hW1
 refine region_known [(3,.exact _ (.slice (some ⟨g,0,none⟩) s.blocks.length cb)),(7,.exact _ (.slice (some ⟨g,0,none⟩) s.blocks.length cb)),(11,kOwnV recRb W1.heap.size xs)] (by kernel_rfl) (by kernel_rfl) ?_
 (repeat (first | (refine wpG_skip (by kernel_rfl) (fun K hK => ?_); go_big_quiet_skip; refine wpQuiet_nil (hK _ ?_); clear hK K) | (refine wpG_quiet (by rfl) (by rfl) (fun K hK => ?_); go_big_quiet_want; go_big_quiet_op; go_big_quiet_on; refine wpQuiet_nil (hK _ ?_); clear hK K) | (refine wpG_nilOk rfl rfl rfl (by kernel_rfl) (fun K hK => ?_); go_simp; refine hK _ ?_; clear hK K)))
 refine wpG_exact rfl (by kernel_rfl) (fun w' G hB hS hG => ?_) (fun K hK => ?_)
 ·have y:=Below.keeps hB c4
  go_simp; exact hG _ (Bel.refl _)
 go_simp; refine hK _ ?_; clear hK K; (repeat (first | (refine wpG_skip (by kernel_rfl) (fun K hK => ?_); go_big_quiet_skip; refine wpQuiet_nil (hK _ ?_); clear hK K) | (refine wpG_quiet (by rfl) (by rfl) (fun K hK => ?_); go_big_quiet_want; go_big_quiet_op; go_big_quiet_on; refine wpQuiet_nil (hK _ ?_); clear hK K) | (refine wpG_nilOk rfl rfl rfl (by kernel_rfl) (fun K hK => ?_); go_simp; refine hK _ ?_; clear hK K)))
 refine wpG_exact rfl (by kernel_rfl) (fun w' G hB hS hG => ?_) (fun K hK => ?_)
 ·have y:=Below.keeps hB c4
  go_simp; exact hG _ (Bel.refl _)
 go_simp; refine hK _ ?_; clear hK K; (repeat (first | (refine wpG_skip (by kernel_rfl) (fun K hK => ?_); go_big_quiet_skip; refine wpQuiet_nil (hK _ ?_); clear hK K) | (refine wpG_quiet (by rfl) (by rfl) (fun K hK => ?_); go_big_quiet_want; go_big_quiet_op; go_big_quiet_on; refine wpQuiet_nil (hK _ ?_); clear hK K) | (refine wpG_nilOk rfl rfl rfl (by kernel_rfl) (fun K hK => ?_); go_simp; refine hK _ ?_; clear hK K)))
 refine wpG_known (kOwnV recRb W1.heap.size xs) rfl (by kernel_rfl) (fun w' G hB hS hG => ?_) (fun x K hK => ?_)
 ·refine recRb.grow_copy _ _ 200 rfl Tryz.underlying200 W1.heap.size rfl _ xs (show recRb.Row w' (.slice (some ⟨g,0,none⟩) m cb) xs from (HSH.out.below hB).row) rfl (by show xs.length * 56 ≤ _; rw [HXL.out]; omega) hB.size (fun A C w'' ho hb => hG (A,C) w'' hb (fun φ h => by cases h; exact ho))
 obtain ⟨ad,c⟩:=x; go_simp; refine hK _ ?_; clear hK K; (repeat (first | (refine wpG_skip (by kernel_rfl) (fun K hK => ?_); go_big_quiet_skip; refine wpQuiet_nil (hK _ ?_); clear hK K) | (refine wpG_quiet (by rfl) (by rfl) (fun K hK => ?_); go_big_quiet_want; go_big_quiet_op; go_big_quiet_on; refine wpQuiet_nil (hK _ ?_); clear hK K) | (refine wpG_nilOk rfl rfl rfl (by kernel_rfl) (fun K hK => ?_); go_simp; refine hK _ ?_; clear hK K)))
 refine wpG_nilVT ?_
 intro w5 hB5 hA5
 have HO:=Lib.hid (show recRb.Own w5 W1.heap.size (.slice ad xs.length c) xs from all0 hA5)
 have hx5:=HX.out.below hB5
 have x0:=hx5.cell (k:=0) rfl
 have x1:=hx5.cell (k:=1) rfl
 have x2:=hx5.cell (k:=2) rfl
 have x3:=hx5.cell (k:=3) rfl
 have x4:=hx5.cell (k:=4) rfl
 have HB5:=Lib.hid hB5
 have HW5:=Lib.hid (bt HB1.out hB5)
 have hsz : W1.heap.size ≤ w5.heap.size:=hB5.size
 clear hB5 hA5 hx5 c4
 rw [HXL.out] at HO ⊢
 go_wp2_with (at_builtin; go_must (refine recRb.append1V _ b rfl _ _ 200 rfl Tryz.underlying200 W1.heap.size _ xs (HO.out.below (b_alloc _ _)) rfl _ rfl (Rec.Row.new (R:=recRb) w5 [b] _).1 (by show (xs.length + 1) * 56 ≤ _; rw [HXL.out]; omega) (Nat.le_trans hsz (b_alloc _ _).size) ?_); go_must (intro g3 gc w6 hown3 hc3 _; have hb6 : Below w.heap.size w w6:=(by have e1 : Below W1.heap.size w5 (w5.alloc (.cells (recRb.cells [b]).toArray 253)):=(b_alloc _ _).mono hsz; have e2:=hc3.below (B:=W1.heap.size) (fun k hk => (Rec.Own.ltV HO.out k hk).1) (Nat.le_trans hsz (b_alloc _ _).size); exact HW5.out.trans ((e1.trans e2).mono HB1.out.size)); have h6:=HH.out.below hb6; have c4:=h6.cell (k:=4) rfl; have f4:=h6.free (k:=4) (by decide); have HN:=Lib.hid (HH.out.freshB hb6 HB1.out.size hown3); have HC6:=Lib.hid ((Chg.of_below (X:=fun x => x = G) hb6).trans (Chg.set1R (k:=4) (v:=.slice (some ⟨g3,0,none⟩) (xs.length + 1) gc))); clear h6 hb6 hown3 hc3))
 refine bodyPost_end (results_none rfl _ _ _) rfl ?_
 rw [HD.out,← HXS.out]
 exact ⟨⟨_,rfl⟩,⟨_,HN.out.1⟩,HC6.out⟩
end
end Go.Proofs.YtehllcbnheicoaaGreatDoor
namespace Go.Proofs.YtehllcbnheicoaaGreatDoor
open Go.RowKit Oct
abbrev RV:=Bool × MV
def recVa : Rec RV where
 cell v:=[.bool v.1,.int .i64 v.2.1,.string (bs v.2.2)]
 e:=234
 n:=3
 bytes:=32
 z:=.agg #[.bool false,.int .i64 0,.string ByteArray.empty]
 len:=fun _ => rfl
 one:=by intro x u h; simp at h; rcases h with rfl | rfl | rfl <;> rfl
 info:=by kernel_rfl
 zs:=rfl
 pos:=by decide
 bpos:=by decide
def rvV (v : RV) : Value:=.agg #[.bool v.1,.int .i64 v.2.1,.string (bs v.2.2)]
structure Lo where
 at_ : Nat
 ad : Option Addr
 n : Nat
 c : Nat
 ps : List (List UInt8)
def recLo : Rec Lo where
 cell e:=[.int .i64 (e.at_ : Int),.slice e.ad e.n e.c]
 e:=295
 n:=2
 bytes:=32
 z:=.agg #[.int .i64 0,.slice none 0 0]
 len:=fun _ => rfl
 one:=by intro x u h; simp at h; rcases h with rfl | rfl <;> rfl
 info:=by kernel_rfl
 zs:=rfl
 pos:=by decide
 bpos:=by decide
def recKq : Rec (List UInt8 × List UInt8) where
 cell v:=[.string (bs v.1),.string (bs v.2)]
 e:=62
 n:=2
 bytes:=32
 z:=.agg #[.string ByteArray.empty,.string ByteArray.empty]
 len:=fun _ => rfl
 one:=by intro x u h; simp at h; rcases h with rfl | rfl <;> rfl
 info:=by kernel_rfl
 zs:=rfl
 pos:=by decide
 bpos:=by decide
theorem Rec.Row.chgN {α : Type} {R : Rec α} {X : Nat → Prop} {w w' : World} {v : Value} {l : List α} (h : R.Row w v l) (hc : Chg X w w') (hX : ∀ b,v.ownBlock = some b → ¬ X b) : R.Row w' v l:=by
 obtain ⟨⟨a,cap,rfl,hn,hu⟩,h2⟩:=h
 refine ⟨⟨a,cap,rfl,hn,fun j u hj => ?_⟩,h2⟩
 obtain ⟨b,off,rfl,hcell⟩:=hu j u hj
 exact ⟨b,off,rfl,hc.cell hcell (hX b rfl)⟩
def loV (e : Lo) : Value:=.slice e.ad e.n e.c
def loPt {base : Nat} (l : List Lo) : Pt base where
 fp k:=∃ e ∈ l,(loV e).ownBlock = some k
 P w:=(∀ e ∈ l,recS.Row w (loV e) e.ps ∧ ∀ k,(loV e).ownBlock = some k → base ≤ k ∧ k < w.heap.size) ∧ l.Pairwise fun e f => ∀ k,(loV e).ownBlock = some k → ¬ (loV f).ownBlock = some k
 frame:=fun h hc hX => ⟨fun e he => ⟨(h.1 e he).1.chgN hc (fun b hb => hX b ⟨e,he,hb⟩),fun k hk => ⟨((h.1 e he).2 k hk).1,Nat.lt_of_lt_of_le ((h.1 e he).2 k hk).2 hc.size⟩⟩,h.2⟩
 lt:=fun h k hk => by
  obtain ⟨e,he,hk⟩:=hk
  exact (h.1 e he).2 k hk
structure Rf where
 tv : Value
 cv : Value
 iv : Value
 ev : Value
 ow : Value
def rCells (f : Rf) (at_ : Int) (sv : Value) (rg : List RV) (lv prv : Value) : List Value:=[f.tv,f.cv,f.iv,f.ev,f.ow,.int .i64 at_,sv] ++ (recVa.cells rg ++ [lv,prv])
structure RM (base : Nat) (w : World) (G : Nat) (f : Rf) (at_ : Int) (st rg : List RV) (los : List Lo) (pr : List (List UInt8 × List UInt8)) (sv lv prv : Value) (X : List (Pt base)) : Prop where
 gb : base ≤ G
 rl : rg.length = 8
 sep : Sep base w (blkPt G gb 238 (rCells f at_ sv rg lv prv) :: ownPt recVa sv st.reverse :: ownPt recLo lv los :: loPt los :: ownPt recKq prv pr :: X)
section
variable {base G : Nat} {w w' w3 : World} {f : Rf} {at_ : Int} {st rg : List RV} {los : List Lo} {pr : List (List UInt8 × List UInt8)} {sv sv' lv lv' prv prv' : Value} {X : List (Pt base)}
theorem eightR {α : Type} {l : List α} (h : l.length = 8) : ∃ a b c d e f g i,l = [a,b,c,d,e,f,g,i]:=by
 match l,h with
 | [a,b,c,d,e,f,g,i],_ => exact ⟨a,b,c,d,e,f,g,i,rfl⟩
theorem RM.blk (h : RM base w G f at_ st rg los pr sv lv prv X) : Blk w G 238 (rCells f at_ sv rg lv prv):=h.sep.get (i:=0) rfl
theorem RM.os (h : RM base w G f at_ st rg los pr sv lv prv X) : recVa.Own w base sv st.reverse:=h.sep.get (i:=1) rfl
theorem RM.ol (h : RM base w G f at_ st rg los pr sv lv prv X) : recLo.Own w base lv los:=h.sep.get (i:=2) rfl
theorem RM.ow (h : RM base w G f at_ st rg los pr sv lv prv X) : (∀ e ∈ los,recS.Row w (loV e) e.ps ∧ ∀ k,(loV e).ownBlock = some k → base ≤ k ∧ k < w.heap.size) ∧ los.Pairwise fun e f => ∀ k,(loV e).ownBlock = some k → ¬ (loV f).ownBlock = some k:=h.sep.get (i:=3) rfl
theorem RM.op (h : RM base w G f at_ st rg los pr sv lv prv X) : recKq.Own w base prv pr:=h.sep.get (i:=4) rfl
theorem RM.size (h : RM base w G f at_ st rg los pr sv lv prv X) : base ≤ w.heap.size:=Nat.le_trans h.gb (Nat.le_of_lt h.blk.lt)
theorem RM.below (h : RM base w G f at_ st rg los pr sv lv prv X) (hB : Below w.heap.size w w') : RM base w' G f at_ st rg los pr sv lv prv X:=⟨h.gb,h.rl,h.sep.below hB⟩
theorem RM.add (h : RM base w G f at_ st rg los pr sv lv prv X) (cs : List Value) (t : TypeId) : RM base (w.alloc (.cells cs.toArray t)) G f at_ st rg los pr sv lv prv (X ++ [blkPt w.heap.size h.size t cs]) :=
 ⟨h.gb,h.rl,h.sep.snoc (b_alloc _ _) (blkPt w.heap.size h.size t cs) (Blk.new w cs t) (fun k hk => by rw [show k = w.heap.size from hk]; exact Nat.le_refl _)⟩
theorem RM.drop {Y : List (Pt base)} (h : RM base w G f at_ st rg los pr sv lv prv (X ++ Y)) : RM base w G f at_ st rg los pr sv lv prv X:=⟨h.gb,h.rl,Sep.init (p:=Y) h.sep⟩
theorem RM.loc {p : Pt base} (h : RM base w G f at_ st rg los pr sv lv prv X) (hp : p ∈ X) : p.P w:=h.sep.1 p (by simp [hp])
theorem RM.updX (h : RM base w G f at_ st rg los pr sv lv prv X) {Y : Nat → Prop} {i : Nat} {p : Pt base} (hi : X[i]? = some p) (hc : Chg Y w w') (hY : ∀ k,Y k → p.fp k) (q : Pt base) (hq : q.P w') (hf : ∀ k,q.fp k → p.fp k) :
  RM base w' G f at_ st rg los pr sv lv prv (X.set i q) ∧ Below base w w' :=
 ⟨⟨h.gb,h.rl,h.sep.upd (i:=i + 5) hi hc hY q hq (fun k hk => .inl (hf k hk))⟩,h.sep.updB (i:=i + 5) hi hc hY h.size⟩
theorem RM.cell (h : RM base w G f at_ st rg los pr sv lv prv X) {k : Nat} {v : Value} (hv : [f.tv,f.cv,f.iv,f.ev,f.ow,.int .i64 at_,sv][k]? = some v) : w.cell? ⟨G,k,none⟩ = some v:=by
 refine h.blk.cell (k:=k) ?_
 unfold rCells
 rw [List.getElem?_append_left (List.getElem?_eq_some_iff.1 hv).1]
 exact hv
theorem RM.cellR (h : RM base w G f at_ st rg los pr sv lv prv X) {k : Nat} {v : Value} (hv : [lv,prv][k]? = some v) : w.cell? ⟨G,31 + k,none⟩ = some v:=by
 refine h.blk.cell (k:=31 + k) ?_
 obtain ⟨a,b,c,d,e,f',g,i,rfl⟩:=eightR h.rl
 unfold rCells
 rw [List.getElem?_append_right (by simp; omega),List.getElem?_append_right (by simp [Rec.cells,recVa]; omega)]
 rw [← hv]
 congr 1
 simp [Rec.cells,recVa]
 omega
theorem RM.reg (h : RM base w G f at_ st rg los pr sv lv prv X) {i : Nat} (hi : i < 8) : w.cell? ⟨G,7 + i * 3,none⟩ = some (.bool (rg.getD i (false,0,[])).1) ∧ w.cell? ⟨G,7 + i * 3 + 1,none⟩ = some (.int .i64 (rg.getD i (false,0,[])).2.1) ∧ w.cell? ⟨G,7 + i * 3 + 2,none⟩ = some (.string (bs (rg.getD i (false,0,[])).2.2)):=by
 obtain ⟨a,b,c,d,e,f',g,j,hr⟩:=eightR h.rl
 have hb:=h.blk
 rw [hr] at hb ⊢
 rcases (by omega : i = 0 ∨ i = 1 ∨ i = 2 ∨ i = 3 ∨ i = 4 ∨ i = 5 ∨ i = 6 ∨ i = 7) with rfl | rfl | rfl | rfl | rfl | rfl | rfl | rfl <;> exact ⟨hb.cell (by rfl),hb.cell (by rfl),hb.cell (by rfl)⟩
theorem RM.free (h : RM base w G f at_ st rg los pr sv lv prv X) {k : Nat} (hk : k < 33) : w.frozen? ⟨G,k,none⟩ = false:=by
 refine h.blk.free ?_
 obtain ⟨a,b,c,d,e,f',g,j,hr⟩:=eightR h.rl
 rw [hr]
 exact hk
theorem RM.slices (h : RM base w G f at_ st rg los pr sv lv prv X) : (∃ a c,sv = .slice a st.length c) ∧ (∃ a c,lv = .slice a los.length c) ∧ ∃ a c,prv = .slice a pr.length c:=by
 obtain ⟨a,c,e⟩:=owns_slice h.os
 rw [List.length_reverse] at e
 exact ⟨⟨a,c,e⟩,owns_slice h.ol,owns_slice h.op⟩
theorem RM.newS (h : RM base w G f at_ st rg los pr sv lv prv X) {l : List RV} (hc : Chg (fun k => sv.ownBlock = some k) w w3) (hg : ∀ k,sv'.ownBlock = some k → sv.ownBlock = some k ∨ w.heap.size ≤ k) (ho : recVa.Own w3 base sv' l.reverse) :
  RM base (w3.setCell ⟨G,6,none⟩ sv') G f at_ l rg los pr sv' lv prv X ∧ Below base w (w3.setCell ⟨G,6,none⟩ sv') ∧ w3.cell? ⟨G,6,none⟩ = some sv ∧ w3.frozen? ⟨G,6,none⟩ = false:=by
 have s1:=h.sep.upd (i:=1) rfl hc (fun k hk => hk) (ownPt recVa sv' l.reverse) ho hg
 have hs : Chg (fun k => k = G) w3 (w3.setCell ⟨G,6,none⟩ sv'):=Chg.setCell _ _ _ rfl
 have b3 : Blk w3 G 238 (rCells f at_ sv rg lv prv):=s1.get (i:=0) rfl
 have s2:=s1.upd (i:=0) rfl hs (fun k hk => hk) (blkPt G h.gb 238 (rCells f at_ sv' rg lv prv)) (b3.set 6 sv') (fun k hk => .inl hk)
 exact ⟨⟨h.gb,h.rl,s2⟩,(h.sep.updB (i:=1) rfl hc (fun k hk => hk) h.size).trans (hs.below (fun k hk => by have:=h.gb; omega) (Nat.le_trans h.size hc.size)),b3.cell (k:=6) rfl,b3.free (k:=6) (by simp [rCells])⟩
theorem RM.setAt (h : RM base w G f at_ st rg los pr sv lv prv X) (n : Int) : RM base (w.setCell ⟨G,5,none⟩ (.int .i64 n)) G f n st rg los pr sv lv prv X ∧ Below base w (w.setCell ⟨G,5,none⟩ (.int .i64 n)):=by
 have hs : Chg (fun k => k = G) w (w.setCell ⟨G,5,none⟩ (.int .i64 n)):=Chg.setCell _ _ _ rfl
 have s2:=h.sep.upd (i:=0) rfl hs (fun k hk => hk) (blkPt G h.gb 238 (rCells f n sv rg lv prv)) (h.blk.set 5 (.int .i64 n)) (fun k hk => .inl hk)
 exact ⟨⟨h.gb,h.rl,s2⟩,h.sep.updB (i:=0) rfl hs (fun k hk => hk) h.size⟩
theorem RM.pre {Y : List (Pt base)} (h : RM base w G f at_ st rg los pr sv lv prv Y) (hX : X <+: Y) : RM base w G f at_ st rg los pr sv lv prv X:=by
 obtain ⟨Z,rfl⟩:=hX
 exact h.drop
theorem RM.top {v : RV} {ab : Option Addr} {n cb : Nat} (h : RM base w G f at_ (v :: st) rg los pr (.slice ab n cb) lv prv X) : ∃ g,ab = some ⟨g,0,none⟩ ∧ n = st.length + 1 ∧ w.cell? ⟨g,st.length * 3,none⟩ = some (.bool v.1) ∧ w.cell? ⟨g,st.length * 3 + 1,none⟩ = some (.int .i64 v.2.1) ∧ w.cell? ⟨g,st.length * 3 + 2,none⟩ = some (.string (bs v.2.2)):=by
 obtain ⟨⟨a,c,e⟩,_,_⟩:=h.slices
 injection e with e1 e2 e3
 subst e1 e2 e3
 obtain ⟨g,rfl⟩:=h.os.at0 (by simp)
 obtain ⟨a',cap,hv,hle,hc⟩:=Rec.Row.open h.os.row
 injection hv with e1 e2 e3
 subst e1
 obtain ⟨b,off,ha,hu⟩:=hc st.length (by simp)
 injection ha with ha
 injection ha with ha1 ha2 _
 subst ha1 ha2
 have hg : (v :: st).reverse[st.length]'(by simp) = v:=by simp [List.reverse_cons]
 rw [hg] at hu
 have h0:=hu 0 _ rfl
 have h1:=hu 1 _ rfl
 have h2:=hu 2 _ rfl
 rw [Nat.zero_add] at h0 h1 h2
 exact ⟨g,rfl,rfl,h0,h1,h2⟩
end
end Go.Proofs.YtehllcbnheicoaaGreatDoor
