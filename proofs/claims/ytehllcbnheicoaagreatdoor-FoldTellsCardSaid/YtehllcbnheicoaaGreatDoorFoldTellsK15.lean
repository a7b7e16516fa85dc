/- Lemmas for FoldTells, part 15: walks of the functions that it reaches, and the plain laws behind them. -/
import Derived.Maps.AppendAt
import Derived.Test.YtehllcbnheicoaaGreatDoorFoldTellsK3
import Derived.Test.YtehllcbnheicoaaGreatDoorFoldTellsK5
import Derived.Test.YtehllcbnheicoaaGreatDoorFoldTellsK14
set_option linter.unusedSimpArgs false
set_option linter.unusedVariables false
set_option maxRecDepth 100000
set_option maxHeartbeats 16000000
namespace Go.Proofs.YtehllcbnheicoaaGreatDoor
open Go.RowKit Oct
section
variable {P : Program}
theorem run_append3 (w : World) (base : Nat) (t ty e : TypeId) (i : TypeInfo) (z : Value) (size bytes : Nat) (ht : P.underlying t = some (.slice e)) (hi : P.info? e = some i) (hz : i.zero = some z)
  (hsize : i.size = size) (hby : i.bytes = bytes) (hzs : z.cells.size = size) (hsz : 0 < size)
  (v : Value) (n : Nat) (xs : List Value) (hown : w.ownsRow base e size v n xs)
  (a : Addr) (m c : Nat) (news : List Value) (hl : news.length = m * size) (hnews : ∀ j u,news[j]? = some u → w.cell? (a.add j) = some u) (h1 : ∀ u ∈ news,u.oneCell' = true)
  (h63 : n + m ≤ maxLen) (hbytes : (n + m) * bytes ≤ 140737488355328) (hbase : base ≤ w.heap.size) :
  ∃ v' w',(Builtin.append_ #[t,t] ty #[v,.slice (some a) m c]).run P w = .ok v' w' ∧ w'.ownsRow base e size v' (n + m) (xs ++ news) ∧ w.grownBy w' v.ownBlock ∧
   ((∀ k,k < w.heap.size → w'.heap[k]? = w.heap[k]?) ∨
    ∃ g cap cur cur',v = .slice (some ⟨g,0,none⟩) n cap ∧ w.heap[g]? = some (.cells cur e (0,0)) ∧ w'.heap[g]? = some (.cells cur' e (0,0)) ∧ cur'.size = cur.size ∧ cur'.toList.take ((n + m) * size) = xs ++ news ∧ (∀ k,k ≠ g → w'.heap[k]? = w.heap[k]?)):=by
 subst hsize
 subst hby
 have hsmall : n + m ≤ 9223372036854775807:=by simp only [maxLen] at h63; omega
 have hlen : (xs ++ news).length = (n + m) * i.size:=by rw [List.length_append,hown.1,hl,Nat.add_mul]
 have grown : ∀ (old : Nat),old < n + m → ∀ (row : Option Nat),
   (w.drew.alloc (.cells (xs.toArray ++ news.toArray ++ Builtin.zeroCells z.cells (grownCap w (n + m) old e - (n + m))) e)).ownsRow base e i.size
    (.slice (some ⟨w.heap.size,0,none⟩) (n + m) (grownCap w (n + m) old e)) (n + m) (xs ++ news) ∧
   w.grownBy (w.drew.alloc (.cells (xs.toArray ++ news.toArray ++ Builtin.zeroCells z.cells (grownCap w (n + m) old e - (n + m))) e)) row:=by
  intro old ho row
  have hge:=grownCap_ge w (n + m) old e
  have hcm : grownCap w (n + m) old e ≤ maxLen:=grownCap_le_maxLen w (n + m) old e h63
  refine ⟨⟨hlen,.inr ⟨w.heap.size,_,_,rfl,hbase,heap_alloc_new w.drew _,hge,hcm,?_,?_⟩⟩,⟨rfl,rfl,rfl,by simp,fun k hk _ => by first | exact heap_alloc_old w.drew _ k hk | exact heap_alloc_old w.drew _ hk⟩⟩
  ·simp only [Array.size_append,List.size_toArray,size_zeroCells,hzs,hown.1,hl,← Nat.add_mul]
   congr 1
   omega
  ·simp only [Array.toList_append,List.append_assoc]
   rw [← List.append_assoc,← hlen]
   exact List.take_left
 rcases hown.2 with ⟨rfl,rfl⟩ | ⟨g,cap,cur,rfl,hbg,hg,hnc,hcm,hcs,htake⟩
 ·have hx : xs = []:=List.eq_nil_of_length_eq_zero (by simpa using hown.1)
  subst hx
  by_cases hm : m = 0
  ·subst hm
   have hn : news = []:=List.eq_nil_of_length_eq_zero (by simpa using hl)
   subst hn
   refine ⟨.slice none 0 0,w,?_,World.ownsRow_nil w base e i.size,⟨rfl,rfl,rfl,Nat.le_refl _,fun _ _ _ => rfl⟩,.inl fun _ _ => rfl⟩
   simp [Builtin.append_,run_underlying ht,sizeOf,typeInfo,hi,Builtin.lenOf,Builtin.firstCells,loadCells,loadCellsFrom]
  ·have hr:=run_append_nil (P:=P) w t ty e i z ht hi hz a m c news hl hnews (by omega) (by omega) (by have hb:=hbytes; simp only [Nat.zero_add] at hb; omega)
   have hgr:=grown 0 (by omega) (Value.ownBlock (.slice none 0 0))
   simp only [Nat.zero_add,List.nil_append,Array.empty_append] at hgr ⊢
   exact ⟨_,_,hr,hgr.1,hgr.2,.inl fun k hk => hgr.2.block k hk (by simp [Value.ownBlock])⟩
 ·by_cases hroom : n + m ≤ cap
  ·have hfit : n * i.size + news.length ≤ cur.size:=by rw [hl,hcs,← Nat.add_mul]; exact Nat.mul_le_mul_right _ hroom
   have hr:=run_append_room (P:=P) w t ty e i ht hi g n cap cur hg a m c news hl hnews h1 hroom hfit
   refine ⟨_,_,hr,⟨hlen,.inr ⟨g,cap,_,rfl,hbg,setRow_heap w g cur _ e _ hg,hroom,hcm,?_,?_⟩⟩,⟨rfl,rfl,rfl,by simp,fun k _ hk => setRow_other w g k _ (fun e => hk (by simp [Value.ownBlock,e]))⟩,.inr ⟨g,cap,cur,_,rfl,hg,setRow_heap w g cur _ e _ hg,?_,?_,fun k hk => setRow_other w g k _ (fun e => hk e)⟩⟩
   ·simp only [List.size_toArray,List.length_append,List.length_take,List.length_drop,Array.length_toList]
    omega
   ·rw [htake,← hlen]
    exact List.take_left
   ·simp only [List.size_toArray,List.length_append,List.length_take,List.length_drop,Array.length_toList]
    omega
   ·rw [htake,← hlen]
    exact List.take_left
  ·have holds : ∀ j u,xs[j]? = some u → w.cell? ((⟨g,0,none⟩ : Addr).add j) = some u:=hown.cells (g:=g) rfl
   have hr:=run_append_grow (P:=P) w t ty e i z ht hi hz ⟨g,0,none⟩ n cap xs hown.1 holds a m c news hl hnews (by omega) (by omega) (growslice_fits (by omega) hbytes)
   have hgr:=grown cap (by omega) (Value.ownBlock (.slice (some ⟨g,0,none⟩) n cap))
   exact ⟨_,_,hr,hgr.1,hgr.2,.inl fun k hk => (grown cap (by omega) none).2.block k hk (by simp)⟩
end
theorem own_same {w w' : World} {base : Nat} {e : TypeId} {size : Nat} {v : Value} {n : Nat} {xs : List Value} (h : w.ownsRow base e size v n xs) (h4 : ∀ k,k < w.heap.size → w'.heap[k]? = w.heap[k]?) : w'.ownsRow base e size v n xs:=by
 refine ⟨h.1,?_⟩
 rcases h.2 with h5 | ⟨g2,c2,cur2,rfl,hb2,hh2,hr⟩
 ·exact .inl h5
 ·refine .inr ⟨g2,c2,cur2,rfl,hb2,?_,hr⟩
  rw [h4 g2 ?_]
  ·exact hh2
  ·rcases Nat.lt_or_ge g2 w.heap.size with hn | hn
   ·exact hn
   ·rw [Array.getElem?_eq_none hn] at hh2; cases hh2
end Go.Proofs.YtehllcbnheicoaaGreatDoor
namespace Go.Proofs.YtehllcbnheicoaaGreatDoor
open Go.RowKit Oct
attribute [local irreducible] wpG
def kOwnV {α : Type} (R : Rec α) (base : Nat) (l : List α) : Known Bel :=
 ⟨Option Addr × Nat,fun x => .slice x.1 l.length x.2,fun x => some fun w => R.Own w base (.slice x.1 l.length x.2) l,fun _ _ h _ _ hφ hB => by cases h; exact Rec.Own.below hφ hB⟩
@[go_sem] theorem kOwnV_val {α : Type} (R : Rec α) (base : Nat) (l : List α) (a : Option Addr) (c : Nat) : (kOwnV R base l).val (a,c) = .slice a l.length c:=rfl
theorem Rec.Own.baseLe {α : Type} {R : Rec α} {w : World} {b b' : Nat} {v : Value} {l : List α} (h : R.Own w b v l) (hb : b' ≤ b) : R.Own w b' v l:=by
 refine ⟨h.1,?_⟩
 rcases h.2 with h2 | ⟨g,cap,cur,hv,hg,hr⟩
 ·exact .inl h2
 ·exact .inr ⟨g,cap,cur,hv,Nat.le_trans hb hg,hr⟩
theorem Rec.grow_copy {α : Type} (R : Rec α) {o : Oper} {a : Act} {w : World} {G : Value → World → Prop} (s x : Operand) (t : TypeId)
  (ho : o.op = .call { callee:=.builtin .append,args:=#[s,x],argTypes:=#[t,t] }) (ht : Tryz.prog.underlying t = some (.slice R.e))
  (base : Nat) (hs : a.eval s = .slice none 0 0) (vx : Value) (ys : List α) (hr : R.Row w vx ys) (hx : a.eval x = vx)
  (hbytes : ys.length * R.bytes ≤ 140737488355328) (hbase : base ≤ w.heap.size)
  (h : ∀ A C w',R.Own w' base (.slice A ys.length C) ys → Bel w w' → G (.slice A ys.length C) w') : growAt Tryz.prog o a w G:=by
 obtain ⟨i,hi,hz,hi1,hi2⟩:=info_parts R.info
 obtain ⟨⟨ax,cap,rfl,hnone,hc⟩,_⟩:=hr
 have hown : R.Own w w.heap.size (.slice none 0 0) ([] : List α):=Rec.Own.nil _ _
 have hlen : ys.length ≤ 140737488355328:=by have:=Nat.le_mul_of_pos_right ys.length R.bpos; omega
 have hrun : ∃ v' w',(Builtin.append_ #[t,t] o.type #[.slice none 0 0,.slice ax ys.length cap]).run Tryz.prog w = .ok v' w' ∧ R.Own w' base v' ys ∧ Bel w w':=by
  cases ax with
  | none =>
   obtain ⟨h0,rfl⟩:=hnone rfl
   have h0' : ys = []:=List.eq_nil_of_length_eq_zero h0
   subst h0'
   exact ⟨_,w,run_append_owned_none (P:=Tryz.prog) (w:=w) w.heap.size t o.type R.e i R.n ht hi (.slice none 0 0) 0 [] hown,Rec.Own.nil _ _,Bel.refl _⟩
  | some ad =>
   obtain ⟨v',w',h1,h2,h3,h4⟩:=run_append3 (P:=Tryz.prog) w w.heap.size t o.type R.e i R.z R.n R.bytes ht hi hz hi1 hi2 R.zs R.pos (.slice none 0 0) 0 [] hown ad ys.length cap (R.cells ys) (R.cells_length ys) (by
    intro j u hj
    obtain ⟨b,off,ha,hu⟩:=hc j u hj
    cases ha
    rw [Addr.add_lit]; exact hu) (R.cells_one ys) (by unfold maxLen; omega) (by rw [Nat.zero_add]; exact hbytes) (Nat.le_refl _)
   rw [Nat.zero_add,List.nil_append] at h2
   exact ⟨v',w',h1,Rec.Own.baseLe h2 hbase,(Below.refl w.heap.size w).grown h3 (Nat.le_refl _) (fun k hk => by cases hk)⟩
 obtain ⟨v',w',h1,h2,h3⟩:=hrun
 obtain ⟨A,C,rfl⟩:=owns_slice h2
 unfold growAt execOp
 simp only [ho,resolve,invoke,builtin,Sem.run_bind,Sem.run_pure,Result.andThen_ok,List.map_toArray,List.map_cons,List.map_nil,hs,hx,h1]
 exact h A C w' h2 h3
structure ProgR (w : World) (tv cv : Value) (texts : List (List UInt8)) (code : List VI) : Prop where
 t : recS.Row w tv texts
 c : recIns.Row w cv code
 lt : texts.length ≤ 140737488355328
 lc : code.length ≤ 140737488355328
 m : ∀ s ∈ texts,s.length ≤ 140737488355328
theorem ProgR.below {w w' : World} {tv cv : Value} {texts : List (List UInt8)} {code : List VI} (h : ProgR w tv cv texts code) (hB : Below w.heap.size w w') : ProgR w' tv cv texts code:=⟨h.t.below hB,h.c.below hB,h.lt,h.lc,h.m⟩
theorem ProgR.large {w : World} {tv cv : Value} {texts : List (List UInt8)} {code : List VI} (h : ProgR w tv cv texts code) :
  Calls Tryz.prog 32 #[.agg #[tv,cv]] w fun e w' => e = .returned (.bool (largeV texts code)) ∧ Below w.heap.size w w':=Large_any tv cv texts code w h.t h.c h.lt h.lc h.m
theorem ProgR.ask {w : World} {tv cv : Value} {texts : List (List UInt8)} {code : List VI} (h : ProgR w tv cv texts code) (hl : largeV texts code = false) (hE : EffM w) (hg : 1 < w.heap.size) : AskV w tv cv texts code:=by
 obtain ⟨h1,h2,h3⟩:=largeV_no hl
 exact ⟨h.t,h.c,by omega,by omega,fun s hs => by have:=h3 s hs; omega,hE,hg⟩
end Go.Proofs.YtehllcbnheicoaaGreatDoor
namespace Go.Proofs.YtehllcbnheicoaaGreatDoor
open Go.RowKit Oct
attribute [local irreducible] wpG
def keptR (b : Vb) : List UInt8:=if b.did = true then b.want else []
def recRb : Rec Vb where
 cell b:=[.int .u8 (b.op.toNat : Int),.string (bs b.opn),.string (bs (keptR b)),.bool b.did,.int .i64 (b.at_ : Int)]
 e:=253
 n:=5
 bytes:=56
 z:=.agg #[.int .u8 0,.string ByteArray.empty,.string ByteArray.empty,.bool false,.int .i64 0]
 len:=fun _ => rfl
 one:=by intro x u h; simp at h; rcases h with rfl | rfl | rfl | rfl | rfl <;> rfl
 info:=by kernel_rfl
 zs:=rfl
 pos:=by decide
 bpos:=by decide
structure RG (w : World) (base G : Nat) (tv cv : Value) (role : UInt8) (s : Vs) (bv sv ev : Value) : Prop where
 blk : Blk w G 202 [tv,cv,.int .u8 (role.toNat : Int),.string (bs s.kinds),bv,sv,ev,.int .i64 (s.deep : Int)]
 ob : recRb.Own w base bv s.blocks
 os : recS.Own w base sv s.seen
 oe : recJ.Own w base ev s.ends
 gb : base ≤ G
 a1 : ∀ b,bv.ownBlock = some b → b ≠ G ∧ sv.ownBlock ≠ some b ∧ ev.ownBlock ≠ some b
 a2 : ∀ b,sv.ownBlock = some b → b ≠ G ∧ ev.ownBlock ≠ some b
 a3 : ∀ b,ev.ownBlock = some b → b ≠ G
section
variable {w w' : World} {base G : Nat} {tv cv bv sv ev : Value} {role : UInt8} {s : Vs}
theorem RG.below (h : RG w base G tv cv role s bv sv ev) (hB : Below w.heap.size w w') : RG w' base G tv cv role s bv sv ev :=
 ⟨h.blk.below hB,h.ob.below hB,h.os.below hB,h.oe.below hB,h.gb,h.a1,h.a2,h.a3⟩
theorem RG.cell (h : RG w base G tv cv role s bv sv ev) {k : Nat} {v : Value} (hv : [tv,cv,.int .u8 (role.toNat : Int),.string (bs s.kinds),bv,sv,ev,.int .i64 (s.deep : Int)][k]? = some v) : w.cell? ⟨G,k,none⟩ = some v:=h.blk.cell hv
theorem RG.free (h : RG w base G tv cv role s bv sv ev) {k : Nat} (hk : k < 8) : w.frozen? ⟨G,k,none⟩ = false:=h.blk.free hk
theorem RG.setG (h : RG w base G tv cv role s bv sv ev) (k : Nat) (v : Value) {kinds : List UInt8} {deep : Nat}
  (hs : [tv,cv,.int .u8 (role.toNat : Int),.string (bs s.kinds),bv,sv,ev,.int .i64 (s.deep : Int)].set k v = [tv,cv,.int .u8 (role.toNat : Int),.string (bs kinds),bv,sv,ev,.int .i64 (deep : Int)]) :
  RG (w.setCell ⟨G,k,none⟩ v) base G tv cv role { s with kinds:=kinds,deep:=deep } bv sv ev ∧ Below base w (w.setCell ⟨G,k,none⟩ v):=by
 have hc : Chg (fun x => x = G) w (w.setCell ⟨G,k,none⟩ v):=Chg.setCell _ _ _ rfl
 have key : ∀ {β : Type} (R : Rec β) (x : Value) (l : List β),R.Own w base x l → (∀ b,x.ownBlock = some b → b ≠ G) → R.Own (w.setCell ⟨G,k,none⟩ v) base x l:=fun R x l ho hn => by
  obtain ⟨h1,h2⟩:=ho
  refine ⟨h1,?_⟩
  rcases h2 with h2 | ⟨g,cap,cur,rfl,hg,hh,r⟩
  ·exact .inl h2
  ·exact .inr ⟨g,cap,cur,rfl,hg,hc.at hh (hn g rfl),r⟩
 have hb:=h.blk.set k v
 rw [hs] at hb
 exact ⟨⟨hb,key _ _ _ h.ob (fun b hb => (h.a1 b hb).1),key _ _ _ h.os (fun b hb => (h.a2 b hb).1),key _ _ _ h.oe h.a3,h.gb,h.a1,h.a2,h.a3⟩,hc.below (fun x hx => by have:=h.gb; omega) (Nat.le_trans h.gb (Nat.le_of_lt h.blk.lt))⟩
theorem RG.kinds (h : RG w base G tv cv role s bv sv ev) (k : List UInt8) : RG (w.setCell ⟨G,3,none⟩ (.string (bs k))) base G tv cv role { s with kinds:=k } bv sv ev ∧ Below base w (w.setCell ⟨G,3,none⟩ (.string (bs k))):=h.setG 3 _ rfl
theorem RG.deep (h : RG w base G tv cv role s bv sv ev) (d : Nat) : RG (w.setCell ⟨G,7,none⟩ (.int .i64 (d : Int))) base G tv cv role { s with deep:=d } bv sv ev ∧ Below base w (w.setCell ⟨G,7,none⟩ (.int .i64 (d : Int))):=h.setG 7 _ rfl
end
section
variable {w w' w3 : World} {base G : Nat} {tv cv bv sv ev bv' sv' : Value} {role : UInt8} {s : Vs}
theorem RG.newB (h : RG w base G tv cv role s bv sv ev) {l : List Vb} (hc : Chg (fun k => bv.ownBlock = some k) w w3) (hg : ∀ k,bv'.ownBlock = some k → bv.ownBlock = some k ∨ w.heap.size ≤ k) (ho : recRb.Own w3 base bv' l) :
  RG (w3.setCell ⟨G,4,none⟩ bv') base G tv cv role { s with blocks:=l } bv' sv ev ∧ Below base w (w3.setCell ⟨G,4,none⟩ bv'):=by
 have hs : Chg (fun k => k = G) w3 (w3.setCell ⟨G,4,none⟩ bv'):=Chg.setCell _ _ _ rfl
 have hlt:=h.blk.lt
 have nb : ∀ b,bv'.ownBlock = some b → b ≠ G ∧ sv.ownBlock ≠ some b ∧ ev.ownBlock ≠ some b:=fun b hb => by
  rcases hg b hb with e | e
  ·exact h.a1 b e
  ·refine ⟨by omega,fun e2 => ?_,fun e2 => ?_⟩
   ·have:=(h.os.ltV b e2).2; omega
   ·have:=(h.oe.ltV b e2).2; omega
 have hb3 : Blk w3 G 202 _:=h.blk.chg hc (fun e => (h.a1 G e).1 rfl)
 have o1:=(h.os.chgV hc (fun k hk e => (h.a1 k e).2.1 hk)).chgV hs (fun k hk => (h.a2 k hk).1)
 have o2:=(h.oe.chgV hc (fun k hk e => (h.a1 k e).2.2 hk)).chgV hs (fun k hk => h.a3 k hk)
 refine ⟨⟨hb3.set 4 bv',ho.chgV hs (fun k hk => (nb k hk).1),o1,o2,h.gb,nb,h.a2,h.a3⟩,?_⟩
 exact (hc.below (fun k hk => (h.ob.ltV k hk).1) (Nat.le_trans h.gb (Nat.le_of_lt hlt))).trans (hs.below (fun k hk => by have:=h.gb; omega) (by have:=hc.size; have:=h.gb; omega))
theorem RG.newS (h : RG w base G tv cv role s bv sv ev) {l : List (List UInt8)} (hc : Chg (fun k => sv.ownBlock = some k) w w3) (hg : ∀ k,sv'.ownBlock = some k → sv.ownBlock = some k ∨ w.heap.size ≤ k) (ho : recS.Own w3 base sv' l) :
  RG (w3.setCell ⟨G,5,none⟩ sv') base G tv cv role { s with seen:=l } bv sv' ev ∧ Below base w (w3.setCell ⟨G,5,none⟩ sv'):=by
 have hs : Chg (fun k => k = G) w3 (w3.setCell ⟨G,5,none⟩ sv'):=Chg.setCell _ _ _ rfl
 have hlt:=h.blk.lt
 have nb : ∀ b,sv'.ownBlock = some b → b ≠ G ∧ ev.ownBlock ≠ some b ∧ bv.ownBlock ≠ some b:=fun b hb => by
  rcases hg b hb with e | e
  ·exact ⟨(h.a2 b e).1,(h.a2 b e).2,fun e2 => (h.a1 b e2).2.1 e⟩
  ·refine ⟨by omega,fun e2 => ?_,fun e2 => ?_⟩
   ·have:=(h.oe.ltV b e2).2; omega
   ·have:=(h.ob.ltV b e2).2; omega
 have hb3 : Blk w3 G 202 _:=h.blk.chg hc (fun e => (h.a2 G e).1 rfl)
 have o1:=(h.ob.chgV hc (fun k hk e => (h.a1 k hk).2.1 e)).chgV hs (fun k hk => (h.a1 k hk).1)
 have o2:=(h.oe.chgV hc (fun k hk e => (h.a2 k e).2 hk)).chgV hs (fun k hk => h.a3 k hk)
 refine ⟨⟨hb3.set 5 sv',o1,ho.chgV hs (fun k hk => (nb k hk).1),o2,h.gb,fun b hb => ⟨(h.a1 b hb).1,fun e => (nb b e).2.2 hb,(h.a1 b hb).2.2⟩,fun b hb => ⟨(nb b hb).1,(nb b hb).2.1⟩,h.a3⟩,?_⟩
 exact (hc.below (fun k hk => (h.os.ltV k hk).1) (Nat.le_trans h.gb (Nat.le_of_lt hlt))).trans (hs.below (fun k hk => by have:=h.gb; omega) (by have:=hc.size; have:=h.gb; omega))
theorem RG.chgE (h : RG w base G tv cv role s bv sv ev) {l : List Int} (hc : Chg (fun k => ev.ownBlock = some k) w w') (ho : recJ.Own w' base ev l) : RG w' base G tv cv role { s with ends:=l } bv sv ev ∧ Below base w w' :=
 ⟨⟨h.blk.chg hc (fun e => h.a3 G e rfl),h.ob.chgV hc (fun k hk e => (h.a1 k hk).2.2 e),h.os.chgV hc (fun k hk e => (h.a2 k hk).2 e),ho,h.gb,h.a1,h.a2,h.a3⟩,hc.below (fun k hk => (h.oe.ltV k hk).1) (Nat.le_trans h.gb (Nat.le_of_lt h.blk.lt))⟩
theorem RG.slices (h : RG w base G tv cv role s bv sv ev) : (∃ ab cb,bv = .slice ab s.blocks.length cb) ∧ (∃ a1 c1,sv = .slice a1 s.seen.length c1) ∧ ∃ ae ce,ev = .slice ae s.ends.length ce:=⟨owns_slice h.ob,owns_slice h.os,owns_slice h.oe⟩
end
theorem rRole_any (r : UInt8) (w : World) : Calls Tryz.prog 138 #[.int .u8 (r.toNat : Int)] w fun e w' => e = .returned (.bool (roleOk r)) ∧ w' = w:=by
 by_cases h1 : 1 ≤ r.toNat
 ·have t1 : (1 : Int) ≤ (r.toNat : Int):=by omega
  by_cases h2 : r.toNat ≤ 3
  ·have t2 : (r.toNat : Int) ≤ 3:=by omega
   have H:=Lib.hid (show roleOk r = true by unfold roleOk; rw [decide_eq_true h1,decide_eq_true h2]; rfl)
   clear h1 h2
   go_enter Tryz.func138,Tryz.ntmps138
   go_wp2
   go_ret
   exact ⟨by rw [H.out]; rfl,rfl⟩
  ·have t2 : ¬ (r.toNat : Int) ≤ 3:=by omega
   have H:=Lib.hid (show roleOk r = false by unfold roleOk; rw [decide_eq_false h2]; simp)
   clear h1 h2
   go_enter Tryz.func138,Tryz.ntmps138
   go_wp2
   go_ret
   exact ⟨by rw [H.out]; rfl,rfl⟩
 ·have t1 : ¬ (1 : Int) ≤ (r.toNat : Int):=by omega
  have H:=Lib.hid (show roleOk r = false by unfold roleOk; rw [decide_eq_false h1]; simp)
  clear h1
  go_enter Tryz.func138,Tryz.ntmps138
  go_wp2
  go_ret
  exact ⟨by rw [H.out]; rfl,rfl⟩
theorem rInputs_any (r : UInt8) (w : World) : Calls Tryz.prog 151 #[.int .u8 (r.toNat : Int)] w fun e w' => e = .returned (.int .i64 (inputsV r : Int)) ∧ w' = w:=by
 by_cases h1 : r = 1
 ·have t1 : ((r.toNat : Int) == 1) = true:=by rw [h1]; rfl
  have H:=Lib.hid (show inputsV r = 1 by unfold inputsV; rw [if_pos h1])
  clear h1
  go_enter Tryz.func151,Tryz.ntmps151
  go_wp2
  go_ret
  exact ⟨by rw [H.out]; rfl,rfl⟩
 ·have t1 : ((r.toNat : Int) == 1) = false:=u8_ne (by decide) h1
  have H:=Lib.hid (show inputsV r = 2 by unfold inputsV; rw [if_neg h1])
  clear h1
  go_enter Tryz.func151,Tryz.ntmps151
  go_wp2
  go_ret
  exact ⟨by rw [H.out]; rfl,rfl⟩
theorem rReg_any (r : UInt8) (w : World) : Calls Tryz.prog 190 #[.int .u8 (r.toNat : Int)] w fun e w' => e = .returned (.string (bs (regV r))) ∧ w' = w:=by
 by_cases h1 : 4 ≤ r.toNat
 ·have t1 : ¬ (r.toNat : Int) < 4:=by omega
  have H:=Lib.hid (show regV r = [84] by unfold regV; rw [if_pos h1])
  clear h1
  go_enter Tryz.func190,Tryz.ntmps190
  go_wp2
  go_ret
  exact ⟨by rw [H.out]; rfl,rfl⟩
 ·have t1 : (r.toNat : Int) < 4:=by omega
  have H:=Lib.hid (show regV r = [78] by unfold regV; rw [if_neg h1])
  clear h1
  go_enter Tryz.func190,Tryz.ntmps190
  go_wp2
  go_ret
  exact ⟨by rw [H.out]; rfl,rfl⟩
theorem effV_restR {p a : UInt8} (h1 : p ≠ 1) (h2 : p ≠ 2) (h3 : p ≠ 3) (h4 : p ≠ 4) (h5 : p ≠ 5) (h6 : p ≠ 6) (h7 : p ≠ 7) (h8 : p ≠ 8) (h9 : p ≠ 9) (h10 : p ≠ 10) (h11 : p ≠ 11) (h12 : p ≠ 12) (h13 : p ≠ 13) (h14 : p ≠ 14) (h15 : p ≠ 15) (h16 : p ≠ 16) (h17 : p ≠ 17) (h18 : p ≠ 18) (h19 : p ≠ 19) (h22 : p ≠ 22) (h23 : p ≠ 23) : effV (p,a) = ([],[]):=by
 have h : p.toNat = 0 ∨ p.toNat = 20 ∨ p.toNat = 21 ∨ 24 ≤ p.toNat:=by
  have e1 : p.toNat ≠ 1:=fun e => h1 (UInt8.toNat_inj.1 e)
  have e2 : p.toNat ≠ 2:=fun e => h2 (UInt8.toNat_inj.1 e)
  have e3 : p.toNat ≠ 3:=fun e => h3 (UInt8.toNat_inj.1 e)
  have e4 : p.toNat ≠ 4:=fun e => h4 (UInt8.toNat_inj.1 e)
  have e5 : p.toNat ≠ 5:=fun e => h5 (UInt8.toNat_inj.1 e)
  have e6 : p.toNat ≠ 6:=fun e => h6 (UInt8.toNat_inj.1 e)
  have e7 : p.toNat ≠ 7:=fun e => h7 (UInt8.toNat_inj.1 e)
  have e8 : p.toNat ≠ 8:=fun e => h8 (UInt8.toNat_inj.1 e)
  have e9 : p.toNat ≠ 9:=fun e => h9 (UInt8.toNat_inj.1 e)
  have e10 : p.toNat ≠ 10:=fun e => h10 (UInt8.toNat_inj.1 e)
  have e11 : p.toNat ≠ 11:=fun e => h11 (UInt8.toNat_inj.1 e)
  have e12 : p.toNat ≠ 12:=fun e => h12 (UInt8.toNat_inj.1 e)
  have e13 : p.toNat ≠ 13:=fun e => h13 (UInt8.toNat_inj.1 e)
  have e14 : p.toNat ≠ 14:=fun e => h14 (UInt8.toNat_inj.1 e)
  have e15 : p.toNat ≠ 15:=fun e => h15 (UInt8.toNat_inj.1 e)
  have e16 : p.toNat ≠ 16:=fun e => h16 (UInt8.toNat_inj.1 e)
  have e17 : p.toNat ≠ 17:=fun e => h17 (UInt8.toNat_inj.1 e)
  have e18 : p.toNat ≠ 18:=fun e => h18 (UInt8.toNat_inj.1 e)
  have e19 : p.toNat ≠ 19:=fun e => h19 (UInt8.toNat_inj.1 e)
  have e22 : p.toNat ≠ 22:=fun e => h22 (UInt8.toNat_inj.1 e)
  have e23 : p.toNat ≠ 23:=fun e => h23 (UInt8.toNat_inj.1 e)
  omega
 unfold effV
 rcases h with h | h | h | h
 ·rw [show ((p,a) : VI).1.toNat = 0 from h]; rfl
 ·rw [show ((p,a) : VI).1.toNat = 20 from h]; rfl
 ·rw [show ((p,a) : VI).1.toNat = 21 from h]; rfl
 ·have : effs.getD ((p,a) : VI).1.toNat ([],[]) = ([],[]):=by
   rw [List.getD,List.getElem?_eq_none (by rw [effs_len]; exact h)]; rfl
  rw [this]; rfl
theorem rEffect_any (x : VI) (w : World) : Calls Tryz.prog 166 #[.agg #[.int .u8 (x.1.toNat : Int),.int .u8 (x.2.toNat : Int)]] w fun e w' => e = .returned (.tuple #[.string (bs (effV x).1),.string (bs (effV x).2)]) ∧ Below w.heap.size w w':=by
 obtain ⟨p,a⟩:=x
 have hb:=b_alloc w (.cells #[.int .u8 (p.toNat : Int),.int .u8 (a.toNat : Int)] 97)
 by_cases h1 : p = 1
 ·subst h1
  rw [show (((1 : UInt8).toNat : Nat) : Int) = 1 from rfl] at hb ⊢
  go_enter Tryz.func166,Tryz.ntmps166
  go_wp2
  go_ret2
  exact ⟨rfl,hb⟩
 by_cases h2 : p = 2
 ·subst h2
  rw [show (((2 : UInt8).toNat : Nat) : Int) = 2 from rfl] at hb ⊢
  go_enter Tryz.func166,Tryz.ntmps166
  go_wp2
  go_ret2
  exact ⟨rfl,hb⟩
 by_cases h3 : p = 3
 ·subst h3
  rw [show (((3 : UInt8).toNat : Nat) : Int) = 3 from rfl] at hb ⊢
  go_enter Tryz.func166,Tryz.ntmps166
  go_wp2
  go_ret2
  exact ⟨rfl,hb⟩
 by_cases h4 : p = 4
 ·subst h4
  rw [show (((4 : UInt8).toNat : Nat) : Int) = 4 from rfl] at hb ⊢
  go_enter Tryz.func166,Tryz.ntmps166
  go_wp2
  go_ret2
  exact ⟨rfl,hb⟩
 by_cases h5 : p = 5
 ·subst h5
  rw [show (((5 : UInt8).toNat : Nat) : Int) = 5 from rfl] at hb ⊢
  go_enter Tryz.func166,Tryz.ntmps166
  go_wp2
  go_ret2
  exact ⟨rfl,hb⟩
 by_cases h6 : p = 6
 ·subst h6
  rw [show (((6 : UInt8).toNat : Nat) : Int) = 6 from rfl] at hb ⊢
  go_enter Tryz.func166,Tryz.ntmps166
  go_wp2
  go_ret2
  exact ⟨rfl,hb⟩
 by_cases h7 : p = 7
 ·subst h7
  rw [show (((7 : UInt8).toNat : Nat) : Int) = 7 from rfl] at hb ⊢
  go_enter Tryz.func166,Tryz.ntmps166
  go_wp2
  go_ret2
  exact ⟨rfl,hb⟩
 by_cases h8 : p = 8
 ·subst h8
  rw [show (((8 : UInt8).toNat : Nat) : Int) = 8 from rfl] at hb ⊢
  go_enter Tryz.func166,Tryz.ntmps166
  go_wp2
  go_ret2
  exact ⟨rfl,hb⟩
 by_cases h9 : p = 9
 ·subst h9
  rw [show (((9 : UInt8).toNat : Nat) : Int) = 9 from rfl] at hb ⊢
  go_enter Tryz.func166,Tryz.ntmps166
  go_wp2
  go_ret2
  exact ⟨rfl,hb⟩
 by_cases h10 : p = 10
 ·subst h10
  rw [show (((10 : UInt8).toNat : Nat) : Int) = 10 from rfl] at hb ⊢
  go_enter Tryz.func166,Tryz.ntmps166
  go_wp2
  go_ret2
  exact ⟨rfl,hb⟩
 by_cases h11 : p = 11
 ·subst h11
  rw [show (((11 : UInt8).toNat : Nat) : Int) = 11 from rfl] at hb ⊢
  go_enter Tryz.func166,Tryz.ntmps166
  go_wp2
  go_ret2
  exact ⟨rfl,hb⟩
 by_cases h12 : p = 12
 ·subst h12
  rw [show (((12 : UInt8).toNat : Nat) : Int) = 12 from rfl] at hb ⊢
  go_enter Tryz.func166,Tryz.ntmps166
  go_wp2
  go_ret2
  exact ⟨rfl,hb⟩
 by_cases h13 : p = 13
 ·subst h13
  rw [show (((13 : UInt8).toNat : Nat) : Int) = 13 from rfl] at hb ⊢
  go_enter Tryz.func166,Tryz.ntmps166
  go_wp2
  go_ret2
  exact ⟨rfl,hb⟩
 by_cases h14 : p = 14
 ·subst h14
  rw [show (((14 : UInt8).toNat : Nat) : Int) = 14 from rfl] at hb ⊢
  go_enter Tryz.func166,Tryz.ntmps166
  go_wp2
  go_ret2
  exact ⟨rfl,hb⟩
 by_cases h15 : p = 15
 ·subst h15
  rw [show (((15 : UInt8).toNat : Nat) : Int) = 15 from rfl] at hb ⊢
  go_enter Tryz.func166,Tryz.ntmps166
  go_wp2
  go_ret2
  exact ⟨rfl,hb⟩
 by_cases h16 : p = 16
 ·subst h16
  rw [show (((16 : UInt8).toNat : Nat) : Int) = 16 from rfl] at hb ⊢
  go_enter Tryz.func166,Tryz.ntmps166
  go_wp2
  go_ret2
  exact ⟨rfl,hb⟩
 by_cases h17 : p = 17
 ·subst h17
  rw [show (((17 : UInt8).toNat : Nat) : Int) = 17 from rfl] at hb ⊢
  go_enter Tryz.func166,Tryz.ntmps166
  go_wp2_with (go_at_call 190; refine (rReg_any a _).mono ?_; rintro e w1 ⟨rfl,rfl⟩)
  go_ret2
  exact ⟨by first | rfl | (unfold effV regV; split <;> rfl),hb⟩
 by_cases h18 : p = 18
 ·subst h18
  rw [show (((18 : UInt8).toNat : Nat) : Int) = 18 from rfl] at hb ⊢
  go_enter Tryz.func166,Tryz.ntmps166
  go_wp2_with (go_at_call 190; refine (rReg_any a _).mono ?_; rintro e w1 ⟨rfl,rfl⟩)
  go_ret2
  exact ⟨by first | rfl | (unfold effV regV; split <;> rfl),hb⟩
 by_cases h19 : p = 19
 ·subst h19
  rw [show (((19 : UInt8).toNat : Nat) : Int) = 19 from rfl] at hb ⊢
  go_enter Tryz.func166,Tryz.ntmps166
  go_wp2
  go_ret2
  exact ⟨rfl,hb⟩
 by_cases h22 : p = 22
 ·subst h22
  rw [show (((22 : UInt8).toNat : Nat) : Int) = 22 from rfl] at hb ⊢
  go_enter Tryz.func166,Tryz.ntmps166
  go_wp2
  go_ret2
  exact ⟨rfl,hb⟩
 by_cases h23 : p = 23
 ·subst h23
  rw [show (((23 : UInt8).toNat : Nat) : Int) = 23 from rfl] at hb ⊢
  go_enter Tryz.func166,Tryz.ntmps166
  go_wp2
  go_ret2
  exact ⟨rfl,hb⟩
 have q1 : ((p.toNat : Int) == 1) = false:=u8_ne (by decide) h1
 have q2 : ((p.toNat : Int) == 2) = false:=u8_ne (by decide) h2
 have q3 : ((p.toNat : Int) == 3) = false:=u8_ne (by decide) h3
 have q4 : ((p.toNat : Int) == 4) = false:=u8_ne (by decide) h4
 have q5 : ((p.toNat : Int) == 5) = false:=u8_ne (by decide) h5
 have q6 : ((p.toNat : Int) == 6) = false:=u8_ne (by decide) h6
 have q7 : ((p.toNat : Int) == 7) = false:=u8_ne (by decide) h7
 have q8 : ((p.toNat : Int) == 8) = false:=u8_ne (by decide) h8
 have q9 : ((p.toNat : Int) == 9) = false:=u8_ne (by decide) h9
 have q10 : ((p.toNat : Int) == 10) = false:=u8_ne (by decide) h10
 have q11 : ((p.toNat : Int) == 11) = false:=u8_ne (by decide) h11
 have q12 : ((p.toNat : Int) == 12) = false:=u8_ne (by decide) h12
 have q13 : ((p.toNat : Int) == 13) = false:=u8_ne (by decide) h13
 have q14 : ((p.toNat : Int) == 14) = false:=u8_ne (by decide) h14
 have q15 : ((p.toNat : Int) == 15) = false:=u8_ne (by decide) h15
 have q16 : ((p.toNat : Int) == 16) = false:=u8_ne (by decide) h16
 have q17 : ((p.toNat : Int) == 17) = false:=u8_ne (by decide) h17
 have q18 : ((p.toNat : Int) == 18) = false:=u8_ne (by decide) h18
 have q19 : ((p.toNat : Int) == 19) = false:=u8_ne (by decide) h19
 have q22 : ((p.toNat : Int) == 22) = false:=u8_ne (by decide) h22
 have q23 : ((p.toNat : Int) == 23) = false:=u8_ne (by decide) h23
 have HE:=Lib.hid (show effV (p,a) = ([],[]) from effV_restR h1 h2 h3 h4 h5 h6 h7 h8 h9 h10 h11 h12 h13 h14 h15 h16 h17 h18 h19 h22 h23)
 clear h1 h2 h3 h4 h5 h6 h7 h8 h9 h10 h11 h12 h13 h14 h15 h16 h17 h18 h19 h22 h23
 go_enter Tryz.func166,Tryz.ntmps166
 go_wp2
 go_ret2
 exact ⟨by rw [HE.out]; rfl,hb⟩
def rbV (b : Vb) : Value:=.agg #[.int .u8 (b.op.toNat : Int),.string (bs b.opn),.string (bs (keptR b)),.bool b.did,.int .i64 (b.at_ : Int)]
def noVb : Vb:=⟨0,[],[],0,false⟩
theorem recRb_at {w : World} {a : Option Addr} {n c : Nat} {l : List Vb} (h : recRb.Row w (.slice a n c) l) {k : Nat} (hk : k < l.length) : ∃ b off,a = some ⟨b,off,none⟩ ∧ w.cell? ⟨b,off + k * 5,none⟩ = some (.int .u8 (l[k].op.toNat : Int)) ∧ w.cell? ⟨b,off + k * 5 + 1,none⟩ = some (.string (bs l[k].opn)) ∧
  w.cell? ⟨b,off + k * 5 + 2,none⟩ = some (.string (bs (keptR l[k]))) ∧ w.cell? ⟨b,off + k * 5 + 3,none⟩ = some (.bool l[k].did) ∧ w.cell? ⟨b,off + k * 5 + 4,none⟩ = some (.int .i64 (l[k].at_ : Int)):=by
 obtain ⟨a',cap,hv,hle,hc⟩:=Rec.Row.open h
 injection hv with e1 e2 e3
 subst e1
 obtain ⟨b,off,ha,hu⟩:=hc k hk
 exact ⟨b,off,ha,hu 0 _ rfl,hu 1 _ rfl,hu 2 _ rfl,hu 3 _ rfl,hu 4 _ rfl⟩
theorem load_rb {w : World} {b : Nat} {v0 v1 v2 v3 v4 : Value} (h0 : w.cell? ⟨b,0,none⟩ = some v0) (h1 : w.cell? ⟨b,1,none⟩ = some v1) (h2 : w.cell? ⟨b,2,none⟩ = some v2) (h3 : w.cell? ⟨b,3,none⟩ = some v3) (h4 : w.cell? ⟨b,4,none⟩ = some v4) :
  (loadVar 253 ⟨b,0,none⟩).run Tryz.prog w = .ok (.agg #[v0,v1,v2,v3,v4]) w:=by
 go_simp
theorem results_cell_tmpR {P : Program} {fn : Func} {p u : Tmp} {ty : TypeId} {tmps : Array Value} {w : World} {v : Value} {b : Nat} (hr : fn.results = #[.cell p ty,.tmp u]) (hp : tmps.getD p undef = .pointer (some ⟨b,0,none⟩))
  (hl : (loadVar ty ⟨b,0,none⟩).run P w = .ok v w) : (results fn tmps).run P w = .ok (.tuple #[v,tmps.getD u undef]) w:=by
 simp only [Array.getD_eq_getD_getElem?] at hp ⊢
 simp [results,hr,Sem.run_bind,Result.andThen,hp,asAddr,hl]
theorem Chg.set1R {w : World} {b k : Nat} {v : Value} : Chg (fun x => x = b) w (w.setCell ⟨b,k,none⟩ v):=Chg.setCell _ _ _ rfl
theorem rb_store {w : World} {b : Nat} {t : TypeId} {a0 a1 a2 a3 a4 : Value} (hx : Blk w b t [a0,a1,a2,a3,a4]) (v0 v1 v2 v3 v4 : Value) :
  Blk (((((w.setCell ⟨b,0,none⟩ v0).setCell ⟨b,1,none⟩ v1).setCell ⟨b,2,none⟩ v2).setCell ⟨b,3,none⟩ v3).setCell ⟨b,4,none⟩ v4) b t [v0,v1,v2,v3,v4] ∧
  Chg (fun x => x = b) w (((((w.setCell ⟨b,0,none⟩ v0).setCell ⟨b,1,none⟩ v1).setCell ⟨b,2,none⟩ v2).setCell ⟨b,3,none⟩ v3).setCell ⟨b,4,none⟩ v4) :=
 ⟨((((hx.set 0 v0).set 1 v1).set 2 v2).set 3 v3).set 4 v4,(((Chg.set1R.trans Chg.set1R).trans Chg.set1R).trans Chg.set1R).trans Chg.set1R⟩
section
variable {w : World} {base G : Nat} {tv cv bv sv ev : Value} {role : UInt8} {s : Vs}
theorem rLast_any (h : RG w base G tv cv role s bv sv ev) (hl : s.blocks.length ≤ 1000) :
  Calls Tryz.prog 165 #[.pointer (some ⟨G,0,none⟩)] w fun e w' => e = .returned (.tuple #[rbV (s.blocks.getLast?.getD noVb),.bool (s.blocks.getLast?.isSome)]) ∧ Below w.heap.size w w':=by
 obtain ⟨⟨ab,cb,rfl⟩,_,_⟩:=h.slices
 obtain ⟨W1,hW1⟩ : ∃ W1,W1 = w.alloc (.cells #[.int .u8 0,.string ⟨#[]⟩,.string ⟨#[]⟩,.bool false,.int .i64 0] 253):=⟨_,rfl⟩
 have hb1 : Below w.heap.size w W1:=by rw [hW1]; exact b_alloc _ _
 have hx : Blk W1 w.heap.size 253 [.int .u8 0,.string ⟨#[]⟩,.string ⟨#[]⟩,.bool false,.int .i64 0]:=by rw [hW1]; exact Blk.new w _ _
 have h1:=h.below hb1
 have c4:=h1.cell (k:=4) rfl
 have HX:=Lib.hid hx
 have HB1:=Lib.hid hb1
 rcases Nat.eq_zero_or_pos s.blocks.length with h0 | h0
 ·have hb0 : s.blocks = []:=List.eq_nil_of_length_eq_zero h0
  have t1 : ((s.blocks.length : Int) == 0) = true:=by rw [beq_iff_eq]; omega
  have f0:=hx.free (k:=0) (by decide)
  have f1:=hx.free (k:=1) (by decide)
  have f2:=hx.free (k:=2) (by decide)
  have f3:=hx.free (k:=3) (by decide)
  have f4:=hx.free (k:=4) (by decide)
  have x0:=hx.cell (k:=0) rfl
  have x1:=hx.cell (k:=1) rfl
  have x2:=hx.cell (k:=2) rfl
  have x3:=hx.cell (k:=3) rfl
  have x4:=hx.cell (k:=4) rfl
  have HB0:=Lib.hid hb0
  clear h h1 h0 hb0 hx hb1
  go_enter Tryz.func165,Tryz.ntmps165
  go_upto_region 1 with fail
  rw [← hW1]
  clear hW1
  go_wp2_with fail
  obtain ⟨hy,hc⟩:=rb_store HX.out (.int .u8 0) (.string ⟨#[]⟩) (.string ⟨#[]⟩) (.bool false) (.int .i64 0)
  refine bodyPost_ret (results_cell_tmpR rfl rfl (load_rb (hy.cell (k:=0) rfl) (hy.cell (k:=1) rfl) (hy.cell (k:=2) rfl) (hy.cell (k:=3) rfl) (hy.cell (k:=4) rfl))) rfl ?_
  exact ⟨by rw [HB0.out]; rfl,HB1.out.trans (hc.below (fun x (hx : x = w.heap.size) => by omega) HB1.out.size)⟩
 ·obtain ⟨m,hm⟩ : ∃ m,s.blocks.length = m + 1:=⟨s.blocks.length - 1,by omega⟩
  obtain ⟨g,rfl⟩:=h.ob.at0 h0
  have t1 : ((s.blocks.length : Int) == 0) = false:=by rw [beq_eq_false_iff_ne]; omega
  have hm1 : (s.blocks.length : Int) - 1 = (m : Int):=by omega
  have hm2 : (m : Int) < (s.blocks.length : Int):=by omega
  have hm3 : (0 : Int) ≤ (m : Int):=by omega
  have hm4 : (s.blocks.length : Int) ≤ 1000:=by omega
  obtain ⟨b',off,ha,e0,e1,e2,e3,e4⟩:=recRb_at h1.ob.row (k:=m) (by omega)
  injection ha with ha
  injection ha with ha1 ha2 _
  subst ha1 ha2
  rw [Nat.zero_add] at e0 e1 e2 e3 e4
  have hgl : s.blocks.getLast? = some (s.blocks[m]'(by omega)):=by
   rw [List.getLast?_eq_getElem?,show s.blocks.length - 1 = m by omega]; exact List.getElem?_eq_getElem _
  obtain ⟨q,hq⟩ : ∃ q,q = s.blocks[m]'(by omega):=⟨_,rfl⟩
  rw [← hq] at e0 e1 e2 e3 e4 hgl
  have HGL:=Lib.hid hgl
  have HM:=Lib.hid hm
  have f0:=hx.free (k:=0) (by decide)
  have f1:=hx.free (k:=1) (by decide)
  have f2:=hx.free (k:=2) (by decide)
  have f3:=hx.free (k:=3) (by decide)
  have f4:=hx.free (k:=4) (by decide)
  have x0:=hx.cell (k:=0) rfl
  have x1:=hx.cell (k:=1) rfl
  have x2:=hx.cell (k:=2) rfl
  have x3:=hx.cell (k:=3) rfl
  have x4:=hx.cell (k:=4) rfl
  clear h h1 h0 hx hb1 hgl hm hq
  go_enter Tryz.func165,Tryz.ntmps165
  go_upto_region 1 with fail
  rw [← hW1]
  clear hW1
  go_upto_region 3 with fail
  go_region
  obtain ⟨hy,hc⟩:=rb_store HX.out (.int .u8 (q.op.toNat : Int)) (.string (bs q.opn)) (.string (bs (keptR q))) (.bool q.did) (.int .i64 (q.at_ : Int))
  obtain ⟨W2,hW2⟩ : ∃ W2,W2 = (((((W1.setCell ⟨w.heap.size,0,none⟩ (.int .u8 (q.op.toNat : Int))).setCell ⟨w.heap.size,1,none⟩ (.string (bs q.opn))).setCell ⟨w.heap.size,2,none⟩ (.string (bs (keptR q)))).setCell ⟨w.heap.size,3,none⟩ (.bool q.did)).setCell ⟨w.heap.size,4,none⟩ (.int .i64 (q.at_ : Int))):=⟨_,rfl⟩
  rw [← hW2] at hy hc ⊢
  have hz:=hy.below (b_drew W2)
  have HB2:=Lib.hid ((HB1.out.trans (hc.below (fun x (hx : x = w.heap.size) => by omega) HB1.out.size)).trans (Below.mono (b_drew W2) (Nat.le_trans HB1.out.size hc.size)))
  have HZ:=Lib.hid hz
  clear hW2 hy hc hz
  go_wp2_with fail
  have hz:=HZ.out
  refine bodyPost_ret (results_cell_tmpR rfl rfl (load_rb (hz.cell (k:=0) rfl) (hz.cell (k:=1) rfl) (hz.cell (k:=2) rfl) (hz.cell (k:=3) rfl) (hz.cell (k:=4) rfl))) rfl ?_
  exact ⟨by rw [HGL.out]; rfl,HB2.out⟩
end
end Go.Proofs.YtehllcbnheicoaaGreatDoor
