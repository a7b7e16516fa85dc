/- Lemmas for FoldTells, part 24: walks of the functions that it reaches, and the plain laws behind them. -/
import Derived.Test.YtehllcbnheicoaaGreatDoorFoldTellsK23
set_option linter.unusedSimpArgs false
set_option linter.unusedVariables false
set_option maxRecDepth 100000
set_option maxHeartbeats 16000000
namespace Go.Proofs.YtehllcbnheicoaaGreatDoor
open Go.RowKit Oct
attribute [local irreducible] wpG
theorem add_blockN (a : Addr) (n : Nat) : (a.add n).block = a.block:=by unfold Addr.add; split <;> rfl
theorem strs_cut {w : World} {a : Option Addr} {cap : Nat} {l : List (List UInt8)} (h : recS.Row w (.slice a l.length cap) l) (k : Nat) (hk : k ≤ l.length) :
  ∃ A C,(∀ wx,(Instr.slice 22 (.slice a l.length cap) (some (.int .i64 (k : Int))) none none).run Tryz.prog wx = .ok (.slice A (l.length - k) C) wx) ∧ recS.Row w (.slice A (l.length - k) C) (l.drop k) ∧ (∀ b,(Value.slice A (l.length - k) C).ownBlock = some b → (Value.slice a l.length cap).ownBlock = some b):=by
 obtain ⟨_,a',cap',hv,hle⟩:=id h
 injection hv with _ _ h3
 subst h3
 refine ⟨_,_,fun wx => ?_,h.cut k hk,?_⟩
 ·rw [run_slice_l wx 22 a l.length cap (by kernel_rfl) .i64 k (by omega) (by omega)]
  have he : (sizeOf (Tryz.prog.elem 22)).run Tryz.prog wx = .ok 1 wx:=by kernel_rfl
  rw [he]
  have h1 : k * recS.n = k:=Nat.mul_one k
  simp [Result.andThen,sliced,h1]
 ·intro b hA
  split at hA
  ·cases a with
   | none => cases hA
   | some ad => exact hA
  ·cases a with
   | none => cases hA
   | some ad =>
    have : (ad.add (k * recS.n)).block = b:=by simpa [Value.ownBlock] using hA
    rw [add_blockN] at this
    show some ad.block = some b
    rw [this]
section
variable {base G : Nat} {w w' w3 : World} {f : Rf} {at_ : Int} {st rg : List RV} {los l : List Lo} {e : Lo} {pr : List (List UInt8 × List UInt8)} {tv cv iv ev ow sv sv' lv lv' prv prv' : Value} {X : List (Pt base)} {q : Pt base}
theorem Sep.split {A B : List (Pt base)} {p : Pt base} (h : Sep base w (A ++ p :: B)) (p1 p2 : Pt base) (h1 : p1.P w) (h2 : p2.P w) (hf1 : ∀ k,p1.fp k → p.fp k) (hf2 : ∀ k,p2.fp k → p.fp k) (hd : ∀ k,p1.fp k → ¬ p2.fp k) : Sep base w (A ++ p1 :: B ++ [p2]):=by
 obtain ⟨hP,hS⟩:=h
 obtain ⟨hA,hpB,hAp⟩:=List.pairwise_append.1 hS
 obtain ⟨hp,hB⟩:=List.pairwise_cons.1 hpB
 refine ⟨fun x hx => ?_,?_⟩
 ·rcases List.mem_append.1 hx with hx | hx
  ·rcases List.mem_append.1 hx with hx | hx
   ·exact hP x (by simp [hx])
   ·rcases List.mem_cons.1 hx with rfl | hx
    ·exact h1
    ·exact hP x (by simp [hx])
  ·rw [List.mem_singleton] at hx; subst hx; exact h2
 ·refine List.pairwise_append.2 ⟨List.pairwise_append.2 ⟨hA,List.pairwise_cons.2 ⟨fun b hb k hk => hp b hb k (hf1 k hk),hB⟩,fun a ha b hb k hk hk' => ?_⟩,List.pairwise_singleton _ _,fun a ha b hb k hk hk' => ?_⟩
  ·rcases List.mem_cons.1 hb with rfl | hb
   ·exact hAp a ha p (by simp) k hk (hf1 k hk')
   ·exact hAp a ha b (by simp [hb]) k hk hk'
  ·rw [List.mem_singleton] at hb
   subst hb
   rcases List.mem_append.1 ha with ha | ha
   ·exact hAp a ha p (by simp) k hk (hf2 k hk')
   ·rcases List.mem_cons.1 ha with rfl | ha
    ·exact hd k hk hk'
    ·exact hp a ha k (hf2 k hk') hk
theorem RM.cell31 (h : RM base w G f at_ st rg los pr sv lv prv X) : (rCells f at_ sv rg lv prv).set 31 lv' = rCells f at_ sv rg lv' prv:=by
 obtain ⟨a,b,c,d,e,f',g,j,hr⟩:=eightR h.rl
 rw [hr]; rfl
theorem RM.newL (h : RM base w G f at_ st rg los pr sv lv prv (X ++ [q])) (hc : Chg (fun k => lv.ownBlock = some k) w w3) (hg : ∀ k,lv'.ownBlock = some k → lv.ownBlock = some k ∨ w.heap.size ≤ k) (ho : recLo.Own w3 base lv' (los ++ [e]))
  (he : q.P w3 → recS.Row w3 (loV e) e.ps) (hb : ∀ k,(loV e).ownBlock = some k → q.fp k) :
  RM base (w3.setCell ⟨G,31,none⟩ lv') G f at_ st rg (los ++ [e]) pr sv lv' prv X ∧ Below base w (w3.setCell ⟨G,31,none⟩ lv') ∧ w3.frozen? ⟨G,31,none⟩ = false ∧ w3.cell? ⟨G,31,none⟩ = some lv:=by
 have s1:=h.sep.upd (i:=2) rfl hc (fun k hk => hk) (ownPt recLo lv' (los ++ [e])) ho hg
 have hlo:=s1.get (i:=3) (p:=loPt los) rfl
 have hq : q.P w3:=s1.1 q (by simp)
 have hap : ∀ k,(loPt (base:=base) los).fp k → ¬ q.fp k:=by
  have hl : (blkPt G h.gb 238 (rCells f at_ sv rg lv prv) :: ownPt recVa sv st.reverse :: ownPt recLo lv' (los ++ [e]) :: loPt los :: ownPt recKq prv pr :: (X ++ [q]))[5 + X.length]? = some q:=by
   rw [Nat.add_comm]
   show (X ++ [q])[X.length]? = _
   simp
  exact s1.apart (i:=3) (j:=5 + X.length) (p:=loPt los) rfl hl (by omega)
 have hP : (loPt (base:=base) (los ++ [e])).P w3:=by
  refine ⟨fun x hx => ?_,List.pairwise_append.2 ⟨hlo.2,List.pairwise_singleton _ _,fun a ha b hb' k hk hk' => ?_⟩⟩
  ·rcases List.mem_append.1 hx with hx | hx
   ·exact hlo.1 x hx
   ·rw [List.mem_singleton] at hx
    subst hx
    exact ⟨he hq,fun k hk => q.lt hq k (hb k hk)⟩
  ·rw [List.mem_singleton] at hb'
   subst hb'
   exact hap k ⟨a,ha,hk⟩ (hb k hk')
 have s15 : Sep base w3 ([blkPt G h.gb 238 (rCells f at_ sv rg lv prv),ownPt recVa sv st.reverse,ownPt recLo lv' (los ++ [e])] ++ loPt (los ++ [e]) :: (ownPt recKq prv pr :: X)):=by
  refine Sep.merge (p:=loPt los) (q:=q) s1 (loPt (los ++ [e])) hP (fun k hk => ?_)
  obtain ⟨x,hx,hk⟩:=hk
  rcases List.mem_append.1 hx with hx | hx
  ·exact .inl ⟨x,hx,hk⟩
  ·rw [List.mem_singleton] at hx
   subst hx
   exact .inr (hb k hk)
 have hs : Chg (fun k => k = G) w3 (w3.setCell ⟨G,31,none⟩ lv'):=Chg.setCell _ _ _ rfl
 have b3 : Blk w3 G 238 (rCells f at_ sv rg lv prv):=s15.get (i:=0) rfl
 have hbk:=b3.set 31 lv'
 rw [h.cell31] at hbk
 have s2:=s15.upd (i:=0) rfl hs (fun k hk => hk) (blkPt G h.gb 238 (rCells f at_ sv rg lv' prv)) hbk (fun k hk => .inl hk)
 exact ⟨⟨h.gb,h.rl,s2⟩,(h.sep.updB (i:=2) rfl hc (fun k hk => hk) h.size).trans (hs.below (fun k hk => by have:=h.gb; omega) (Nat.le_trans h.size hc.size)),by obtain ⟨a,b,c,d,e,f',g,j,hr⟩:=eightR h.rl; rw [hr] at b3; exact b3.free (k:=31) (by show 31 < 33; decide),by obtain ⟨a,b,c,d,e,f',g,j,hr⟩:=eightR h.rl; rw [hr] at b3; exact b3.cell (k:=31) rfl⟩
theorem RM.popL (h : RM base w G f at_ st rg (l ++ [e]) pr sv lv prv X) (hg : ∀ k,lv'.ownBlock = some k → lv.ownBlock = some k) (ho : recLo.Own w base lv' l) :
  RM base (w.setCell ⟨G,31,none⟩ lv') G f at_ st rg l pr sv lv' prv (X ++ [loPt [e]]) ∧ Below base w (w.setCell ⟨G,31,none⟩ lv'):=by
 have s1:=h.sep.same (i:=2) rfl (ownPt recLo lv' l) ho hg
 have hlo:=h.ow
 have hpw:=(List.pairwise_append.1 hlo.2).2.2
 have s15 : Sep base w ([blkPt G h.gb 238 (rCells f at_ sv rg lv prv),ownPt recVa sv st.reverse,ownPt recLo lv' l] ++ loPt l :: (ownPt recKq prv pr :: X) ++ [loPt [e]]):=by
  refine Sep.split (p:=loPt (l ++ [e])) s1 (loPt l) (loPt [e]) ⟨fun x hx => hlo.1 x (by simp [hx]),(List.pairwise_append.1 hlo.2).1⟩ ⟨fun x hx => hlo.1 x (by rw [List.mem_singleton] at hx; simp [hx]),List.pairwise_singleton _ _⟩ ?_ ?_ ?_
  ·rintro k ⟨x,hx,hk⟩
   exact ⟨x,by simp [hx],hk⟩
  ·rintro k ⟨x,hx,hk⟩
   rw [List.mem_singleton] at hx
   exact ⟨x,by simp [hx],hk⟩
  ·rintro k ⟨x,hx,hk⟩ ⟨x',hx',hk'⟩
   exact hpw x hx x' hx' k hk hk'
 have hs : Chg (fun k => k = G) w (w.setCell ⟨G,31,none⟩ lv'):=Chg.setCell _ _ _ rfl
 have hbk:=h.blk.set 31 lv'
 rw [h.cell31] at hbk
 have s2:=s15.upd (i:=0) rfl hs (fun k hk => hk) (blkPt G h.gb 238 (rCells f at_ sv rg lv' prv)) hbk (fun k hk => .inl hk)
 exact ⟨⟨h.gb,h.rl,s2⟩,h.sep.updB (i:=0) rfl hs (fun k hk => hk) h.size⟩
end
end Go.Proofs.YtehllcbnheicoaaGreatDoor
namespace Go.Proofs.YtehllcbnheicoaaGreatDoor
open Go.RowKit Oct
attribute [local irreducible] wpG
section
variable {base G : Nat} {w w' w3 : World} {f : Rf} {at_ : Int} {st rg : List RV} {los : List Lo} {pr : List (List UInt8 × List UInt8)} {tv cv iv ev ow sv sv' lv lv' prv prv' : Value} {X : List (Pt base)}
theorem rblocks_none (n : Nat) (y : UInt8) (h : RM base w G f at_ st rg los pr sv lv prv X) (hn : n ≠ 19 ∧ n ≠ 20 ∧ n ≠ 22 ∧ n ≠ 21) :
  Calls Tryz.prog 183 #[.pointer (some ⟨G,0,none⟩),.agg #[.int .u8 (n : Int),.int .u8 (y.toNat : Int)]] w fun e w' => e = .returned (.tuple #[]) ∧ Below w.heap.size w w':=by
 have t1 : ((n : Int) == 19) = false:=by rw [beq_eq_false_iff_ne]; omega
 have t2 : ((n : Int) == 20) = false:=by rw [beq_eq_false_iff_ne]; omega
 have t3 : ((n : Int) == 22) = false:=by rw [beq_eq_false_iff_ne]; omega
 have t4 : ((n : Int) == 21) = false:=by rw [beq_eq_false_iff_ne]; omega
 have c5:=h.cell (k:=5) rfl
 have hGl:=h.blk.lt
 clear hn h
 go_enter Tryz.func183,Tryz.ntmps183
 go_wp2_with fail
 refine bodyPost_end (results_none rfl _ _ _) rfl ?_
 exact ⟨rfl,b_alloc _ _⟩
theorem relseOp_any (y : UInt8) (pc : Nat) (h : RM base w G ⟨tv,cv,iv,ev,ow⟩ (pc : Int) st rg los pr sv lv prv X) {l : List Int} (ht : recJ.Row w ev l) (hp : pc < l.length) (hl2 : l.length ≤ 1000) (hv : -1000 ≤ l[pc] ∧ l[pc] ≤ 1000) :
  Calls Tryz.prog 183 #[.pointer (some ⟨G,0,none⟩),.agg #[.int .u8 20,.int .u8 (y.toNat : Int)]] w fun e w' => e = .returned (.tuple #[]) ∧ RM base w' G ⟨tv,cv,iv,ev,ow⟩ (l[pc] - 1) st rg los pr sv lv prv X ∧ Below base w w':=by
 obtain ⟨W1,hW1⟩ : ∃ W1,W1 = w.alloc (.cells #[.int .u8 20,.int .u8 (y.toNat : Int)] 97):=⟨_,rfl⟩
 have hb1 : Below w.heap.size w W1:=by rw [hW1]; exact b_alloc _ _
 obtain ⟨D1,hD1⟩ : ∃ D1,D1 = w.heap.size:=⟨_,rfl⟩
 have hx : Blk W1 D1 97 [.int .u8 20,.int .u8 (y.toNat : Int)]:=by rw [hD1,hW1]; exact Blk.new w _ _
 have x0:=hx.cell (k:=0) rfl
 have h1:=h.below hb1
 obtain ⟨a',n,hev,hc⟩:=recJ_openM (ht.below hb1)
 obtain ⟨b,off,rfl,d0⟩:=hc pc hp
 subst hev
 obtain ⟨v,hv'⟩ : ∃ v,v = l[pc]:=⟨_,rfl⟩
 rw [← hv'] at d0 hv ⊢
 obtain ⟨j0,j1⟩:=hv
 have i0 : (0 : Int) ≤ (pc : Int):=by omega
 have i1 : (pc : Int) < (l.length : Int):=by omega
 have i2 : (l.length : Int) ≤ 1000:=by omega
 have c3:=h1.cell (k:=3) rfl
 have c5:=h1.cell (k:=5) rfl
 have f5:=h1.free (k:=5) (by decide)
 have HB1:=Lib.hid (hb1.mono h.size)
 have H1:=Lib.hid h1
 clear h h1 hb1 hx hc hv' ht
 go_enter Tryz.func183,Tryz.ntmps183
 go_upto_region 1 with fail
 rw [← hW1,← hD1]
 clear hW1 hD1
 go_wp2_with fail
 refine bodyPost_end (results_none rfl _ _ _) rfl ?_
 obtain ⟨m5,b5⟩:=H1.out.setAt (v - 1)
 exact ⟨rfl,m5,HB1.out.trans b5⟩
theorem rifOp_any (y : UInt8) (a : RV) (pc : Nat) (h : RM base w G ⟨tv,cv,iv,ev,ow⟩ (pc : Int) (a :: st) rg los pr sv lv prv X) (hl : st.length ≤ 900) {l : List Int} (ht : ∀ w',Below base w w' → recJ.Row w' ev l) (hp : pc < l.length) (hl2 : l.length ≤ 1000) :
  Calls Tryz.prog 183 #[.pointer (some ⟨G,0,none⟩),.agg #[.int .u8 19,.int .u8 (y.toNat : Int)]] w fun e w' => e = .returned (.tuple #[]) ∧ (∃ sv',RM base w' G ⟨tv,cv,iv,ev,ow⟩ (if a.2.1 = 0 then l[pc] else (pc : Int)) st rg los pr sv' lv prv X) ∧ Below base w w':=by
 obtain ⟨W1,hW1⟩ : ∃ W1,W1 = w.alloc (.cells #[.int .u8 19,.int .u8 (y.toNat : Int)] 97):=⟨_,rfl⟩
 have hb1 : Below w.heap.size w W1:=by rw [hW1]; exact b_alloc _ _
 obtain ⟨D1,hD1⟩ : ∃ D1,D1 = w.heap.size:=⟨_,rfl⟩
 have hx : Blk W1 D1 97 [.int .u8 19,.int .u8 (y.toNat : Int)]:=by rw [hD1,hW1]; exact Blk.new w _ _
 have x0:=hx.cell (k:=0) rfl
 have h1:=h.below hb1
 have c5:=h1.cell (k:=5) rfl
 have HP:=Lib.hid (rpop_any a h1 (by omega))
 have HB1:=Lib.hid (hb1.mono h.size)
 have HT:=Lib.hid ht
 have i0 : (0 : Int) ≤ (pc : Int):=by omega
 have i1 : (pc : Int) < (l.length : Int):=by omega
 have i2 : (l.length : Int) ≤ 1000:=by omega
 clear h h1 hb1 hx ht
 by_cases ha : a.2.1 = 0
 ·rw [if_pos ha]
  have t0 : (a.2.1 == 0) = true:=by simp [ha]
  clear ha
  go_enter Tryz.func183,Tryz.ntmps183
  go_upto_region 1 with fail
  rw [← hW1,← hD1]
  clear hW1 hD1
  go_upto_region 5 with (go_at_call 154; refine HP.out.mono ?_; rintro e w2 ⟨rfl,⟨sv,hm⟩,hB⟩; unfold rvV; have HM:=Lib.hid hm; have HB:=Lib.hid (HB1.out.trans hB); clear hm hB)
  obtain ⟨a',n,hev,hc⟩:=recJ_openM (HT.out _ HB.out)
  obtain ⟨b,off,rfl,d0⟩:=hc pc hp
  subst hev
  obtain ⟨v,hv'⟩ : ∃ v,v = l[pc]:=⟨_,rfl⟩
  rw [← hv'] at d0
  have HV:=Lib.hid hv'
  have c3:=HM.out.cell (k:=3) rfl
  have c5:=HM.out.cell (k:=5) rfl
  have f5:=HM.out.free (k:=5) (by decide)
  clear hc hv'
  go_wp2_with fail
  refine bodyPost_end (results_none rfl _ _ _) rfl ?_
  obtain ⟨m5,b5⟩:=HM.out.setAt v
  exact ⟨rfl,⟨_,by rw [← HV.out]; exact m5⟩,HB.out.trans b5⟩
 ·rw [if_neg ha]
  have t0 : (a.2.1 == 0) = false:=by rw [beq_eq_false_iff_ne]; exact ha
  clear ha
  go_enter Tryz.func183,Tryz.ntmps183
  go_upto_region 1 with fail
  rw [← hW1,← hD1]
  clear hW1 hD1
  go_wp2_with (go_at_call 154; refine HP.out.mono ?_; rintro e w2 ⟨rfl,⟨sv,hm⟩,hB⟩; unfold rvV; have HM:=Lib.hid hm; have HB:=Lib.hid (HB1.out.trans hB); clear hm hB)
  refine bodyPost_end (results_none rfl _ _ _) rfl ?_
  exact ⟨rfl,⟨_,HM.out⟩,HB.out⟩
end
end Go.Proofs.YtehllcbnheicoaaGreatDoor
namespace Go.Proofs.YtehllcbnheicoaaGreatDoor
open Go.RowKit Oct
attribute [local irreducible] wpG
section
variable {base G : Nat} {w w' w3 : World} {f : Rf} {at_ : Int} {st rg : List RV} {los : List Lo} {pr : List (List UInt8 × List UInt8)} {tv cv iv ev ow sv sv' lv lv' prv prv' : Value} {X : List (Pt base)}
theorem RM.addOwn {v : Value} {l : List (List UInt8)} (h : RM base w G f at_ st rg los pr sv lv prv X) (hB : Below w.heap.size w w') (ho : recS.Own w' w.heap.size v l) : RM base w' G f at_ st rg los pr sv lv prv (X ++ [ownPt recS v l]) :=
 ⟨h.gb,h.rl,h.sep.snoc hB (ownPt recS v l) (ho.baseLe h.size) (fun k hk => (Rec.Own.ltV ho k hk).1)⟩
theorem reachOp_any (y : UInt8) (a : RV) (pc : Nat) (h : RM base w G ⟨tv,cv,iv,ev,ow⟩ (pc : Int) (a :: st) rg los pr sv lv prv X) (hl : st.length ≤ 900) (hlo : los.length ≤ 900) (ha : a.2.2.length ≤ 1024) {l : List Int} (ht : ∀ w',Below base w w' → recJ.Row w' ev l) (hp : pc < l.length) (hl2 : l.length ≤ 1000) :
  Calls Tryz.prog 183 #[.pointer (some ⟨G,0,none⟩),.agg #[.int .u8 22,.int .u8 (y.toNat : Int)]] w fun r w' => r = .returned (.tuple #[]) ∧
   ((piecesM a.2.2 y = [] ∧ ∃ sv',RM base w' G ⟨tv,cv,iv,ev,ow⟩ l[pc] st rg los pr sv' lv prv X) ∨
    (∃ p ps,piecesM a.2.2 y = p :: ps ∧ ∃ sv' lv' e',e'.at_ = pc ∧ e'.ps = ps ∧ RM base w' G ⟨tv,cv,iv,ev,ow⟩ (pc : Int) ((true,0,p) :: st) rg (los ++ [e']) pr sv' lv' prv X)) ∧ Below base w w':=by
 obtain ⟨W1,hW1⟩ : ∃ W1,W1 = w.alloc (.cells #[.int .u8 22,.int .u8 (y.toNat : Int)] 97):=⟨_,rfl⟩
 have hb1 : Below w.heap.size w W1:=by rw [hW1]; exact b_alloc _ _
 obtain ⟨D1,hD1⟩ : ∃ D1,D1 = w.heap.size:=⟨_,rfl⟩
 have hx : Blk W1 D1 97 [.int .u8 22,.int .u8 (y.toNat : Int)]:=by rw [hD1,hW1]; exact Blk.new w _ _
 have hD1b : base ≤ D1:=by rw [hD1]; exact h.size
 have x0:=hx.cell (k:=0) rfl
 have x1:=hx.cell (k:=1) rfl
 have hm1 : RM base W1 G ⟨tv,cv,iv,ev,ow⟩ (pc : Int) (a :: st) rg los pr sv lv prv (X ++ [blkPt D1 hD1b 97 [.int .u8 22,.int .u8 (y.toNat : Int)]]):=by subst hD1; rw [hW1]; exact h.add _ _
 have c5:=hm1.cell (k:=5) rfl
 have HM1:=Lib.hid hm1
 have HP:=Lib.hid (rpop_any a (hm1.below (b_drew W1)) (by omega))
 have HB1:=Lib.hid (hb1.mono h.size)
 have HT:=Lib.hid ht
 obtain ⟨ps0,hps0⟩ : ∃ ps0,ps0 = piecesM a.2.2 y:=⟨_,rfl⟩
 have HPI:=Lib.hid (fun w' => rPieces_any a.2.2 y w' ha)
 rw [← hps0] at HPI ⊢
 have hpl : ps0.length ≤ 1025:=by rw [hps0]; exact (piecesM_ok ha y).1
 have HPL:=Lib.hid hpl
 clear h hm1 hb1 hx ht hps0 hpl
 go_enter Tryz.func183,Tryz.ntmps183
 go_upto_region 1 with fail
 rw [← hW1,← hD1]
 clear hW1 hD1
 go_upto_region 9 with fail
 go_cut [5] (fun t wx => ∃ av cp sv2,t = .slice av ps0.length cp ∧ Hid (RM base wx G ⟨tv,cv,iv,ev,ow⟩ (pc : Int) st rg los pr sv2 lv prv ((X ++ [blkPt D1 hD1b 97 [.int .u8 22,.int .u8 (y.toNat : Int)]]) ++ [ownPt recS (.slice av ps0.length cp) ps0])) ∧ Hid (Below base w wx))
 case first =>
  go_region_law (first | (refine step_callM rfl 207 #[.string (bs a.2.2),.int .u8 (y.toNat : Int)] (by go_simp) (HPI.out w2) ?_; rintro r w4 ⟨⟨pv,rfl,ho⟩,hB⟩; obtain ⟨av,cp,rfl⟩:=owns_slice ho; have HM4:=Lib.hid (HM.out.addOwn hB ho); have HB4:=Lib.hid (HB.out.trans (hB.mono HM.out.size)); clear hB ho) | (refine step_callM rfl 154 #[.pointer (some ⟨G,0,none⟩)] (by go_simp) HP.out ?_; rintro r w2 ⟨rfl,⟨sv2,hm⟩,hB⟩; unfold rvV; have hD4 : Blk w2 D1 97 [.int .u8 22,.int .u8 (y.toNat : Int)]:=hm.loc (p:=blkPt D1 hD1b 97 [.int .u8 22,.int .u8 (y.toNat : Int)]) (by simp); have x1':=hD4.cell (k:=1) rfl; clear hD4; have HM:=Lib.hid hm; have HB:=Lib.hid ((HB1.out.trans ((b_drew W1).mono HM1.out.size)).trans hB); clear hm hB))
  all_goals
   (try simp only [List.getElem_toArray,List.getElem_cons_succ,List.getElem_cons_zero])
   (try go_frame)
   go_wp2_with fail
   go_meet
   case rel => exact ⟨_,_,_,rfl,HM4.out,HB4.out⟩
 case rest =>
  obtain ⟨av,cp,sv2,rfl,HM,HB⟩:=hcut
  clear x0 x1 c5
  have i0 : (0 : Int) ≤ (pc : Int):=by omega
  have i1 : (pc : Int) < (l.length : Int):=by omega
  have i2 : (l.length : Int) ≤ 1000:=by omega
  cases ps0 with
  | nil =>
   obtain ⟨a',n,hev,hc⟩:=recJ_openM (HT.out _ HB.out)
   obtain ⟨b,off,rfl,d0⟩:=hc pc hp
   subst hev
   obtain ⟨v,hv'⟩ : ∃ v,v = l[pc]:=⟨_,rfl⟩
   rw [← hv'] at d0
   have HV:=Lib.hid hv'
   have c3:=HM.out.cell (k:=3) rfl
   have c5:=HM.out.cell (k:=5) rfl
   have f5:=HM.out.free (k:=5) (by decide)
   clear hc hv'
   go_wp2_with fail
   obtain ⟨m5,b5⟩:=HM.out.setAt v
   refine bodyPost_ret (results_none rfl _ _ _) rfl ?_
   first
    | exact ⟨rfl,⟨_,by rw [← HV.out]; exact m5.drop.drop⟩,HB.out.trans b5⟩
    | exact ⟨rfl,.inl ⟨rfl,_,by rw [← HV.out]; exact m5.drop.drop⟩,HB.out.trans b5⟩
  | cons p ps =>
   simp only [List.length_cons] at HM HPL ⊢
   obtain ⟨n1,hn1⟩ : ∃ n1,n1 = ps.length + 1:=⟨_,rfl⟩
   rw [← hn1] at HM HPL ⊢
   have hown : recS.Own wc base (.slice av n1 cp) (p :: ps):=HM.out.loc (p:=ownPt recS (.slice av n1 cp) (p :: ps)) (by simp)
   have hrow0 : recS.Row wc (.slice av (p :: ps).length cp) (p :: ps):=by rw [List.length_cons,← hn1]; exact hown.row
   obtain ⟨av',cp',hvv,-,hcc⟩:=recS_open hown.row
   obtain ⟨b,off,rfl,d0⟩:=hcc 0 (by simp)
   injection hvv with e1 e2 e3
   subst e1 e3
   clear e2
   have d0 : wc.cell? ⟨b,off,none⟩ = some (.string (bs p)):=d0
   have i3 : ((n1 : Int) == 0) = false:=by rw [beq_eq_false_iff_ne]; omega
   have i4 : (0 : Int) < (n1 : Int):=by omega
   have i5 : (n1 : Int) ≤ 1025:=by have:=HPL.out; omega
   have HN1:=Lib.hid hn1
   have HR0:=Lib.hid hrow0
   have hbl:=lt_of_cell d0
   clear hown hcc hrow0 hn1
   go_upto_region 13 with (first | (go_at_call 200; refine (rpush_any (true,0,p) (HM.out.below HC4.out) (by omega)).mono ?_; rintro r w5 ⟨rfl,⟨sv5,hm⟩,hB⟩; have HM5:=Lib.hid hm; have HB5:=Lib.hid ((HB.out.trans (HC4.out.mono HM.out.size)).trans hB); clear hm hB) | (go_at_call 201; refine (rtext_any p _).mono ?_; rintro r w4 ⟨rfl,hB⟩; have HC4:=Lib.hid hB; clear hB))
   have hown5 : recS.Own w5 base (.slice (some ⟨b,off,none⟩) n1 cp) (p :: ps):=HM5.out.loc (p:=ownPt recS (.slice (some ⟨b,off,none⟩) n1 cp) (p :: ps)) (by simp)
   obtain ⟨A,C,hrun0,hrow5,hblk5⟩:=strs_cut (l:=p :: ps) (a:=some ⟨b,off,none⟩) (cap:=cp) (by rw [List.length_cons,← HN1.out]; exact hown5.row) 1 (by simp)
   have hm0 : (p :: ps).length - 1 = ps.length:=by simp
   rw [hm0] at hrun0 hrow5 hblk5
   have hrun : ∀ wx,(Instr.slice 22 (.slice (some ⟨b,off,none⟩) n1 cp) (some (.int .i64 1)) none none).run Tryz.prog wx = .ok (.slice A ps.length C) wx:=fun wx => by
    have:=hrun0 wx
    rw [List.length_cons,← HN1.out] at this
    exact this
   have hrow5 : recS.Row w5 (.slice A ps.length C) ps:=hrow5
   have hblk5 : ∀ k,(Value.slice A ps.length C).ownBlock = some k → (Value.slice (some ⟨b,off,none⟩) n1 cp).ownBlock = some k:=fun k hk => by
    have:=hblk5 k hk
    rw [List.length_cons,← HN1.out] at this
    exact this
   obtain ⟨av,hav⟩ : ∃ av : Option Addr,av = some ⟨b,off,none⟩:=⟨_,rfl⟩
   have hn1:=HN1.out
   subst hn1
   rw [← hav] at hrun hblk5 HM5 ⊢
   have HAV:=Lib.hid hav
   clear hav
   obtain ⟨e,he⟩ : ∃ e : Lo,e = ⟨pc,A,ps.length,C,ps⟩:=⟨_,rfl⟩
   have HEC:=Lib.hid (show recLo.cell e = [.int .i64 (pc : Int),.slice A ps.length C] by rw [he]; rfl)
   have HEV:=Lib.hid (show loV e = .slice A ps.length C by rw [he]; rfl)
   have HEA:=Lib.hid (show e.at_ = pc ∧ e.ps = ps by rw [he]; exact ⟨rfl,rfl⟩)
   have HROW:=Lib.hid hrow5
   have HBLK:=Lib.hid hblk5
   obtain ⟨_,⟨al,cl,rfl⟩,_⟩:=HM5.out.slices
   have c31 : w5.cell? ⟨G,31,none⟩ = some (.slice al los.length cl):=HM5.out.cellR (k:=0) rfl
   have HOL:=Lib.hid HM5.out.ol
   have hlo2 : (los.length : Int) ≤ 900:=by omega
   clear hown5 hrun0 hm0 hrow5 hblk5 he d0 hbl HR0 i3 i4 i5 HN1 HPL
   refine region_relA recLo los e 14 [(4,.exact _ (.slice al los.length cl)),(5,kOwnA recLo w5.heap.size los e),(8,.exact _ (.slice A ps.length C)),(10,kOneA recLo w5.heap.size los e),(11,kOwnB recLo w5.heap.size los e)] (by kernel_rfl) (by kernel_rfl) ?_
   simp only [List.take_succ_cons,List.take_zero,List.drop_succ_cons,List.drop_zero]
   (repeat (first | (refine wpG_skip (by kernel_rfl) (fun K hK => ?_); go_big_quiet_skip; refine wpQuiet_nil (hK _ ?_); clear hK K) | (refine wpG_quiet (by rfl) (by rfl) (fun K hK => ?_); go_big_quiet_want; go_big_quiet_op; go_big_quiet_on; refine wpQuiet_nil (hK _ ?_); clear hK K) | (refine wpG_nilOk rfl rfl rfl (by kernel_rfl) (fun K hK => ?_); go_simp; refine hK _ ?_; clear hK K)))
   refine wpG_exact rfl (by kernel_rfl) (fun w' G hB hS hG => ?_) (fun K hK => ?_)
   ·have y:=Below.keeps hB c31
    go_simp; exact hG _ (RelA.refl _)
   go_simp; refine hK _ ?_; clear hK K; (repeat (first | (refine wpG_skip (by kernel_rfl) (fun K hK => ?_); go_big_quiet_skip; refine wpQuiet_nil (hK _ ?_); clear hK K) | (refine wpG_quiet (by rfl) (by rfl) (fun K hK => ?_); go_big_quiet_want; go_big_quiet_op; go_big_quiet_on; refine wpQuiet_nil (hK _ ?_); clear hK K) | (refine wpG_nilOk rfl rfl rfl (by kernel_rfl) (fun K hK => ?_); go_simp; refine hK _ ?_; clear hK K)))
   refine wpG_known (kOwnA recLo w5.heap.size los e) rfl (by kernel_rfl) (fun w' G hB hS hG => ?_) (fun x K hK => ?_)
   ·refine recLo.grow_copy _ _ 236 rfl Tryz.underlying236 w5.heap.size rfl _ los (HOL.out.below hB).row rfl (by show los.length * 32 ≤ _; omega) hB.size (fun A C w'' ho hb => hG (A,C) w'' (RelA.of_bel hB.size hb) (fun φ h => by cases h; exact ho))
   obtain ⟨ad,c⟩:=x; go_simp; refine hK _ ?_; clear hK K; (repeat (first | (refine wpG_skip (by kernel_rfl) (fun K hK => ?_); go_big_quiet_skip; refine wpQuiet_nil (hK _ ?_); clear hK K) | (refine wpG_quiet (by rfl) (by rfl) (fun K hK => ?_); go_big_quiet_want; go_big_quiet_op; go_big_quiet_on; refine wpQuiet_nil (hK _ ?_); clear hK K) | (refine wpG_nilOk rfl rfl rfl (by kernel_rfl) (fun K hK => ?_); go_simp; refine hK _ ?_; clear hK K)))
   refine wpG_exact rfl (by kernel_rfl) (fun w' G hB hS hG => ?_) (fun K hK => ?_)
   ·go_simp; exact hG _ (RelA.refl _)
   go_simp; refine hK _ ?_; clear hK K; (repeat (first | (refine wpG_skip (by kernel_rfl) (fun K hK => ?_); go_big_quiet_skip; refine wpQuiet_nil (hK _ ?_); clear hK K) | (refine wpG_quiet (by rfl) (by rfl) (fun K hK => ?_); go_big_quiet_want; go_big_quiet_op; go_big_quiet_on; refine wpQuiet_nil (hK _ ?_); clear hK K) | (refine wpG_nilOk rfl rfl rfl (by kernel_rfl) (fun K hK => ?_); go_simp; refine hK _ ?_; clear hK K)))
   refine wpG_known (kOneA recLo w5.heap.size los e) rfl (by kernel_rfl) (fun w' G hB hS hG => ?_) (fun (bb : Nat) K hK => ?_)
   ·go_simp; exact one_newA hG (by rw [HEC.out]) hB.size
   go_simp; refine hK _ ?_; clear hK K; (repeat (first | (refine wpG_skip (by kernel_rfl) (fun K hK => ?_); go_big_quiet_skip; refine wpQuiet_nil (hK _ ?_); clear hK K) | (refine wpG_quiet (by rfl) (by rfl) (fun K hK => ?_); go_big_quiet_want; go_big_quiet_op; go_big_quiet_on; refine wpQuiet_nil (hK _ ?_); clear hK K) | (refine wpG_nilOk rfl rfl rfl (by kernel_rfl) (fun K hK => ?_); go_simp; refine hK _ ?_; clear hK K)))
   refine wpG_known (kOwnB recLo w5.heap.size los e) rfl (by kernel_rfl) (fun w' G hB hS hG => ?_) (fun y K hK => ?_)
   ·have hown : recLo.Own w' w5.heap.size (.slice ad los.length c) los:=at1 hS (by kernel_rfl)
    have hone : w'.heap[bb]? = some (.cells (recLo.cell e).toArray recLo.e (0,0)):=at0 hS (by kernel_rfl)
    exact recLo.grow_app1 _ _ 236 rfl Tryz.underlying236 w5.heap.size _ los e hown rfl bb rfl hone (by show (los.length + 1) * 32 ≤ _; omega) hB.size (fun A C w'' ho hr => hG (A,C) w'' hr (fun φ h => by cases h; exact ho))
   obtain ⟨ad2,c2⟩:=y
   go_simp; refine hK _ ?_; clear hK K; (repeat (first | (refine wpG_skip (by kernel_rfl) (fun K hK => ?_); go_big_quiet_skip; refine wpQuiet_nil (hK _ ?_); clear hK K) | (refine wpG_quiet (by rfl) (by rfl) (fun K hK => ?_); go_big_quiet_want; go_big_quiet_op; go_big_quiet_on; refine wpQuiet_nil (hK _ ?_); clear hK K) | (refine wpG_nilOk rfl rfl rfl (by kernel_rfl) (fun K hK => ?_); go_simp; refine hK _ ?_; clear hK K)))
   refine wpG_nilN ?_
   intro w6 hB6 hA6
   have ho6 : recLo.Own w6 w5.heap.size (.slice ad2 (los.length + 1) c2) (los ++ [e]):=all0 hA6
   have hn:=HM5.out.newL (w3:=w6) (lv':=.slice ad2 (los.length + 1) c2) (e:=e) (Chg.of_below hB6) (fun k hk => .inr (Rec.Own.ltV ho6 k hk).1) (ho6.baseLe HM5.out.size) (fun _ => by rw [HEV.out,HEA.out.2]; exact HROW.out.below hB6) (fun k hk => HBLK.out k (by rw [← HEV.out]; exact hk))
   have c31':=hn.2.2.2
   have f31:=hn.2.2.1
   have HN:=Lib.hid hn
   clear hn ho6 hB6 hA6 c31
   go_wp2_with fail
   refine bodyPost_end (results_none rfl _ _ _) rfl ?_
   exact ⟨rfl,.inr ⟨p,ps,rfl,_,_,e,HEA.out.1,HEA.out.2,HN.out.1.drop⟩,HB5.out.trans HN.out.2.1⟩
end
end Go.Proofs.YtehllcbnheicoaaGreatDoor
