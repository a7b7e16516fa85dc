/- Lemmas for FoldTells, part 22: walks of the functions that it reaches, and the plain laws behind them. -/
import Derived.Test.YtehllcbnheicoaaGreatDoorFoldTellsK18
import Derived.Test.YtehllcbnheicoaaGreatDoorFoldTellsK21
set_option linter.unusedSimpArgs false
set_option linter.unusedVariables false
set_option maxRecDepth 100000
set_option maxHeartbeats 16000000
namespace Go.Proofs.YtehllcbnheicoaaGreatDoor
open Go.RowKit Oct
attribute [local irreducible] wpG
section
variable {base G : Nat} {w w' : World} {f : Mf} {at_ : Int} {st rg : List MV} {eos : List Eo} {pr : List (List UInt8 × List UInt8)} {tr : List Int} {tv cv iv ev lv stv opv prv trv : Value} {X : List (Pt base)}
theorem fmt_bel {n : Int} (h0 : -9223372036854775808 ≤ n) (h1 : n ≤ 9223372036854775807) {w : World} (ht : Lib.TabIs Tryz.prog w "internal/strconv.uint64pow10" .u64 Lib.pow10Tab) : Calls Tryz.prog 203 #[.int .i64 n, .int .i64 10] w fun e w' => e = .returned (.string (bs (Lib.itoa n))) ∧ Below w.heap.size w w' := by
 refine (Tryz.strconv_FormatInt_10 n h0 h1 w ht).mono ?_
 rintro e w' ⟨rfl,k,os,rfl⟩
 refine ⟨rfl,?_⟩
 have hb : Below w.heap.size w (Sort.grow (w.drewN k) os):=⟨rfl,rfl,rfl,by show w.heap.size ≤ (w.heap ++ os).size; rw [Array.size_append]; omega,fun j hj => by show (w.heap ++ os)[j]? = _; rw [Array.getElem?_append_left hj]⟩
 exact hb
theorem step_callM {P : Program} {ops : Array Oper} {o : Oper} {a : Act} {w : World} {K : Act → World → Prop} {Q : Exit → Act → World → Prop} {E : Prop} {R : Ending → World → Prop} (hg : o.guard = none) (f : FuncId) (vals : Array Value)
  (hrun : (execOp a.eval o).run P w = .ok (.enter f vals) w) (hc : Calls P f vals w R)
  (h : ∀ e w',R e w' → match e with | .returned v => K (a.put o.dst v) w' | .panicked ch => Q (.panic ch) a w' | .outgrown => LetsOut Q) : if Region.wanted o (yielded ops a.tmps) = true then Oper.wp P o a w K Q else E:=by
 have hw : Region.wanted o (yielded ops a.tmps) = true:=by simp [Region.wanted,hg]
 rw [if_pos hw]
 unfold Oper.wp
 rw [hrun]
 refine Calls.mono hc ?_
 intro e w' hR
 have:=h e w' hR
 cases e <;> exact this
theorem MR.setReg (h : MR base w G f at_ st rg eos pr tr stv opv prv trv X) {i : Nat} (hi : i < 8) (v : MV) : MR base ((w.setCell ⟨G,7 + i * 2,none⟩ (.int .i64 v.1)).setCell ⟨G,7 + i * 2 + 1,none⟩ (.string (bs v.2))) G f at_ st (rg.set i v) eos pr tr stv opv prv trv X ∧ Below base w ((w.setCell ⟨G,7 + i * 2,none⟩ (.int .i64 v.1)).setCell ⟨G,7 + i * 2 + 1,none⟩ (.string (bs v.2))):=by
 have hs : Chg (fun k => k = G) w ((w.setCell ⟨G,7 + i * 2,none⟩ (.int .i64 v.1)).setCell ⟨G,7 + i * 2 + 1,none⟩ (.string (bs v.2))):=Chg.trans (Chg.setCell w ⟨G,7 + i * 2,none⟩ _ rfl) (Chg.setCell _ ⟨G,7 + i * 2 + 1,none⟩ _ rfl)
 have hb:=(h.blk.set (7 + i * 2) (.int .i64 v.1)).set (7 + i * 2 + 1) (.string (bs v.2))
 have hc : ((mCells f at_ stv rg opv prv f.tx f.sn trv).set (7 + i * 2) (.int .i64 v.1)).set (7 + i * 2 + 1) (.string (bs v.2)) = mCells f at_ stv (rg.set i v) opv prv f.tx f.sn trv:=by
  obtain ⟨a,b,c,d,e,f',g,j,hr⟩:=eightM h.rl
  rw [hr]
  rcases (by omega : i = 0 ∨ i = 1 ∨ i = 2 ∨ i = 3 ∨ i = 4 ∨ i = 5 ∨ i = 6 ∨ i = 7) with rfl | rfl | rfl | rfl | rfl | rfl | rfl | rfl <;> rfl
 rw [hc] at hb
 have s2:=h.sep.upd (i:=0) rfl hs (fun k hk => hk) (blkPt G h.gb 227 (mCells f at_ stv (rg.set i v) opv prv f.tx f.sn trv)) hb (fun k hk => .inl hk)
 exact ⟨⟨h.gb,by rw [List.length_set]; exact h.rl,s2⟩,h.sep.updB (i:=0) rfl hs (fun k hk => hk) h.size⟩
theorem recJ_openM {w : World} {v : Value} {l : List Int} (h : recJ.Row w v l) : ∃ a n,v = .slice a l.length n ∧ ∀ k (hk : k < l.length),∃ b off,a = some ⟨b,off,none⟩ ∧ w.cell? ⟨b,off + k,none⟩ = some (.int .i64 l[k]):=by
 obtain ⟨a,cap,rfl,hle,hc⟩:=Rec.Row.open h
 refine ⟨a,cap,rfl,fun k hk => ?_⟩
 obtain ⟨b,off,ha,hu⟩:=hc k hk
 refine ⟨b,off,ha,?_⟩
 have:=hu 0 _ rfl
 rwa [show off + k * recJ.n + 0 = off + k by show off + k * 1 + 0 = _; omega] at this
theorem vtext_any (y : UInt8) (h : MR base w G ⟨tv,cv,iv,ev,lv,[],0⟩ at_ st rg eos pr tr stv opv prv trv X) (hl : st.length ≤ 1000) {l : List (List UInt8)} (ht : recS.Row w tv l) (hy : y.toNat < l.length) (hl2 : l.length ≤ 1000) :
  Calls Tryz.prog 270 #[.pointer (some ⟨G,0,none⟩),.int .u8 (y.toNat : Int)] w fun e w' => e = .returned (.int .i64 0) ∧ (∃ stv',MR base w' G ⟨tv,cv,iv,ev,lv,[],0⟩ at_ ((0,l.getD y.toNat []) :: st) rg eos pr tr stv' opv prv trv X) ∧ Below base w w':=by
 obtain ⟨a,n,rfl,-,hc⟩:=recS_open ht
 obtain ⟨b,off,rfl,d0⟩:=hc y.toNat hy
 have HP:=Lib.hid (push_any (0,l[y.toNat]) h hl)
 have hg : l.getD y.toNat [] = l[y.toNat]:=by rw [List.getD_eq_getElem?_getD,List.getElem?_eq_getElem hy]; rfl
 have c0:=h.cell (k:=0) rfl
 have i0 : (0 : Int) ≤ (y.toNat : Int):=by omega
 have i1 : (y.toNat : Int) < (l.length : Int):=by omega
 have i2 : (l.length : Int) ≤ 1000:=by omega
 have HG:=Lib.hid hg
 clear h hg ht hc
 go_enter Tryz.func270,Tryz.ntmps270
 go_wp2_with (go_at_call 293; refine HP.out.mono ?_; rintro e w2 ⟨rfl,⟨sv,hm⟩,hB⟩; have HM:=Lib.hid hm; have HB:=Lib.hid hB; clear hm hB)
 go_ret
 rw [HG.out]
 exact ⟨rfl,⟨_,HM.out⟩,HB.out⟩
theorem vinput_any (y : UInt8) (h : MR base w G ⟨tv,cv,iv,ev,lv,[],0⟩ at_ st rg eos pr tr stv opv prv trv X) (hl : st.length ≤ 1000) {l : List (List UInt8)} (ht : recS.Row w iv l) (hy : y.toNat < l.length) (hl2 : l.length ≤ 1000) :
  Calls Tryz.prog 272 #[.pointer (some ⟨G,0,none⟩),.int .u8 (y.toNat : Int)] w fun e w' => e = .returned (.int .i64 0) ∧ (∃ stv',MR base w' G ⟨tv,cv,iv,ev,lv,[],0⟩ at_ ((0,l.getD y.toNat []) :: st) rg eos pr tr stv' opv prv trv X) ∧ Below base w w':=by
 obtain ⟨a,n,rfl,-,hc⟩:=recS_open ht
 obtain ⟨b,off,rfl,d0⟩:=hc y.toNat hy
 have HP:=Lib.hid (push_any (0,l[y.toNat]) h hl)
 have hg : l.getD y.toNat [] = l[y.toNat]:=by rw [List.getD_eq_getElem?_getD,List.getElem?_eq_getElem hy]; rfl
 have c0:=h.cell (k:=2) rfl
 have i0 : (0 : Int) ≤ (y.toNat : Int):=by omega
 have i1 : (y.toNat : Int) < (l.length : Int):=by omega
 have i2 : (l.length : Int) ≤ 1000:=by omega
 have HG:=Lib.hid hg
 clear h hg ht hc
 go_enter Tryz.func272,Tryz.ntmps272
 go_wp2_with (go_at_call 293; refine HP.out.mono ?_; rintro e w2 ⟨rfl,⟨sv,hm⟩,hB⟩; have HM:=Lib.hid hm; have HB:=Lib.hid hB; clear hm hB)
 go_ret
 rw [HG.out]
 exact ⟨rfl,⟨_,HM.out⟩,HB.out⟩
theorem vshow_any (y : UInt8) (a : MV) (h : MR base w G f at_ (a :: st) rg eos pr tr stv opv prv trv X) (hl : st.length ≤ 900) (ha : vOk a) (ht : ∀ w', Below base w w' → Lib.TabIs Tryz.prog w' "internal/strconv.uint64pow10" .u64 Lib.pow10Tab) :
  Calls Tryz.prog 277 #[.pointer (some ⟨G,0,none⟩),.int .u8 (y.toNat : Int)] w fun e w' => e = .returned (.int .i64 0) ∧ (∃ stv',MR base w' G f at_ ((0,Lib.itoa a.1) :: st) rg eos pr tr stv' opv prv trv X) ∧ Below base w w':=by
 have HP:=Lib.hid (pop_any a h (by omega))
 have HT:=Lib.hid ht
 obtain ⟨h1,h2,-⟩:=ha
 clear h ht
 go_enter Tryz.func277,Tryz.ntmps277
 go_wp2_with (first | (go_at_call 293; refine (push_any (0,Lib.itoa a.1) HM3.out (by omega)).mono ?_; rintro e w4 ⟨rfl,⟨sv4,hm⟩,hB⟩; have HM4:=Lib.hid hm; have HB4:=Lib.hid (HB3.out.trans hB); clear hm hB) | (go_at_call 203; refine (fmt_bel h1 h2 (HT.out _ HB.out)).mono ?_; rintro e w3 ⟨rfl,hB⟩; have HM3:=Lib.hid (HM.out.below hB); have HB3:=Lib.hid (HB.out.trans (hB.mono HM.out.size)); clear hB) | (go_at_call 150; refine HP.out.mono ?_; rintro e w2 ⟨rfl,⟨sv,hm⟩,hB⟩; have HM:=Lib.hid hm; have HB:=Lib.hid hB; unfold mvV; clear hm hB))
 go_ret
 exact ⟨rfl,⟨_,HM4.out⟩,HB4.out⟩
theorem vset_any (y : UInt8) (hy : y.toNat < 8) (a : MV) (h : MR base w G f at_ (a :: st) rg eos pr tr stv opv prv trv X) (hl : st.length ≤ 900) :
  Calls Tryz.prog 287 #[.pointer (some ⟨G,0,none⟩),.int .u8 (y.toNat : Int)] w fun e w' => e = .returned (.int .i64 0) ∧ (∃ stv',MR base w' G f at_ st (rg.set y.toNat a) eos pr tr stv' opv prv trv X) ∧ Below base w w':=by
 have hd:=h.below (b_drew w)
 have HP:=Lib.hid (pop_any a hd (by omega))
 have HS:=Lib.hid h.size
 have i0 : (0 : Int) ≤ (y.toNat : Int):=by omega
 have i1 : (y.toNat : Int) < 8:=by omega
 have HY:=Lib.hid hy
 clear h hd
 go_enter Tryz.func287,Tryz.ntmps287
 go_wp2_with fail
 go_region_with (go_at_call 150; refine HP.out.mono ?_; rintro e w2 ⟨rfl,⟨sv,hm⟩,hB⟩; unfold mvV; have HM:=Lib.hid hm; have HB:=Lib.hid (((b_drew w).mono HS.out).trans hB); obtain ⟨q0,q1⟩:=hm.reg HY.out; have k0:=hm.free (k:=7 + y.toNat * 2) (by have:=HY.out; omega); have k1:=hm.free (k:=7 + y.toNat * 2 + 1) (by have:=HY.out; omega); clear hm hB)
 all_goals
  (try dsimp only)
  (try go_frame)
  go_wp2_with fail
  go_ret
  obtain ⟨m5,b5⟩:=HM.out.setReg HY.out a
  exact ⟨rfl,⟨_,m5⟩,HB.out.trans b5⟩
theorem vdup_any (y : UInt8) (a : MV) (h : MR base w G f at_ (a :: st) rg eos pr tr stv opv prv trv X) (hl : st.length ≤ 900) :
  Calls Tryz.prog 284 #[.pointer (some ⟨G,0,none⟩),.int .u8 (y.toNat : Int)] w fun e w' => e = .returned (.int .i64 0) ∧ (∃ stv',MR base w' G f at_ (a :: a :: st) rg eos pr tr stv' opv prv trv X) ∧ Below base w w':=by
 obtain ⟨⟨ab,cb,hsv⟩,_,_,_⟩:=h.slices
 rw [List.length_cons] at hsv
 subst hsv
 have hd:=h.below (b_drew w)
 have HP:=Lib.hid (push_any a hd (by simp; omega))
 have HS:=Lib.hid h.size
 obtain ⟨g,rfl,-,e0,e1⟩:=h.top
 have c6 : w.cell? ⟨G,6,none⟩ = some (.slice (some ⟨g,0,none⟩) (st.length + 1) cb):=h.cell (k:=6) rfl
 have hl1 : ((st.length : Int) + 1) - 1 = (st.length : Int):=by omega
 have hl2 : (0 : Int) ≤ (st.length : Int):=by omega
 have hl3 : (st.length : Int) < (st.length : Int) + 1:=by omega
 have hl4 : (st.length : Int) ≤ 1000:=by omega
 have hw : IntKind.i64.wrap (st.length : Int) = (st.length : Int):=IntWalk.i64_in _ (by omega)
 clear h hd
 go_enter Tryz.func284,Tryz.ntmps284
 go_wp2_with fail
 go_region_law (refine step_callM rfl 293 #[.pointer (some ⟨G,0,none⟩),.agg #[.int .i64 a.1,.string (bs a.2)]] (by go_simp) HP.out ?_; rintro e w2 ⟨rfl,⟨sv,hm⟩,hB⟩; have HM:=Lib.hid hm; have HB:=Lib.hid (((b_drew w).mono HS.out).trans hB); clear hm hB)
 all_goals
  (try simp only [List.getElem_toArray,List.getElem_cons_succ,List.getElem_cons_zero])
  (try go_frame)
  (try go_wp2_with fail)
  (try simp only [List.getElem_toArray,List.getElem_cons_succ,List.getElem_cons_zero])
  go_ret
  exact ⟨rfl,⟨_,HM.out⟩,HB.out⟩
theorem vturn_any (y : UInt8) (pc : Nat) (h : MR base w G ⟨tv,cv,iv,ev,lv,[],0⟩ (pc : Int) st rg eos pr tr stv opv prv trv X) {l : List Int} (ht : recJ.Row w ev l) (hp : pc < l.length) (hl2 : l.length ≤ 1000) (hv : -1000 ≤ l[pc] ∧ l[pc] ≤ 1000) :
  Calls Tryz.prog 289 #[.pointer (some ⟨G,0,none⟩),.int .u8 (y.toNat : Int)] w fun e w' => e = .returned (.int .i64 0) ∧ MR base w' G ⟨tv,cv,iv,ev,lv,[],0⟩ (l[pc] - 1) st rg eos pr tr stv opv prv trv X ∧ Below base w w':=by
 obtain ⟨a,n,rfl,hc⟩:=recJ_openM ht
 obtain ⟨b,off,rfl,d0⟩:=hc pc hp
 have c3:=h.cell (k:=3) rfl
 have c5:=h.cell (k:=5) rfl
 have f5:=h.free (k:=5) (by decide)
 have i0 : (0 : Int) ≤ (pc : Int):=by omega
 have i1 : (pc : Int) < (l.length : Int):=by omega
 have i2 : (l.length : Int) ≤ 1000:=by omega
 obtain ⟨v,hv'⟩ : ∃ v,v = l[pc]:=⟨_,rfl⟩
 rw [← hv'] at d0 hv ⊢
 obtain ⟨j0,j1⟩:=hv
 have HD:=Lib.hid (h.below (b_drew w))
 have HS:=Lib.hid h.size
 clear h ht hc hv'
 go_enter Tryz.func289,Tryz.ntmps289
 go_wp2_with fail
 go_region
 all_goals
  go_wp2_with fail
  go_ret
  obtain ⟨m5,b5⟩:=HD.out.setAt (v - 1)
  exact ⟨rfl,m5,((b_drew w).mono HS.out).trans b5⟩
theorem vbranch_any (y : UInt8) (a : MV) (pc : Nat) (h : MR base w G ⟨tv,cv,iv,ev,lv,[],0⟩ (pc : Int) (a :: st) rg eos pr tr stv opv prv trv X) (hl : st.length ≤ 900) {l : List Int} (ht : ∀ w',Below base w w' → recJ.Row w' ev l) (hp : pc < l.length) (hl2 : l.length ≤ 1000) :
  Calls Tryz.prog 288 #[.pointer (some ⟨G,0,none⟩),.int .u8 (y.toNat : Int)] w fun e w' => e = .returned (.int .i64 0) ∧ (∃ stv',MR base w' G ⟨tv,cv,iv,ev,lv,[],0⟩ (if a.1 = 0 then l[pc] else (pc : Int)) st rg eos pr tr stv' opv prv trv X) ∧ Below base w w':=by
 have HP:=Lib.hid (pop_any a h (by omega))
 have HT:=Lib.hid ht
 clear h ht
 by_cases ha : a.1 = 0
 ·rw [if_pos ha]
  have i0 : (0 : Int) ≤ (pc : Int):=by omega
  have i1 : (pc : Int) < (l.length : Int):=by omega
  have i2 : (l.length : Int) ≤ 1000:=by omega
  have t0 : (a.1 == 0) = true:=by simp [ha]
  have HA:=Lib.hid ha
  clear ha
  go_enter Tryz.func288,Tryz.ntmps288
  go_upto_region 2 with (go_at_call 150; refine HP.out.mono ?_; rintro e w2 ⟨rfl,⟨sv,hm⟩,hB⟩; unfold mvV; have HM:=Lib.hid hm; have HB:=Lib.hid hB; clear hm hB)
  obtain ⟨a',n,hev,hc⟩:=recJ_openM (HT.out _ HB.out)
  obtain ⟨b,off,rfl,d0⟩:=hc pc hp
  subst hev
  obtain ⟨v,hv'⟩ : ∃ v,v = l[pc]:=⟨_,rfl⟩
  rw [← hv'] at d0
  have HV:=Lib.hid hv'
  have c3:=HM.out.cell (k:=3) rfl
  have c5:=HM.out.cell (k:=5) rfl
  have f5:=HM.out.free (k:=5) (by decide)
  have HD:=Lib.hid (HM.out.below (b_drew w2))
  clear hc hv'
  go_region
  all_goals
   go_wp2_with fail
   go_ret
   obtain ⟨m5,b5⟩:=HD.out.setAt v
   exact ⟨rfl,⟨_,by rw [← HV.out]; exact m5⟩,(HB.out.trans ((b_drew w2).mono HM.out.size)).trans b5⟩
 ·rw [if_neg ha]
  have t0 : (a.1 == 0) = false:=by rw [beq_eq_false_iff_ne]; exact ha
  go_enter Tryz.func288,Tryz.ntmps288
  go_wp2_with (go_at_call 150; refine HP.out.mono ?_; rintro e w2 ⟨rfl,⟨sv,hm⟩,hB⟩; unfold mvV; have HM:=Lib.hid hm; have HB:=Lib.hid hB; clear hm hB)
  go_ret
  exact ⟨rfl,⟨_,HM.out⟩,HB.out⟩
end
end Go.Proofs.YtehllcbnheicoaaGreatDoor
namespace Go.Proofs.YtehllcbnheicoaaGreatDoor
open Go.RowKit Oct
attribute [local irreducible] wpG
section
variable {base G : Nat} {w w' w3 : World} {f : Mf} {at_ : Int} {st rg : List MV} {eos : List Eo} {pr : List (List UInt8 × List UInt8)} {tr : List Int} {tv cv iv ev lv stv opv prv prv' trv : Value} {X : List (Pt base)}
theorem GlobV.below {w w' : World} (h : GlobV w) (hB : Below w.heap.size w w') : GlobV w':=by
 obtain ⟨h2,⟨a,b,h3⟩,⟨c,d,h4⟩,⟨m,h5⟩⟩:=h
 have hv : Lib.TabIs Tryz.prog w' "internal/strconv.uint64pow10" .u64 Lib.pow10Tab := by
  have h2:=h2
  unfold Lib.TabIs World.var? at h2 ⊢
  generalize Tryz.prog.globalNamed "internal/strconv.uint64pow10" = og at h2 ⊢
  cases og with
  | none => cases h2
  | some g =>
   simp only [Option.bind_some] at h2 ⊢
   cases hh : w.heap[g]? with
   | none => rw [hh] at h2; cases h2
   | some o => rw [hB.block g (Array.getElem?_eq_some_iff.1 hh).1,hh]; rw [hh] at h2; exact h2
 exact ⟨hv,⟨a,b,Below.keeps hB h3⟩,⟨c,d,Below.keeps hB h4⟩,⟨m,Below.keeps hB h5⟩⟩
theorem pI_bel (s : List UInt8) (hs : s.length ≤ 1024) {w : World} (hg : GlobV w) : Calls Tryz.prog 210 #[.string (bs s),.int .i64 10,.int .i64 64] w fun e w' => ((∃ v,Lib.atoiAll s = .ok v ∧ e = .returned (.tuple #[.int .i64 v,.nilIface])) ∨ ((∀ v,Lib.atoiAll s ≠ .ok v) ∧ ∃ n tp N,e = .returned (.tuple #[.int .i64 n,.iface tp (.pointer (some ⟨N,0,none⟩))]))) ∧ Below w.heap.size w w':=by
 obtain ⟨te,pe,hsy⟩:=hg.syn
 obtain ⟨te2,pe2,hrg⟩:=hg.rng
 have hl : (bs s).data.toList = s:=by simp [bs]
 cases h : Lib.atoiAll s with
 | ok v =>
  refine (Tryz.strconv_ParseInt_10_at64_ok (bs s) (by rw [bs_size]; omega) v (by rw [hl,Lib.parseIntB_64]; exact h) w).mono ?_
  rintro e w' ⟨rfl,rfl | ⟨t,rfl⟩⟩
  ·exact ⟨.inl ⟨v,rfl,rfl⟩,Below.refl _ _⟩
  ·exact ⟨.inl ⟨v,rfl,rfl⟩,below_bytes _ _ _⟩
 | range =>
  refine (Tryz.strconv_ParseInt_10_at64_range (bs s) (by rw [bs_size]; omega) (by rw [hl,Lib.parseIntB_64]; exact h) _ w hrg (.inr ⟨te2,pe2,rfl⟩)).mono ?_
  rintro e w' ⟨N,rfl,-,-,hB⟩
  exact ⟨.inr ⟨fun v h' => by (first | cases h' | (rw [h] at h'; cases h')),_,_,_,rfl⟩,hB⟩
 | _ =>
  refine (Tryz.strconv_ParseInt_10_at64_syntax (bs s) (by rw [bs_size]; omega) (by rw [hl,Lib.parseIntB_64]; exact h) _ w hsy (.inr ⟨te,pe,rfl⟩)).mono ?_
  rintro e w' ⟨N,rfl,-,-,hB⟩
  exact ⟨.inr ⟨fun v h' => by (first | cases h' | (rw [h] at h'; cases h')),_,_,_,rfl⟩,hB⟩
theorem MR.newP (h : MR base w G f at_ st rg eos pr tr stv opv prv trv X) {l : List (List UInt8 × List UInt8)} (hc : Chg (fun k => prv.ownBlock = some k) w w3) (hg : ∀ k,prv'.ownBlock = some k → prv.ownBlock = some k ∨ w.heap.size ≤ k) (ho : recKv.Own w3 base prv' l) :
  MR base (w3.setCell ⟨G,24,none⟩ prv') G f at_ st rg eos l tr stv opv prv' trv X ∧ Below base w (w3.setCell ⟨G,24,none⟩ prv') ∧ w3.frozen? ⟨G,24,none⟩ = false ∧ w3.cell? ⟨G,24,none⟩ = some prv:=by
 have s1:=h.sep.upd (i:=4) rfl hc (fun k hk => hk) (ownPt recKv prv' l) ho hg
 have hs : Chg (fun k => k = G) w3 (w3.setCell ⟨G,24,none⟩ prv'):=Chg.setCell _ _ _ rfl
 have b3 : Blk w3 G 227 (mCells f at_ stv rg opv prv f.tx f.sn trv):=s1.get (i:=0) rfl
 have hcs : (mCells f at_ stv rg opv prv f.tx f.sn trv).set 24 prv' = mCells f at_ stv rg opv prv' f.tx f.sn trv:=by
  obtain ⟨a,b,c,d,e,f',g,j,hr⟩:=eightM h.rl
  rw [hr]; rfl
 have hb:=b3.set 24 prv'
 rw [hcs] at hb
 have s2:=s1.upd (i:=0) rfl hs (fun k hk => hk) (blkPt G h.gb 227 (mCells f at_ stv rg opv prv' f.tx f.sn trv)) hb (fun k hk => .inl hk)
 exact ⟨⟨h.gb,h.rl,s2⟩,(h.sep.updB (i:=4) rfl hc (fun k hk => hk) h.size).trans (hs.below (fun k hk => by have:=h.gb; omega) (Nat.le_trans h.size hc.size)),by obtain ⟨a,b,c,d,e,f',g,j,hr⟩:=eightM h.rl; rw [hr] at b3; exact b3.free (k:=24) (by show 24 < 28; decide),by obtain ⟨a,b,c,d,e,f',g,j,hr⟩:=eightM h.rl; rw [hr] at b3; exact b3.cell (k:=24) rfl⟩
theorem vemit_any (y : UInt8) (a b : MV) (h : MR base w G f at_ (b :: a :: st) rg eos pr tr stv opv prv trv X) (hl : st.length ≤ 900) (hp : pr.length ≤ 256) :
  Calls Tryz.prog 292 #[.pointer (some ⟨G,0,none⟩),.int .u8 (y.toNat : Int)] w fun e w' => ((256 ≤ pr.length ∧ e = .returned (.int .i64 4)) ∨ (¬ 256 ≤ pr.length ∧ e = .returned (.int .i64 0) ∧ ∃ stv' prv',MR base w' G f at_ st rg eos (pr ++ [(a.2,b.2)]) tr stv' opv prv' trv X)) ∧ Below base w w':=by
 obtain ⟨_,_,⟨pa,pc,rfl⟩,_⟩:=h.slices
 have c24 : w.cell? ⟨G,24,none⟩ = some (.slice pa pr.length pc):=h.cellR (k:=1) rfl
 have HS:=Lib.hid h.size
 by_cases h256 : 256 ≤ pr.length
 ·have t1 : (256 : Int) ≤ (pr.length : Int):=by omega
  have hi : (pr.length : Int) ≤ 256:=by omega
  clear h
  go_enter Tryz.func292,Tryz.ntmps292
  go_wp2_with fail
  go_ret
  exact ⟨.inl ⟨h256,rfl⟩,Below.refl _ _⟩
 ·have t1 : ¬ (256 : Int) ≤ (pr.length : Int):=by omega
  have hi : (pr.length : Int) ≤ 256:=by omega
  have HP:=Lib.hid (two_any a b h hl)
  have H256:=Lib.hid h256
  clear h h256
  go_enter Tryz.func292,Tryz.ntmps292
  go_upto_region 4 with (go_at_call 294; refine HP.out.mono ?_; rintro e w2 ⟨rfl,⟨sv,hm⟩,hB⟩; unfold mvV; have HM:=Lib.hid hm; have HB:=Lib.hid hB; clear hm hB)
  obtain ⟨W3,hW3⟩ : ∃ W3,W3 = (w2.alloc (.cells #[.int .i64 a.1,.string (bs a.2)] 223)).alloc (.cells #[.int .i64 b.1,.string (bs b.2)] 223):=⟨_,rfl⟩
  have hb3 : Below w2.heap.size w2 W3:=by rw [hW3]; exact bt (b_alloc _ _) (b_alloc _ _)
  have hx : Blk W3 w2.heap.size 223 [.int .i64 a.1,.string (bs a.2)]:=by rw [hW3]; exact (Blk.new w2 _ _).below (b_alloc _ _)
  have hy : Blk W3 (w2.heap.size + 1) 223 [.int .i64 b.1,.string (bs b.2)]:=by
   rw [hW3]
   have:=Blk.new (w2.alloc (.cells #[.int .i64 a.1,.string (bs a.2)] 223)) [.int .i64 b.1,.string (bs b.2)] 223
   rw [size_alM] at this
   exact this
  have hm3:=HM.out.below hb3
  have HB3:=Lib.hid (HB.out.trans (hb3.mono HM.out.size))
  obtain ⟨D,hD⟩ : ∃ D,D = w2.heap.size:=⟨_,rfl⟩
  rw [← hD] at hx hy ⊢
  rw [← hW3]
  have x1:=hx.cell (k:=1) rfl
  have y1:=hy.cell (k:=1) rfl
  have lx:=hx.lt
  have ly:=hy.lt
  have c24' : W3.cell? ⟨G,24,none⟩ = some (.slice pa pr.length pc):=hm3.cellR (k:=1) rfl
  have hGl : G < W3.heap.size:=hm3.blk.lt
  have h3d:=hm3.below (b_drew W3)
  have hgb : base ≤ W3.drew.heap.size:=h3d.size
  have hby : (pr.length + 1) * 32 ≤ 140737488355328:=by omega
  have H3D:=Lib.hid h3d
  have hop:=h3d.op
  have HM3:=Lib.hid hm3
  clear hx hy hW3 hD hb3 HM HB h3d hm3 c24
  go_region_law (refine recKv.step_append1V W3.drew (a.2,b.2) rfl _ _ 37 rfl Tryz.underlying37 base (.slice pa pr.length pc) pr rfl hop _ rfl _ rfl _ rfl hby hgb ?_; intro g gc w4 hown hc hg; have hn:=H3D.out.newP (prv':=.slice (some ⟨g,0,none⟩) (pr.length + 1) gc) (l:=pr ++ [(a.2,b.2)]) hc (fun k hk => by cases hk; exact hg) hown; have f24:=hn.2.2.1; have c24'':=hn.2.2.2; have HN:=Lib.hid hn; clear hn hown hc hg)
  all_goals
   (try simp only [List.getElem_toArray,List.getElem_cons_succ,List.getElem_cons_zero])
   (try go_frame)
   go_wp2_with fail
   go_ret
   exact ⟨.inr ⟨H256.out,rfl,_,_,HN.out.1⟩,(HB3.out.trans ((b_drew W3).mono HM3.out.size)).trans HN.out.2.1⟩
end
end Go.Proofs.YtehllcbnheicoaaGreatDoor
namespace Go.Proofs.YtehllcbnheicoaaGreatDoor
open Go.RowKit Oct
attribute [local irreducible] wpG
theorem rnum_any (n : Int) (w : World) : Calls Tryz.prog 202 #[.int .i64 n] w fun e w' => e = .returned (rvV (false,n,[])) ∧ Below w.heap.size w w':=by
 go_enter Tryz.func202,Tryz.ntmps202
 go_wp2_with fail
 have hy:=Blk.new w [.bool false,.int .i64 n,.string ⟨#[]⟩] 234
 refine bodyPost_ret (results_cellN rfl rfl (load_rv (hy.cell (k:=0) rfl) (hy.cell (k:=1) rfl) (hy.cell (k:=2) rfl))) rfl ?_
 exact ⟨rfl,b_alloc _ _⟩
theorem rtext_any (s : List UInt8) (w : World) : Calls Tryz.prog 201 #[.string (bs s)] w fun e w' => e = .returned (rvV (true,0,s)) ∧ Below w.heap.size w w':=by
 go_enter Tryz.func201,Tryz.ntmps201
 go_wp2_with fail
 have hy:=Blk.new w [.bool true,.int .i64 0,.string (bs s)] 234
 refine bodyPost_ret (results_cellN rfl rfl (load_rv (hy.cell (k:=0) rfl) (hy.cell (k:=1) rfl) (hy.cell (k:=2) rfl))) rfl ?_
 exact ⟨rfl,b_alloc _ _⟩
theorem rbit_any (b : Bool) (w : World) : Calls Tryz.prog 204 #[.bool b] w fun e w' => e = .returned (rvV (false,bitM b)) ∧ Below w.heap.size w w':=by
 obtain ⟨W1,hW1⟩ : ∃ W1,W1 = w.alloc (.cells #[.bool false,.int .i64 0,.string ⟨#[]⟩] 234):=⟨_,rfl⟩
 have hb1 : Below w.heap.size w W1:=by rw [hW1]; exact b_alloc _ _
 obtain ⟨D,hD⟩ : ∃ D,D = w.heap.size:=⟨_,rfl⟩
 have hx : Blk W1 D 234 [.bool false,.int .i64 0,.string ⟨#[]⟩]:=by rw [hD,hW1]; exact Blk.new w _ _
 have HB1:=Lib.hid hb1
 have HX:=Lib.hid hx
 have HD:=Lib.hid hD
 obtain ⟨n,hn⟩ : ∃ n : Int,n = if b = true then 1 else 0:=⟨_,rfl⟩
 have HV:=Lib.hid (show rvV (false,bitM b) = .agg #[.bool false,.int .i64 n,.string (bs [])] by unfold rvV bitM; rw [hn])
 have hN : ∀ w',Calls Tryz.prog 202 #[.int .i64 n] w' fun e w'' => e = .returned (.agg #[.bool false,.int .i64 n,.string (bs [])]) ∧ Below w'.heap.size w' w'':=fun w' => rnum_any n w'
 have HN:=Lib.hid hN
 clear hN hb1 hx
 go_enter Tryz.func204,Tryz.ntmps204
 go_upto_region 1 with fail
 rw [← hW1,← hD]
 clear hW1 hD
 cases b with
 | true =>
  obtain rfl : n = 1:=hn
  go_wp2_with (go_at_call 202; refine (HN.out _).mono ?_; rintro e w2 ⟨rfl,hB⟩; have hy:=HX.out.below hB; have y0:=hy.cell (k:=0) rfl; have y1:=hy.cell (k:=1) rfl; have y2:=hy.cell (k:=2) rfl; have k0:=hy.free (k:=0) (by simp); have k1:=hy.free (k:=1) (by simp); have k2:=hy.free (k:=2) (by simp); have HY:=Lib.hid hy; have HB:=Lib.hid (bt HB1.out hB); clear hy hB)
  obtain ⟨hy,hc⟩:=rv_store HY.out (.bool false) (.int .i64 1) (.string (bs []))
  refine bodyPost_ret (results_cellN rfl rfl (load_rv (hy.cell (k:=0) rfl) (hy.cell (k:=1) rfl) (hy.cell (k:=2) rfl))) rfl ?_
  exact ⟨by rw [HV.out],HB.out.trans (hc.below (fun k hk => by rw [show k = D from hk,HD.out]; exact Nat.le_refl _) HB.out.size)⟩
 | false =>
  obtain rfl : n = 0:=hn
  go_wp2_with (go_at_call 202; refine (HN.out _).mono ?_; rintro e w2 ⟨rfl,hB⟩; have hy:=HX.out.below hB; have y0:=hy.cell (k:=0) rfl; have y1:=hy.cell (k:=1) rfl; have y2:=hy.cell (k:=2) rfl; have k0:=hy.free (k:=0) (by simp); have k1:=hy.free (k:=1) (by simp); have k2:=hy.free (k:=2) (by simp); have HY:=Lib.hid hy; have HB:=Lib.hid (bt HB1.out hB); clear hy hB)
  obtain ⟨hy,hc⟩:=rv_store HY.out (.bool false) (.int .i64 0) (.string (bs []))
  refine bodyPost_ret (results_cellN rfl rfl (load_rv (hy.cell (k:=0) rfl) (hy.cell (k:=1) rfl) (hy.cell (k:=2) rfl))) rfl ?_
  exact ⟨by rw [HV.out],HB.out.trans (hc.below (fun k hk => by rw [show k = D from hk,HD.out]; exact Nat.le_refl _) HB.out.size)⟩
theorem clamp_sub (s : List UInt8) (k : Nat) (hk : k ≤ s.length) (n : Int) : clampM n (s.drop k).length = (min (max n 0) ((s.length : Int) - (k : Int))).toNat:=by
 unfold clampM
 rw [List.length_drop]
 omega
theorem rpart_any (s : List UInt8) (a n : Int) (w : World) (hs : s.length ≤ 1024) (ha : -9223372036854775808 ≤ a ∧ a ≤ 9223372036854775807) (hn : -9223372036854775808 ≤ n ∧ n ≤ 9223372036854775807) :
  Calls Tryz.prog 205 #[.string (bs s),.int .i64 a,.int .i64 n] w fun e w' => e = .returned (.string (bs (partM s a n))) ∧ Below w.heap.size w w':=by
 obtain ⟨k,hk⟩ : ∃ k,k = clampM a s.length:=⟨_,rfl⟩
 have hk1 : min (max a 0) (s.length : Int) = (k : Int):=by rw [hk]; unfold clampM; omega
 have hk2 : (k : Int) ≤ (s.length : Int):=by omega
 have hk3 : (0 : Int) ≤ (k : Int):=by omega
 obtain ⟨j,hj⟩ : ∃ j,j = clampM n (s.drop k).length:=⟨_,rfl⟩
 have hj1 : min (max n 0) ((s.length : Int) - (k : Int)) = (j : Int):=by rw [hj,clamp_sub s k (by omega)]; omega
 have hj2 : (j : Int) ≤ (s.length : Int) - (k : Int):=by omega
 have hj3 : (0 : Int) ≤ (j : Int):=by omega
 have hsl : (s.length : Int) ≤ 1024:=by omega
 have HV:=Lib.hid (show partM s a n = (s.drop k).take j by unfold partM; rw [← hk,← hj])
 have q1 : (k : Int) ≤ (k : Int) + (j : Int):=by omega
 have q2 : (k : Int) + (j : Int) ≤ (s.length : Int):=by omega
 clear hk hj
 go_enter Tryz.func205,Tryz.ntmps205
 go_wp2_with fail
 go_ret
 rw [HV.out,show k + j - k = j by omega]
 exact ⟨rfl,Below.refl _ _⟩
def pN (s : List UInt8) : Int:=match Lib.atoiAll s with
 | .ok v => v
 | .range => Lib.atoiSat s
 | _ => 0
theorem pN_in (s : List UInt8) : -9223372036854775808 ≤ pN s ∧ pN s ≤ 9223372036854775807:=by
 unfold pN
 cases h : Lib.atoiAll s with
 | ok v =>
  rw [← Lib.parseIntB_64] at h
  have:=Lib.parseIntB_bounds h
  simp only
  simp at this; omega
 | range => unfold Lib.atoiSat; simp only; split <;> simp
 | _ => simp
theorem pN_parse (s : List UInt8) : parseM s = if Lib.itoa (pN s) = s then pN s else 0:=by
 unfold parseM pN
 cases h : Lib.atoiAll s with
 | ok v => rfl
 | range => simp only; rw [if_neg (parse_range h)]
 | _ => simp only; rw [if_neg (parse_syntax h)]
theorem pI2_bel (s : List UInt8) (hs : s.length ≤ 1024) {w : World} (hg : GlobV w) : Calls Tryz.prog 210 #[.string (bs s),.int .i64 10,.int .i64 64] w fun e w' => (∃ ev,e = .returned (.tuple #[.int .i64 (pN s),ev])) ∧ Below w.heap.size w w':=by
 obtain ⟨te,pe,hsy⟩:=hg.syn
 obtain ⟨te2,pe2,hrg⟩:=hg.rng
 have hl : (bs s).data.toList = s:=by simp [bs]
 unfold pN
 cases h : Lib.atoiAll s with
 | ok v =>
  refine (Tryz.strconv_ParseInt_10_at64_ok (bs s) (by rw [bs_size]; omega) v (by rw [hl,Lib.parseIntB_64]; exact h) w).mono ?_
  rintro e w' ⟨rfl,rfl | ⟨t,rfl⟩⟩
  ·exact ⟨⟨_,rfl⟩,Below.refl _ _⟩
  ·exact ⟨⟨_,rfl⟩,below_bytes _ _ _⟩
 | range =>
  refine (Tryz.strconv_ParseInt_10_at64_range (bs s) (by rw [bs_size]; omega) (by rw [hl,Lib.parseIntB_64]; exact h) _ w hrg (.inr ⟨te2,pe2,rfl⟩)).mono ?_
  rintro e w' ⟨N,rfl,-,-,hB⟩
  exact ⟨⟨_,by rw [hl,Lib.intSat_64]⟩,hB⟩
 | _ =>
  refine (Tryz.strconv_ParseInt_10_at64_syntax (bs s) (by rw [bs_size]; omega) (by rw [hl,Lib.parseIntB_64]; exact h) _ w hsy (.inr ⟨te,pe,rfl⟩)).mono ?_
  rintro e w' ⟨N,rfl,-,-,hB⟩
  exact ⟨⟨_,rfl⟩,hB⟩
theorem rparse_any (s : List UInt8) (w : World) (hs : s.length ≤ 1024) (hG : GlobV w) :
  Calls Tryz.prog 206 #[.string (bs s)] w fun e w' => e = .returned (.int .i64 (parseM s)) ∧ Below w.heap.size w w':=by
 have HP:=Lib.hid (pI2_bel s hs hG)
 obtain ⟨n,hn⟩ : ∃ n,n = pN s:=⟨_,rfl⟩
 have hin:=pN_in s
 have hpa:=pN_parse s
 rw [← hn] at hin hpa HP
 have HF:=Lib.hid (fun w' (hB : Below w.heap.size w w') => fmt_bel hin.1 hin.2 (hG.below hB).tab)
 obtain ⟨u,hu⟩ : ∃ u,u = Lib.itoa n:=⟨_,rfl⟩
 rw [← hu] at HF hpa
 clear hn hu hG
 by_cases hus : u = s
 ·have HV:=Lib.hid (show parseM s = n by rw [hpa,if_pos hus])
  have t1 : (u == s) = true:=by rw [hus]; simp
  have t2 : (u != s) = false:=by rw [hus]; simp
  rw [HV.out]
  clear hus hpa
  go_enter Tryz.func206,Tryz.ntmps206
  go_wp2_with (first | (go_at_call 203; refine (HF.out _ HB.out).mono ?_; rintro e w4 ⟨rfl,hB⟩; have HB4:=Lib.hid (bt HB.out hB); clear hB) | (go_at_call 210; refine HP.out.mono ?_; rintro e w3 ⟨⟨ev,rfl⟩,hB⟩; have HB:=Lib.hid hB; clear hB))
  go_ret
  exact ⟨rfl,HB4.out⟩
 ·have HV:=Lib.hid (show parseM s = 0 by rw [hpa,if_neg hus])
  have t1 : (u == s) = false:=by simpa using hus
  have t2 : (u != s) = true:=by simpa using hus
  rw [HV.out]
  clear hus hpa
  go_enter Tryz.func206,Tryz.ntmps206
  go_wp2_with (first | (go_at_call 203; refine (HF.out _ HB.out).mono ?_; rintro e w4 ⟨rfl,hB⟩; have HB4:=Lib.hid (bt HB.out hB); clear hB) | (go_at_call 210; refine HP.out.mono ?_; rintro e w3 ⟨⟨ev,rfl⟩,hB⟩; have HB:=Lib.hid hB; clear hB))
  go_ret
  exact ⟨rfl,HB4.out⟩
theorem rPieces_any (s : List UInt8) (c : UInt8) (w : World) (hs : s.length ≤ 1024) :
  Calls Tryz.prog 207 #[.string (bs s),.int .u8 (c.toNat : Int)] w fun e w' => (∃ v,e = .returned v ∧ recS.Own w' w.heap.size v (piecesM s c)) ∧ Below w.heap.size w w':=by
 by_cases hse : s = []
 ·have HV:=Lib.hid (show piecesM s c = [] by unfold piecesM; rw [if_pos hse])
  subst hse
  rw [HV.out]
  go_enter Tryz.func207,Tryz.ntmps207
  go_wp2_with fail
  go_ret
  exact ⟨⟨_,rfl,Rec.Own.nil _ _⟩,Below.refl _ _⟩
 ·have HV:=Lib.hid (show piecesM s c = splitM c s by unfold piecesM; rw [if_neg hse])
  have t1 : (s == []) = false:=by simpa using hse
  have hsl : (s.length : Int) ≤ 1024:=by omega
  clear hse
  go_enter Tryz.func207,Tryz.ntmps207
  go_wp2_with fail
  go_loopw [5,6,7] (fun vo vf vi wr => ∃ (out : List (List UInt8)) (fr i : Nat) (av : Option Addr) (cv : Nat),vo = .slice av out.length cv ∧ vf = .int .i64 (fr : Int) ∧ vi = .int .i64 (i : Int) ∧ Hid (PInv s c out fr i) ∧ Hid (recS.Own wr w.heap.size (.slice av out.length cv) out) ∧ Hid (Below w.heap.size w wr)) (fun _ _ vi _ => s.length - (intOf vi).toNat)
  case atStart => exact ⟨[],0,0,none,0,rfl,rfl,rfl,PInv.start s c,Rec.Own.nil _ _,Below.refl _ _⟩
  case round =>
   obtain ⟨out,fr,i,av,cv,rfl,rfl,rfl,HP,HO,HB⟩:=hrel
   have p1:=HP.out.le
   have p2:=HP.out.lt
   have p3:=HP.out.len
   by_cases h0 : i < s.length
   ·have i0 : (0 : Int) ≤ (i : Int):=by omega
    have i1 : (i : Int) < (s.length : Int):=by omega
    have f0 : (0 : Int) ≤ (fr : Int):=by omega
    have f1 : (fr : Int) ≤ (i : Int):=by omega
    have f2 : (i : Int) ≤ (s.length : Int):=by omega
    by_cases hc : s[i] = c
    ·have t2 : ((s[i].toNat : Int) == (c.toNat : Int)) = true:=by rw [hc]; simp
     have HC:=Lib.hid (HP.out.cut h0 hc)
     have hlo : ((out.length : Int)) ≤ 1025:=by omega
     have hho : out.length ≤ 1025:=by omega
     clear hc p1 p2 p3
     go_wp2_with (at_builtin; go_must (refine recS.append1V _ ((s.drop fr).take (i - fr)) rfl _ _ 22 rfl Tryz.underlying22 w.heap.size _ out (HO.out.below (b_alloc _ _)) rfl _ rfl (Rec.Row.new (R:=recS) wr [(s.drop fr).take (i - fr)] _).1 (by show (out.length + 1) * 16 ≤ _; omega) (Nat.le_trans HB.out.size (b_alloc _ _).size) ?_); intro g gc w6 hown hc6 _; have HO6:=Lib.hid hown; have HB6:=Lib.hid (HB.out.trans ((((b_alloc wr (.cells (recS.cells [(s.drop fr).take (i - fr)]).toArray 9)).mono HB.out.size)).trans (hc6.below (B:=w.heap.size) (fun k hk => (Rec.Own.ltV HO.out k hk).1) (Nat.le_trans HB.out.size (b_alloc _ _).size)))); clear hown hc6)
     exact ⟨⟨_,i + 1,i + 1,some ⟨g,0,none⟩,gc,by rw [List.length_append]; rfl,by go_num,by go_num,HC.out,by rw [List.length_append]; exact HO6.out,HB6.out⟩,by simp [intOf]; omega⟩
    ·have t2 : ((s[i].toNat : Int) == (c.toNat : Int)) = false:=by
      rw [beq_eq_false_iff_ne]
      intro h
      exact hc (UInt8.toNat_inj.1 (by omega))
     have HC:=Lib.hid (HP.out.on h0 hc)
     clear hc p1 p2 p3
     go_wp2_with fail
     exact ⟨⟨out,fr,i + 1,av,cv,rfl,rfl,by go_num,HC.out,HO.out,HB.out⟩,by simp [intOf]; omega⟩
   ·have HE:=Lib.hid (HP.out.end h0)
    have f0 : (0 : Int) ≤ (fr : Int):=by omega
    have f2 : (fr : Int) ≤ (s.length : Int):=by omega
    obtain ⟨u,hu⟩ : ∃ u,u = s.drop fr:=⟨_,rfl⟩
    have hu' : List.drop fr s = u:=hu.symm
    have hq : List.take (s.length - fr) u = u:=List.take_of_length_le (by rw [hu,List.length_drop]; exact Nat.le_refl _)
    rw [hu'] at HE
    have hho : out.length ≤ 1025:=by omega
    have i1 : ¬ (i : Int) < (s.length : Int):=by omega
    clear p1 p2 p3 hu
    go_wp2_with (at_builtin; go_must (refine recS.append1V _ u rfl _ _ 22 rfl Tryz.underlying22 w.heap.size _ out (HO.out.below (b_alloc _ _)) rfl _ rfl (Rec.Row.new (R:=recS) wr [u] _).1 (by show (out.length + 1) * 16 ≤ _; omega) (Nat.le_trans HB.out.size (b_alloc _ _).size) ?_); intro g gc w6 hown hc6 _; have HO6:=Lib.hid hown; have HB6:=Lib.hid (HB.out.trans ((((b_alloc wr (.cells (recS.cells [u]).toArray 9)).mono HB.out.size)).trans (hc6.below (B:=w.heap.size) (fun k hk => (Rec.Own.ltV HO.out k hk).1) (Nat.le_trans HB.out.size (b_alloc _ _).size)))); clear hown hc6)
    go_ret
    rw [HV.out,HE.out]
    exact ⟨⟨_,rfl,HO6.out⟩,HB6.out⟩
end Go.Proofs.YtehllcbnheicoaaGreatDoor
