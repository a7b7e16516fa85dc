/- Lemmas for FoldTells, part 46: walks of the functions that it reaches, and the plain laws behind them. -/
import Derived.Deep.AppendLies
import Derived.Test.YtehllcbnheicoaaGreatDoorFoldTellsK24
import Derived.Test.YtehllcbnheicoaaGreatDoorFoldTellsK40
import Derived.Test.YtehllcbnheicoaaGreatDoorFoldTellsK43
import Derived.Test.YtehllcbnheicoaaGreatDoorFoldTellsK45
set_option linter.unusedSimpArgs false
set_option linter.unusedVariables false
set_option maxRecDepth 100000
set_option maxHeartbeats 16000000
namespace Go.Proofs.YtehllcbnheicoaaGreatDoor
open Go.RowKit Oct
attribute [local go_sem] Oper.semAt_some
attribute [local irreducible] wpG
theorem by16G {a c : Nat} (h : a ≤ 1000000) (hc : c < a) : (c + 1) * 16 ≤ 140737488355328:=by omega
theorem groupsF_iter (n X Q D : Nat) (v : Value) (rows : List (List PR)) (W : World) (hX : Blk W X 28 [v]) (hr : RR W v rows) (hl : rows.length ≤ 1000000) (hf : rows.flatten.length ≤ 1000000) (hQ : Blk W Q 37 [.slice none 0 0]) (hQD : Q < D) (hD : D + 2 ≤ W.heap.size)
  (hD0 : ∀ o,W.cell? ⟨D,o,none⟩ = none) (hD1 : ∀ o,W.cell? ⟨D + 1,o,none⟩ = none) :
  IterG Fence.wide n Tryz.prog 68 #[.pointer (some ⟨X,0,none⟩)] (fun U U' => Below U.heap.size U U') (fun U U' => Q < U.heap.size → YrF Q D U U') (fun _ => True) (ElF D) (grp (srt rows.flatten)) W:=by
 intro l J Jx hJ hJx hY hJ0
 refine callsIn_wide.2 ?_
 have HJ:=Lib.hid hJ
 have HJx:=Lib.hid hJx
 have HY:=Lib.hid hY
 have HM:=Lib.hid (Merge_any v rows W hr (Nat.le_trans hl (by decide)) (Nat.le_trans (Nat.mul_le_mul_right 32 hf) (by decide)))
 have HG:=Lib.hid (fun (u : Value) (w' : World) (h : OP w' W.heap.size u (srt rows.flatten)) => Groups_any u (srt rows.flatten) w' (OP.reads h) (by rw [srt_length]; exact Nat.le_trans (Nat.mul_le_mul_right 32 hf) (by decide)))
 have hne : ∀ g ∈ grp (srt rows.flatten),0 < g.length:=grp_ne _ _ (Nat.le_refl _)
 have hgl : ∀ g ∈ grp (srt rows.flatten),g.length ≤ 1000000:=fun g hg => by
  have h1:=(grp_spec (srt rows.flatten).length (srt rows.flatten) (Nat.le_refl _) (srt_sorted _)).1 g hg
  have h2 : g.length ≤ (srt rows.flatten).length:=by rw [h1.1]; unfold ofKey; exact List.length_filter_le _ _
  rw [srt_length] at h2
  exact Nat.le_trans h2 hf
 have hgn : (grp (srt rows.flatten)).length ≤ 1000000:=by
  have h1:=grp_length_le (srt rows.flatten).length (srt rows.flatten) (Nat.le_refl _)
  rw [srt_length] at h1
  exact Nat.le_trans h1 hf
 have c0:=hX.cell (k:=0) rfl
 rw [srt_srt] at HG
 obtain ⟨gs,hgs⟩ : ∃ gs,gs = grp (srt rows.flatten):=⟨_,rfl⟩
 rw [← hgs] at HG HY hne hgl hgn ⊢
 have HNE:=Lib.hid hne
 have HGL:=Lib.hid hgl
 have HQ:=Lib.hid hQ
 have HD0:=Lib.hid hD0
 have HD1:=Lib.hid hD1
 have HJ0:=Lib.hid hJ0
 obtain ⟨av,cv,rfl,-,-,-⟩:=hr
 clear hJ hJx hY hJ0 hX hne hgl hQ hD0 hD1 hgs
 go_enter Tryz.func68,Tryz.ntmps68
 go_wp2_with (first | (go_at_call 70; refine HM.out.mono ?_; rintro e w1 ⟨mv,rfl,hown1,hB1⟩; obtain ⟨ma,mc,rfl⟩:=owns_slice hown1; have HG1:=Lib.hid (HG.out _ _ hown1); have HB1:=Lib.hid hB1; clear hown1 hB1 c0) | (go_at_call 69; refine HG1.out.mono ?_; rintro e w2 ⟨gv,base,cells,rfl,hown2,hrows2,-,hB2⟩; obtain ⟨ga,gc,rfl⟩:=owns_slice hown2; have HRR:=Lib.hid (RowsIn16.rr hown2 hrows2); have HB2:=Lib.hid (bt HB1.out hB2); clear hown2 hrows2 hB2))
 have HQ2:=Lib.hid (show ∀ o u,w2.cell? ⟨Q,o,none⟩ = some u → u = .slice none 0 0 from fun o u hu => by
  have hq : w2.heap[Q]? = some (.cells #[.slice none 0 0] 37 (0,0)):=HQ.out.below HB2.out
  cases o with
  | zero => have:=cell_of_one hq; rw [this] at hu; injection hu with hu; exact hu.symm
  | succ o => simp [World.cell?,hq] at hu)
 have HD2:=Lib.hid (show ∀ o,w2.cell? ⟨D,o,none⟩ = none from fun o => by rw [cell_keepF (HB2.out.block D (by omega))]; exact HD0.out o)
 have HD3:=Lib.hid (show ∀ o,w2.cell? ⟨D + 1,o,none⟩ = none from fun o => by rw [cell_keepF (HB2.out.block (D + 1) (by omega))]; exact HD1.out o)
 have HIV:=Lib.hid (show IvF Q D w2 w2 from ⟨Nat.le_refl _,fun _ _ _ _ _ => rfl,fun k hk => by
  have hq : w2.heap[Q]? = some (.cells #[.slice none 0 0] 37 (0,0)):=HQ.out.below HB2.out
  unfold rowB at hk
  rw [cell_of_one hq] at hk
  simp [Value.ownBlock] at hk⟩)
 have HJ2:=Lib.hid (HJ.out _ _ _ HJ0.out HB2.out)
 have hs2:=HB2.out.size
 have hQ2 : Q < w2.heap.size:=by omega
 clear HQ HD0 HD1 HG1 HG HM HJ0 hl hf
 go_loopw [12] (fun t wr => ∃ i : Nat,i ≤ gs.length ∧ t = .int .i64 (i : Int) ∧ Hid (IvF Q D w2 wr) ∧ Hid (J (gs.take i) wr)) (fun t _ => gs.length - (intOf t).toNat)
 case atStart => exact ⟨0,by omega,rfl,HIV.out,HJ2.out⟩
 case round =>
  clear HIV HJ2
  obtain ⟨i,hi,rfl,HI,HJd⟩:=hrel
  have i0 : (0 : Int) ≤ (i : Int):=by omega
  by_cases h0 : i < gs.length
  ·obtain ⟨b1,o1,a2,c2,rfl,d1,hcc⟩:=grpF_at HI.out HQ2.out HD2.out HD3.out HRR.out HNE.out i h0
   have hpos:=HNE.out gs[i] (List.getElem_mem h0)
   have hglen:=HGL.out gs[i] (List.getElem_mem h0)
   have HT:=Lib.hid (show gs.take (i + 1) = gs.take i ++ [gs[i]] from List.take_succ_eq_append_getElem h0)
   have HPF:=Lib.hid (show gs.take i ++ [gs[i]] <+: gs from ⟨gs.drop (i + 1),by rw [← List.take_succ_eq_append_getElem h0]; exact List.take_append_drop _ _⟩)
   obtain ⟨g,hg⟩ : ∃ g,g = gs[i]'h0:=⟨_,rfl⟩
   rw [← hg] at d1 hcc hpos hglen HT HPF
   have HCC:=Lib.hid hcc
   have HH:=Lib.hid h0
   have i1 : (i : Int) < (gs.length : Int):=by omega
   obtain ⟨Wr,hWr⟩ : ∃ Wr,Wr = wr:=⟨_,rfl⟩
   subst hWr
   clear hcc hg h0
   go_wp2
   go_loopw [5,18] (fun u t wx => ∃ k : Nat,k ≤ g.length ∧ t = .int .i64 (k : Int) ∧ Hid (recS.Own wx Wr.heap.size u ((g.take k).map (·.2))) ∧ Hid (Below Wr.heap.size Wr wx)) (fun _ t _ => g.length - (intOf t).toNat)
   case atStart => exact ⟨0,by omega,rfl,Rec.Own.nil _ _,Below.refl _ _⟩
   case round =>
    obtain ⟨k,hk,rfl,HO,HB⟩:=hrel
    obtain ⟨ao,co,rfl⟩:=owns_slice HO.out
    have k0 : (0 : Int) ≤ (k : Int):=by omega
    by_cases h3 : k < g.length
    ·obtain ⟨b3,o3,rfl,e1,e2⟩:=HCC.out k h3
     have HTK:=Lib.hid (show (g.take (k + 1)).map (·.2) = (g.take k).map (·.2) ++ [g[k].2] by rw [takeF g k h3,List.map_append]; rfl)
     have hol : ((g.take k).map (·.2)).length = k:=by rw [List.length_map,List.length_take]; omega
     obtain ⟨p,hp⟩ : ∃ p,p = g[k]'h3:=⟨_,rfl⟩
     rw [← hp] at e1 e2 HTK
     obtain ⟨O,hO⟩ : ∃ O,O = (g.take k).map (·.2):=⟨_,rfl⟩
     rw [← hO] at HO HTK hol
     have hOE:=congrArg List.length hO
     rw [← hOE]
     replace e1:=Below.keeps HB.out e1
     replace e2:=Below.keeps HB.out e2
     have k1 : (k : Int) < (g.length : Int):=by omega
     have HBY:=Lib.hid (show (O.length + 1) * 16 ≤ 140737488355328 by rw [hol]; exact by16G hglen h3)
     have H3:=Lib.hid h3
     have HOL:=Lib.hid hol
     clear hp hO hOE h3 hol
     have HBA:=Lib.hid (bt HB.out (b_alloc wr (.cells #[.string (bs p.1),.string (bs p.2)] 62)))
     go_wp2_with (at_builtin; go_must (refine recS.append1 (wr.alloc (.cells #[.string (bs p.1),.string (bs p.2)] 62)) p.2 rfl _ _ 22 rfl Tryz.underlying22 Wr.heap.size _ O (HO.out.below (b_alloc _ _)) rfl _ (by rw [size_alV]; rfl) _ rfl _ rfl HBY.out HBA.out.size ?_); intro g8 cap w8 hown8 hB8; have HO8:=Lib.hid hown8; have HB8:=Lib.hid (HBA.out.trans hB8); clear hown8 hB8)
     go_roundw
     case rel => exact ⟨k + 1,H3.out,by go_num,by rw [HTK.out]; exact HO8.out,HB8.out⟩
     case measure => have:=H3.out; simp [intOf]; omega
    ·have k1 : ¬ (k : Int) < (g.length : Int):=by omega
     obtain rfl : k = g.length:=by omega
     obtain ⟨b3,o3,rfl,e1,-⟩:=HCC.out 0 hpos
     replace e1:=Below.keeps HB.out e1
     rw [hk1_at g hpos,Nat.zero_mul,Nat.add_zero] at e1
     have HO2:=Lib.hid (show recS.Own wr (D + 2) (.slice ao g.length co) (g.map (·.2)) by
      have q:=HO.out
      have hl2 : ((g.take g.length).map (·.2)).length = g.length:=by rw [List.take_of_length_le (Nat.le_refl _),List.length_map]
      rw [hl2,List.take_of_length_le (Nat.le_refl _)] at q
      exact q.mono (by have:=HI.out.1; omega))
     have hl2 : ((g.take g.length).map (·.2)).length = g.length:=by rw [List.take_of_length_le (Nat.le_refl _),List.length_map]
     rw [hl2]
     have HB9:=Lib.hid HB.out
     have p1 : (0 : Int) < (g.length : Int):=by omega
     have HJ6:=Lib.hid (HJ.out _ _ _ HJd.out HB.out)
     have HI6:=Lib.hid (HI.out.below hQ2 HB.out)
     clear HO hl2 HJd HB h3
     go_upto_region 9 with fail
     refine (wpIn_wide (n:=n)).1 ?_
     obtain ⟨fn,tm,asg,bod,hy,hRd⟩:=HY.out (gs.take i) g #[.string (bs (hk1 g)),.slice ao g.length co] wr HJ6.out ⟨ao,co,rfl,HO2.out⟩ HPF.out
     gi_wp2
     refine ⟨fun h => (by cases h),?_⟩
     refine hRd.mono ?_
     rintro e W7 (⟨rfl,hJ7,hc7⟩ | ⟨rfl,hJx7⟩)
     ·gi_wp2
      go_wp2
      exact ⟨⟨i + 1,HH.out,by go_num,HI6.out.yr (hc7 (Nat.lt_of_lt_of_le hQ2 HI6.out.1)),by rw [HT.out]; exact hJ7⟩,by have:=HH.out; simp [intOf]; omega⟩
     ·gi_wp2
      go_wp2
      refine bodyPost_ret (results_none rfl _ _ _) rfl ?_
      exact ⟨⟨_,rfl⟩,.inr ⟨_,HPF.out,hJx7⟩⟩
  ·have i1 : ¬ (i : Int) < (gs.length : Int):=by omega
   have HE:=Lib.hid (show gs.take i = gs from List.take_of_length_le (by omega))
   clear h0
   go_wp2
   go_end0
   exact ⟨⟨_,rfl⟩,.inl (by rw [← HE.out]; exact HJd.out)⟩
end Go.Proofs.YtehllcbnheicoaaGreatDoor
namespace Go.Proofs.YtehllcbnheicoaaGreatDoor
open Go.RowKit Oct
attribute [local go_sem] Oper.semAt_some
section
variable {α : Type}
theorem Rec.append1G {F : Fence} {k : Nat} {ops : Array Oper} {rest : List Oper} {o : Oper} {a : Act} {Q : Exit → Act → World → Prop} (R : Rec α) (w : World) (p : α) (hgd : o.guard = none) (s x : Operand) (t : TypeId)
  (ho : o.op = .call { callee:=.builtin .append,args:=#[s,x],argTypes:=#[t,t] }) (ht : Tryz.prog.underlying t = some (.slice R.e))
  (base : Nat) (v : Value) (xs : List α) (hown : R.Own w base v xs) (hs : a.eval s = v) (c : Nat) (hx : a.eval x = .slice (some ⟨w.heap.size,0,none⟩) 1 c)
  (cs : Array Value) (hcs : cs = (R.cell p).toArray) (e : TypeId) (he : e = R.e)
  (hbytes : (xs.length + 1) * R.bytes ≤ 140737488355328) (hbase : base ≤ w.heap.size)
  (h : ∀ g cap w',R.Own w' base (.slice (some ⟨g,0,none⟩) (xs.length + 1) cap) (xs ++ [p]) → Chg (fun k => v.ownBlock = some k) w w' → (v.ownBlock = some g ∨ w.heap.size ≤ g) → wpListIn F k Tryz.prog ops Q rest (a.put o.dst (.slice (some ⟨g,0,none⟩) (xs.length + 1) cap)) w') : wpListIn F k Tryz.prog ops Q (o :: rest) a (w.alloc (.cells cs e)):=by
 subst hcs he
 obtain ⟨i,hi,hz,hi1,hi2⟩:=info_parts R.info
 have hn : xs.length + 1 ≤ (xs.length + 1) * R.bytes:=Nat.le_mul_of_pos_right _ R.bpos
 obtain ⟨g,cap,w',hrun,r1,r2,r3,-⟩:=run_append_lies (P:=Tryz.prog) (w.alloc (.cells (R.cell p).toArray R.e)) t o.type base R.e i R.z R.n R.bytes ht hi hz hi1 hi2 R.zs R.pos v xs.length (R.cells xs) (World.ownsRow.alloc hown _) ⟨w.heap.size,0,none⟩ 1 c (R.cell p) (by simpa using R.len p)
  (fun j u hj => by
   have : j < (R.cell p).length:=by
    rcases Nat.lt_or_ge j (R.cell p).length with h | h
    ·exact h
    ·simp [List.getElem?_eq_none h] at hj
   rw [Addr.add_lit,Nat.zero_add,World.cell?_alloc_new]
   simpa using hj) (R.one p) (by decide) (by unfold maxLen; omega) hbytes (by simp; omega) _ rfl
 refine wpListIn_plain hgd fun K hK' => ?_
 have hB : Below base w w':=((Below.refl base w).alloc hbase _).grown r2 (by simp; omega) (fun k hk => (Rec.Own.ltV hown k hk).1)
 unfold Oper.wpIn
 refine ⟨?_,?_⟩
 ·simp [Oper.about,ho,resolve,Target.leads,Sem.run_pure]
 ·rw [Oper.semAt_plain F _ _ (by rw [ho]; intro c hc'; cases hc')]
  simp [execOp,ho,resolve,invoke,builtin,hs,hx,hrun,Result.andThen]
  refine hK' _ _ (h g cap w' ?_ ⟨hB.os,hB.tape,hB.output,hB.size,fun j hj hne => ?_⟩ ?_)
  ·unfold Rec.Own; rw [R.cells_append,List.length_append,Rec.cells,Rec.cells,List.append_nil]; exact r1
  ·rw [r2.block j (by simp; omega) (fun e => hne e.symm)]
   exact Below.heap_alloc _ _ _ hj
  ·rcases r3 with r3 | r3
   ·exact .inl r3
   ·exact .inr (by simp at r3; omega)
end
theorem results_cell3 {P : Program} {fn : Func} {p q r : Tmp} {ty tq tr : TypeId} {tmps : Array Value} {w : World} {v u x : Value} {b c d : Nat} (hr : fn.results = #[.cell p ty,.cell q tq,.cell r tr]) (hp : tmps.getD p undef = .pointer (some ⟨b,0,none⟩))
  (hq : tmps.getD q undef = .pointer (some ⟨c,0,none⟩)) (hr3 : tmps.getD r undef = .pointer (some ⟨d,0,none⟩)) (hl : (loadVar ty ⟨b,0,none⟩).run P w = .ok v w) (hl2 : (loadVar tq ⟨c,0,none⟩).run P w = .ok u w) (hl3 : (loadVar tr ⟨d,0,none⟩).run P w = .ok x w) : (results fn tmps).run P w = .ok (.tuple #[v,u,x]) w:=by
 simp only [Array.getD_eq_getD_getElem?] at hp hq hr3 ⊢
 simp [results,hr,Sem.run_bind,Result.andThen,hp,hq,hr3,asAddr,hl,hl2,hl3]
theorem rowB_of {U : World} {Q : Nat} {t : TypeId} {v : Value} (h : Blk U Q t [v]) : rowB U Q = v.ownBlock:=by
 unfold rowB
 rw [h.cell (k:=0) rfl]
 rfl
theorem fold_round {Q D g n cap : Nat} {v : Value} {t : TypeId} {U2 w3 w8 : World} (hQ : Q < D) (hb : Blk U2 Q t [v]) (hB : Below U2.heap.size U2 w3) (hc : Chg (fun k => v.ownBlock = some k) w3 w8) (hg : v.ownBlock = some g ∨ w3.heap.size ≤ g) (hlt : ∀ k,v.ownBlock = some k → D + 2 ≤ k) :
  KeepD D U2 (w8.setCell ⟨Q,0,none⟩ (.slice (some ⟨g,0,none⟩) n cap)) ∧ YrF Q D U2 (w8.setCell ⟨Q,0,none⟩ (.slice (some ⟨g,0,none⟩) n cap)):=by
 have hl:=hb.lt
 have s1:=hB.size
 have s2:=hc.size
 have hx : Chg (fun k => k = Q ∨ v.ownBlock = some k) U2 (w8.setCell ⟨Q,0,none⟩ (.slice (some ⟨g,0,none⟩) n cap)) :=
  ((Chg.of_below hB).trans (hc.mono fun k hk => .inr hk)).trans (Chg.setCell w8 ⟨Q,0,none⟩ _ (.inl rfl))
 have hb8 : Blk w8 Q t [v]:=(hb.below hB).chg hc (fun q => by have:=hlt Q q; omega)
 have hb9:=hb8.set 0 (.slice (some ⟨g,0,none⟩) n cap)
 refine ⟨KeepD.of_chg hx (fun k hk q => ?_),⟨hx.size,fun k hk k1 k2 k3 k4 => hx.block k hk (fun q => ?_),fun k hk => ?_⟩⟩
 ·rcases q with q | q
  ·omega
  ·have:=hlt k q; omega
 ·rcases q with q | q
  ·exact k1 q
  ·exact k4 (by rw [rowB_of hb]; exact q)
 ·rw [rowB_of (v:=.slice (some ⟨g,0,none⟩) n cap) hb9] at hk
  have hk2 : g = k:=by simpa [Value.ownBlock] using hk
  subst hk2
  rw [rowB_of hb]
  rcases hg with hg | hg
  ·exact .inl hg
  ·exact .inr (by omega)
structure FI (J Q B E D : Nat) (w : World) (jc : List Value) (j : Jb) (pre : List (List PR)) (U : World) : Prop where
 job : Blk U J 27 jc
 row : ∃ v out,Blk U Q 37 [v] ∧ recKv.Own U (D + 2) v out ∧ out.length ≤ pre.length ∧ ∀ rest,rowsV j [] (pre ++ rest) = rowsV j out rest
 bad : ∃ x,Blk U B 9 [x]
 err : ∃ x,Blk U E 33 [x]
 bel : Below w.heap.size w U
theorem FI.below {J Q B E D : Nat} {w : World} {jc : List Value} {j : Jb} {pre : List (List PR)} {U U' : World} (h : FI J Q B E D w jc j pre U) (hB : Below U.heap.size U U') : FI J Q B E D w jc j pre U':=by
 obtain ⟨v,out,h1,h2,h3,h4⟩:=h.row
 obtain ⟨x,hx⟩:=h.bad
 obtain ⟨y,hy⟩:=h.err
 exact ⟨h.job.below hB,⟨v,out,h1.below hB,h2.below hB,h3,h4⟩,⟨x,hx.below hB⟩,⟨y,hy.below hB⟩,bt h.bel hB⟩
theorem FI.chg {J Q B E D : Nat} {w : World} {jc : List Value} {j : Jb} {pre : List (List PR)} {U U' : World} (hJ : J < D) (hQ : Q < D) (hBd : B < D) (hE : E < D) (hw : w.heap.size ≤ D) (h : FI J Q B E D w jc j pre U) (hc : Chg (fun k => k = D ∨ k = D + 1) U U') : FI J Q B E D w jc j pre U':=by
 obtain ⟨v,out,h1,h2,h3,h4⟩:=h.row
 obtain ⟨x,hx⟩:=h.bad
 obtain ⟨y,hy⟩:=h.err
 exact ⟨h.job.chg hc (by omega),⟨v,out,h1.chg hc (by omega),ownsRow_chg h2 hc (fun k hk => by omega),h3,h4⟩,⟨x,hx.chg hc (by omega)⟩,⟨y,hy.chg hc (by omega)⟩,h.bel.trans (hc.below (fun k hk => by omega) h.bel.size)⟩
def FX (Q B E : Nat) (w : World) (j : Jb) (c : Code) (pre : List (List PR)) (U : World) : Prop:=c = .ret ∧ Blk U Q 37 [.slice none 0 0] ∧ (∃ (key : List UInt8) (er : Nat),Blk U B 9 [.string (bs key)] ∧ Blk U E 33 [.int .i64 (er : Int)] ∧ ∀ rest,rowsV j [] (pre ++ rest) = ([],key,er)) ∧ Below w.heap.size w U
theorem FX.below {Q B E : Nat} {w : World} {j : Jb} {c : Code} {pre : List (List PR)} {U U' : World} (h : FX Q B E w j c pre U) (hB : Below U.heap.size U U') : FX Q B E w j c pre U':=by
 obtain ⟨h0,h1,⟨key,er,h2,h3,h4⟩,h5⟩:=h
 exact ⟨h0,h1.below hB,⟨key,er,h2.below hB,h3.below hB,h4⟩,bt h5 hB⟩
theorem FX.chg {Q B E D : Nat} {w : World} {j : Jb} {c : Code} {pre : List (List PR)} {U U' : World} (hQ : Q < D) (hBd : B < D) (hE : E < D) (hw : w.heap.size ≤ D) (h : FX Q B E w j c pre U) (hc : Chg (fun k => k = D ∨ k = D + 1) U U') : FX Q B E w j c pre U':=by
 obtain ⟨h0,h1,⟨key,er,h2,h3,h4⟩,h5⟩:=h
 exact ⟨h0,h1.chg hc (by omega),⟨key,er,h2.chg hc (by omega),h3.chg hc (by omega),h4⟩,h5.trans (hc.below (fun k hk => by omega) h5.size)⟩
end Go.Proofs.YtehllcbnheicoaaGreatDoor
namespace Go.Proofs.YtehllcbnheicoaaGreatDoor
open Go.RowKit Oct
attribute [local irreducible] wpG
theorem load_strF {w : World} {b : Nat} {v0 : Value} (h0 : w.cell? ⟨b,0,none⟩ = some v0) : (loadVar 9 ⟨b,0,none⟩).run Tryz.prog w = .ok v0 w:=by
 go_simp
def VCRes (S E : Nat) (R : Nat × List (List UInt8 × List UInt8) × List UInt8) (e : Ending) (w w' : World) : Prop :=
 e = .returned (.bool ((R.1 : Int) == 0)) ∧ Blk w' S 9 [.string (bs R.2.2)] ∧ Blk w' E 33 [.int .i64 (R.1 : Int)] ∧ Chg (fun x => x = S ∨ x = E) w w'
theorem valC_any (J S E : Nat) (t1 c1 t2 c2 t3 c3 x : Value) (j : Jb) (s v : List UInt8) (w : World) (h : JobR w t1 c1 t2 c2 t3 c3 j) (hmay : mayJ j = true) (hdo : doesAt w) (hJ : Blk w J 27 [t1,c1,t2,c2,t3,c3,.int .i64 j.parts,.int .i64 j.fuel])
  (hS : Blk w S 9 [.string (bs s)]) (hE : Blk w E 33 [x]) (hne : S ≠ E) (h1 : s.length ≤ 140737488355328) (h2 : v.length ≤ 140737488355328) :
  Calls Tryz.prog 35 #[.string (bs v),.pointer (some ⟨J,0,none⟩),.pointer (some ⟨S,0,none⟩),.pointer (some ⟨E,0,none⟩)] w fun e w' => VCRes S E (vmV j.jt j.jc 2 [s,v] j.fuel) e w w':=by
 have HJO:=Lib.hid (show _ from by
  have q:=jJoin_any t1 c1 t2 c2 t3 c3 j s v w h hdo h1 h2
  rw [jobRun_may hmay] at q
  exact q)
 obtain ⟨R,hR⟩ : ∃ R,R = vmV j.jt j.jc 2 [s,v] j.fuel:=⟨_,rfl⟩
 rw [← hR] at HJO ⊢
 obtain ⟨ta,tc,rfl,-,-⟩:=recS_open h.a.t
 obtain ⟨ca,cc,rfl,-,-⟩:=recIns_open h.a.c
 obtain ⟨ta2,tc2,rfl,-,-⟩:=recS_open h.b.t
 obtain ⟨ca2,cc2,rfl,-,-⟩:=recIns_open h.b.c
 obtain ⟨ta3,tc3,rfl,-,-⟩:=recS_open h.c.t
 obtain ⟨ca3,cc3,rfl,-,-⟩:=recIns_open h.c.c
 unfold jobV at HJO
 have x0:=hJ.cell (k:=0) rfl
 have x1:=hJ.cell (k:=1) rfl
 have x2:=hJ.cell (k:=2) rfl
 have x3:=hJ.cell (k:=3) rfl
 have x4:=hJ.cell (k:=4) rfl
 have x5:=hJ.cell (k:=5) rfl
 have x6:=hJ.cell (k:=6) rfl
 have x7:=hJ.cell (k:=7) rfl
 have s0:=hS.cell (k:=0) rfl
 have e0:=hE.cell (k:=0) rfl
 have HS:=Lib.hid hS
 have HE:=Lib.hid hE
 have HNE:=Lib.hid hne
 clear h hmay hdo hJ hS hE hne h1 h2 hR
 go_enter Tryz.func35,Tryz.ntmps35
 go_wp2_with (go_at_call 36; refine HJO.out.mono ?_; rintro e w2 ⟨rfl,hB2⟩; have hs2:=HS.out.below hB2; have he2:=HE.out.below hB2; have s2:=hs2.cell (k:=0) rfl; have e2:=he2.cell (k:=0) rfl; have fs:=hs2.free (k:=0) (by simp); have fe:=he2.free (k:=0) (by simp); have hsl:=hs2.lt; have hel:=he2.lt; have hne:=HNE.out; have hne2:=HNE.out.symm; have HS2:=Lib.hid hs2; have HE2:=Lib.hid he2; have HB2:=Lib.hid hB2; clear hB2 hs2 he2 s0 e0 x0 x1 x2 x3 x4 x5 x6 x7)
 go_ret
 have hc1 : Chg (fun x => x = S ∨ x = E) w2 (w2.setCell ⟨S,0,none⟩ (.string (bs R.2.2))):=Chg.setCell _ _ _ (.inl rfl)
 have hs3:=HS2.out.set 0 (.string (bs R.2.2))
 have he3:=HE2.out.chg (X:=fun x => x = S) (Chg.setCell w2 ⟨S,0,none⟩ (.string (bs R.2.2)) rfl) (fun q => HNE.out q.symm)
 have hs4:=hs3.chg (X:=fun x => x = E) (Chg.setCell _ ⟨E,0,none⟩ (.int .i64 (R.1 : Int)) rfl) (fun q => HNE.out q)
 have he4:=he3.set 0 (.int .i64 (R.1 : Int))
 exact ⟨rfl,hs4,he4,((Chg.of_below HB2.out).trans hc1).trans (Chg.setCell _ _ _ (.inr rfl))⟩
theorem foldJ_cons {j : Jb} {x : List UInt8} {r : List (List UInt8)} (h : mayJ j = true) : valuesJ j (x :: r) = foldV j x r:=if_pos ⟨h,Nat.succ_pos _⟩
theorem Values18_any (t1 c1 t2 c2 t3 c3 v : Value) (j : Jb) (l : List (List UInt8)) (w : World) (h : JobR w t1 c1 t2 c2 t3 c3 j) (hdo : doesAt w) (hv : recS.Row w v l) (hl : l.length ≤ 140737488355328) (hb : ∀ s ∈ l,s.length ≤ 140737488355328) :
  Calls Tryz.prog 11 #[jobV t1 c1 t2 c2 t3 c3 j,v] w fun e w' => e = .returned (.tuple #[.string (bs (valuesJ j l).1),.int .i64 ((valuesJ j l).2 : Int)]) ∧ Below w.heap.size w w':=by
 have HCK:=Lib.hid (fun w' (hB : Below w.heap.size w w') => jCheck_any t1 c1 t2 c2 t3 c3 j w' (h.below hB))
 have HVC:=Lib.hid (fun (hm : mayJ j = true) (J S E : Nat) (x : Value) (s v : List UInt8) w' (hB : Below w.heap.size w w') hJ hS hE hne h1 h2 => valC_any J S E t1 c1 t2 c2 t3 c3 x j s v w' (h.below hB) hm (hdo.below hB) hJ hS hE hne h1 h2)
 obtain ⟨ta,tc,rfl,-,-⟩:=recS_open h.a.t
 obtain ⟨ca,cc,rfl,-,-⟩:=recIns_open h.a.c
 obtain ⟨ta2,tc2,rfl,-,-⟩:=recS_open h.b.t
 obtain ⟨ca2,cc2,rfl,-,-⟩:=recIns_open h.b.c
 obtain ⟨ta3,tc3,rfl,-,-⟩:=recS_open h.c.t
 obtain ⟨ca3,cc3,rfl,-,-⟩:=recIns_open h.c.c
 obtain ⟨av,cv,rfl,_,hc⟩:=recS_open hv
 unfold jobV at HCK ⊢
 have HCC:=Lib.hid hc
 have HBB:=Lib.hid hb
 have HV:=Lib.hid hv
 obtain ⟨J,hJ⟩ : ∃ J,J = w.heap.size:=⟨_,rfl⟩
 obtain ⟨W0,hW0⟩ : ∃ W0,W0 = w.alloc (.cells #[.slice ta j.mt.length tc,.slice ca j.mc.length cc,.slice ta2 j.jt.length tc2,.slice ca2 j.jc.length cc2,.slice ta3 j.tt.length tc3,.slice ca3 j.tc.length cc3,.int .i64 j.parts,.int .i64 j.fuel] 27):=⟨_,rfl⟩
 have hs0 : W0.heap.size = J + 1:=by rw [hW0,size_alV,hJ]
 obtain ⟨W1,hW1⟩ : ∃ W1,W1 = W0.alloc (.cells #[.string ⟨#[]⟩] 9):=⟨_,rfl⟩
 have hs1 : W1.heap.size = J + 1 + 1:=by rw [hW1,size_alV,hs0]
 obtain ⟨W2,hW2⟩ : ∃ W2,W2 = W1.alloc (.cells #[.int .i64 0] 33):=⟨_,rfl⟩
 have hx0 : Blk W0 J 27 [.slice ta j.mt.length tc,.slice ca j.mc.length cc,.slice ta2 j.jt.length tc2,.slice ca2 j.jc.length cc2,.slice ta3 j.tt.length tc3,.slice ca3 j.tc.length cc3,.int .i64 j.parts,.int .i64 j.fuel]:=by rw [hJ,hW0]; exact Blk.new w _ _
 have hb0 : Below w.heap.size w W0:=by rw [hW0]; exact b_alloc _ _
 have hb1 : Below W0.heap.size W0 W1:=by rw [hW1]; exact b_alloc _ _
 have hb2 : Below W1.heap.size W1 W2:=by rw [hW2]; exact b_alloc _ _
 have hx:=(hx0.below hb1).below hb2
 have hy : Blk W2 (J + 1) 9 [.string ⟨#[]⟩]:=by
  have q : Blk W1 W0.heap.size 9 [.string ⟨#[]⟩]:=by rw [hW1]; exact Blk.new _ _ _
  rw [hs0] at q
  exact q.below hb2
 have hz : Blk W2 (J + 1 + 1) 33 [.int .i64 0]:=by
  have q : Blk W2 W1.heap.size 33 [.int .i64 0]:=by rw [hW2]; exact Blk.new _ _ _
  rwa [hs1] at q
 have HB2:=Lib.hid (bt (bt hb0 hb1) hb2)
 have HX:=Lib.hid hx
 have HY:=Lib.hid hy
 have HZ:=Lib.hid hz
 have HJW:=Lib.hid (show w.heap.size ≤ J by rw [hJ]; exact Nat.le_refl _)
 have x0:=hx.cell (k:=0) rfl
 have x1:=hx.cell (k:=1) rfl
 have x2:=hx.cell (k:=2) rfl
 have x3:=hx.cell (k:=3) rfl
 have x4:=hx.cell (k:=4) rfl
 have x5:=hx.cell (k:=5) rfl
 have x6:=hx.cell (k:=6) rfl
 have x7:=hx.cell (k:=7) rfl
 go_enter Tryz.func11,Tryz.ntmps11
 go_upto_region 1 with fail
 rw [← hJ,← hW0]
 try rw [hs0]
 rw [← hW1]
 try rw [hs1]
 rw [← hW2]
 clear hJ hW0 hW1 hW2 hs0 hs1 hx0 hb0 hb1 hb2 hx hy hz h hdo hv hc hb
 obtain ⟨ck,hck⟩ : ∃ ck,ck = checkJ j:=⟨_,rfl⟩
 rw [← hck] at HCK
 by_cases hm : mayJ j = true
 ·have t1 : ((ck.2.2 : Int) != 0) = false:=by rw [hck,mayJ_yes hm]; rfl
  cases l with
  | nil =>
   have HR:=Lib.hid (show valuesJ j [] = ([],2) from if_neg (fun q => absurd q.2 (Nat.lt_irrefl 0)))
   clear hm hck HVC
   go_wp2_with (go_at_call 34; refine (HCK.out _ HB2.out).mono ?_; rintro e w3 ⟨rfl,hB3⟩; have hy3:=HY.out.below hB3; have hz3:=HZ.out.below hB3; have s2:=hy3.cell (k:=0) rfl; have e2:=hz3.cell (k:=0) rfl; have fs:=hy3.free (k:=0) (by simp); have fe:=hz3.free (k:=0) (by simp); have hsl:=hy3.lt; have hel:=hz3.lt; have HY3:=Lib.hid hy3; have HZ3:=Lib.hid hz3; have HB3:=Lib.hid (bt HB2.out hB3); clear hB3 hy3 hz3 x0 x1 x2 x3 x4 x5 x6 x7)
   have hs3:=HY3.out.set 0 (.string ⟨#[]⟩)
   have he3:=HZ3.out.chg (X:=fun x => x = J + 1) (Chg.setCell w3 ⟨J + 1,0,none⟩ (.string ⟨#[]⟩) rfl) (by simp)
   have hs4:=hs3.chg (X:=fun x => x = J + 1 + 1) (Chg.setCell _ ⟨J + 1 + 1,0,none⟩ (.int .i64 2) rfl) (by simp)
   have he4:=he3.set 0 (.int .i64 2)
   refine bodyPost_ret (results_cell_cellC rfl rfl rfl (load_strF (hs4.cell (k:=0) rfl)) (load_err (he4.cell (k:=0) rfl))) rfl ?_
   rw [HR.out]
   exact ⟨rfl,HB3.out.trans ((Chg.trans (Chg.setCell w3 ⟨J + 1,0,none⟩ (.string ⟨#[]⟩) (X:=fun x => x = J + 1 ∨ x = J + 1 + 1) (.inl rfl)) (Chg.setCell _ ⟨J + 1 + 1,0,none⟩ (.int .i64 2) (.inr rfl))).below (fun x hx => by have:=HJW.out; rcases hx with rfl | rfl <;> omega) HB3.out.size)⟩
  | cons p0 r =>
   have HR:=Lib.hid (foldJ_cons (x:=p0) (r:=r) hm)
   have HVM:=Lib.hid (HVC.out hm)
   have hlr : r.length ≤ 140737488355328:=by rw [List.length_cons] at hl; omega
   clear hl
   clear hm hck HVC
   obtain ⟨A,C,hrun0,hrow,-⟩:=strs_cut HV.out 1 (by simp)
   have hm0 : (p0 :: r).length - 1 = r.length:=by simp
   rw [hm0] at hrun0 hrow
   have hrow2 : recS.Row w (.slice A r.length C) r:=hrow
   obtain ⟨_,_,hv2,_,hcr⟩:=recS_open hrow2
   injection hv2 with q1 _ q3
   subst q1 q3
   obtain ⟨b0,o0,hav,d0⟩:=HCC.out 0 (by simp)
   subst hav
   have hrun : ∀ wx,(Instr.slice 22 (.slice (some ⟨b0,o0,none⟩) (r.length + 1) cv) (some (.int .i64 1)) none none).run Tryz.prog wx = .ok (.slice A r.length C) wx:=fun wx => hrun0 wx
   have HCR:=Lib.hid hcr
   have HRB:=Lib.hid (show ∀ s ∈ r,s.length ≤ 140737488355328 from fun s hs => HBB.out s (List.mem_cons_of_mem _ hs))
   have HX0:=Lib.hid (HBB.out p0 (List.mem_cons_self ..))
   have d0' : w.cell? ⟨b0,o0,none⟩ = some (.string (bs p0)):=d0
   have HD0:=Lib.hid d0'
   clear hrun0 hrow hrow2 hcr hm0 d0 d0' HCC HV HBB
   rw [show (p0 :: r).length = r.length + 1 from rfl]
   go_upto_region 5 with (go_at_call 34; refine (HCK.out _ HB2.out).mono ?_; rintro e w3 ⟨rfl,hB3⟩; have hy3:=HY.out.below hB3; have s2:=hy3.cell (k:=0) rfl; have fs:=hy3.free (k:=0) (by simp); have hsl:=hy3.lt; have d1:=Below.keeps (bt HB2.out hB3) HD0.out; have HX3:=Lib.hid (HX.out.below hB3); have HY3:=Lib.hid hy3; have HZ3:=Lib.hid (HZ.out.below hB3); have HB3:=Lib.hid (bt HB2.out hB3); clear hB3 hy3 x0 x1 x2 x3 x4 x5 x6 x7)
   obtain ⟨W4,hW4⟩ : ∃ W4,W4 = w3.setCell ⟨J + 1,0,none⟩ (.string (bs p0)):=⟨_,rfl⟩
   have hc4 : Chg (fun x => x = J + 1 ∨ x = J + 1 + 1) w3 W4:=by rw [hW4]; exact Chg.setCell _ _ _ (.inl rfl)
   have HS4:=Lib.hid (show Blk W4 (J + 1) 9 [.string (bs p0)] by rw [hW4]; exact HY3.out.set 0 _)
   have HE4:=Lib.hid (HZ3.out.chg (X:=fun x => x = J + 1) (show Chg (fun x => x = J + 1) w3 W4 by rw [hW4]; exact Chg.setCell _ _ _ rfl) (by simp))
   have HX4:=Lib.hid (HX3.out.chg hc4 (by omega))
   have HC4:=Lib.hid hc4
   rw [← hW4]
   clear hW4 hc4 s2 fs hsl d1
   go_wp2_with fail
   go_loopw [32] (fun i wr => ∃ (k : Nat) (s : List UInt8),k ≤ r.length ∧ i = .int .i64 k ∧ Hid (foldV j s (r.drop k) = foldV j p0 r) ∧ Hid (s.length ≤ 140737488355328) ∧ Hid (Blk wr (J + 1) 9 [.string (bs s)]) ∧ Hid (Blk wr (J + 1 + 1) 33 [.int .i64 0]) ∧ Hid (Chg (fun x => x = J + 1 ∨ x = J + 1 + 1) w3 wr)) (fun i _ => r.length - (intOf i).toNat)
   case atStart => exact ⟨0,p0,by omega,rfl,rfl,HX0.out,HS4.out,HE4.out,HC4.out⟩
   case round =>
    obtain ⟨k,s,hk,rfl,HFV,HSL,HS,HE,HC⟩:=hrel
    have hxr:=HX3.out.chg HC.out (by omega)
    have hbw : Below w.heap.size w wr:=HB3.out.trans (HC.out.below (fun x hx => by have:=HJW.out; rcases hx with rfl | rfl <;> omega) HB3.out.size)
    by_cases h0 : k < r.length
    ·obtain ⟨bb,off,hA,e1⟩:=HCR.out k h0
     subst hA
     have hbl:=HRB.out _ (List.getElem_mem h0)
     have hdr : r.drop k = r[k] :: r.drop (k + 1):=List.drop_eq_getElem_cons h0
     obtain ⟨v,hve⟩ : ∃ v,v = r[k]:=⟨_,rfl⟩
     rw [← hve] at e1 hbl hdr
     have HD:=Lib.hid hdr
     replace e1:=Below.keeps hbw e1
     have i0 : (0 : Int) ≤ (k : Int):=by omega
     have i1 : (k : Int) < (r.length : Int):=by omega
     have HHH:=Lib.hid h0
     have HG:=Lib.hid (HVM.out J (J + 1) (J + 1 + 1) _ s v wr hbw hxr HS.out HE.out (by omega) HSL.out hbl)
     have hrl:=vmV_text j.jt j.jc 2 [s,v] j.fuel
     obtain ⟨R,hR⟩ : ∃ R,R = vmV j.jt j.jc 2 [s,v] j.fuel:=⟨_,rfl⟩
     rw [← hR] at HG hrl
     have HR2:=Lib.hid hR
     have HRL:=Lib.hid hrl
     have HBW:=Lib.hid hbw
     clear hR hdr hve hxr hbw h0 hbl hrl
     by_cases hz : R.1 = 0
     ·have t1 : ((R.1 : Int) == 0) = true:=by rw [hz]; rfl
      have HQ:=Lib.hid (show foldV j s (v :: r.drop (k + 1)) = foldV j R.2.2 (r.drop (k + 1)) by rw [HR2.out]; exact foldV_on (by rw [← HR2.out]; exact hz))
      have HZ0:=Lib.hid hz
      clear hz
      go_wp2_with (go_at_call 35; refine HG.out.mono ?_; rintro e w7 ⟨rfl,hs7,he7,hc7⟩; have HS7:=Lib.hid hs7; have HE7:=Lib.hid he7; have HC7:=Lib.hid hc7; clear hs7 he7 hc7)
      refine ⟨⟨_,_,_,_,_,_,_,_,_,_,_,?rel,rfl⟩,?mes⟩
      case rel => exact ⟨k + 1,R.2.2,HHH.out,by go_num,by rw [← HQ.out,← HD.out]; exact HFV.out,Nat.le_trans HRL.out (by decide),HS7.out,by have q:=HE7.out; rw [HZ0.out] at q; exact q,HC.out.trans HC7.out⟩
      case mes => have:=HHH.out; simp [intOf]; omega
     ·have t1 : ((R.1 : Int) == 0) = false:=by rw [beq_eq_false_iff_ne]; omega
      have HQ:=Lib.hid (show foldV j s (v :: r.drop (k + 1)) = ([],R.1) by rw [HR2.out]; exact foldV_bad (by rw [← HR2.out]; exact hz))
      clear hz
      go_upto_region 10 with (go_at_call 35; refine HG.out.mono ?_; rintro e w7 ⟨rfl,hs7,he7,hc7⟩; have s2:=hs7.cell (k:=0) rfl; have e2:=he7.cell (k:=0) rfl; have fs:=hs7.free (k:=0) (by simp); have fe:=he7.free (k:=0) (by simp); have hsl:=hs7.lt; have hel:=he7.lt; have HS7:=Lib.hid hs7; have HE7:=Lib.hid he7; have HC7:=Lib.hid hc7; clear hs7 he7 hc7)
      go_region
      all_goals
       go_wp2_with fail
       have hs3:=HS7.out.set 0 (.string ⟨#[]⟩)
       have he3:=HE7.out.chg (X:=fun x => x = J + 1) (Chg.setCell w7 ⟨J + 1,0,none⟩ (.string ⟨#[]⟩) rfl) (by simp)
       have hs4:=hs3.chg (X:=fun x => x = J + 1 + 1) (Chg.setCell _ ⟨J + 1 + 1,0,none⟩ (.int .i64 (R.1 : Int)) rfl) (by simp)
       have he4:=he3.set 0 (.int .i64 (R.1 : Int))
       refine bodyPost_ret (results_cell_cellC rfl rfl rfl (load_strF ((hs4.below (b_drew _)).cell (k:=0) rfl)) (load_err ((he4.below (b_drew _)).cell (k:=0) rfl))) rfl ?_
       rw [HR.out,← HFV.out,HD.out,HQ.out]
       have hb7:=HBW.out.trans (HC7.out.below (fun x hx => by have:=HJW.out; rcases hx with rfl | rfl <;> omega) HBW.out.size)
       exact ⟨rfl,bt (hb7.trans ((Chg.trans (Chg.setCell w7 ⟨J + 1,0,none⟩ (.string ⟨#[]⟩) (X:=fun x => x = J + 1 ∨ x = J + 1 + 1) (.inl rfl)) (Chg.setCell _ ⟨J + 1 + 1,0,none⟩ (.int .i64 (R.1 : Int)) (.inr rfl))).below (fun x hx => by have:=HJW.out; rcases hx with rfl | rfl <;> omega) hb7.size)) (b_drew _)⟩
    ·have i1 : ¬ (k : Int) < (r.length : Int):=by omega
     have HE0:=Lib.hid (show foldV j p0 r = (s,0) by rw [← HFV.out,List.drop_eq_nil_of_le (by omega)]; rfl)
     have s2:=HS.out.cell (k:=0) rfl
     have e2:=HE.out.cell (k:=0) rfl
     have fs:=HS.out.free (k:=0) (by simp)
     have fe:=HE.out.free (k:=0) (by simp)
     have hsl:=HS.out.lt
     have hel:=HE.out.lt
     have HBW:=Lib.hid hbw
     clear hxr hbw h0
     go_wp2_with fail
     have hs3:=HS.out.set 0 (.string (bs s))
     have he3:=HE.out.chg (X:=fun x => x = J + 1) (Chg.setCell wr ⟨J + 1,0,none⟩ (.string (bs s)) rfl) (by simp)
     have hs4:=hs3.chg (X:=fun x => x = J + 1 + 1) (Chg.setCell _ ⟨J + 1 + 1,0,none⟩ (.int .i64 0) rfl) (by simp)
     have he4:=he3.set 0 (.int .i64 0)
     refine bodyPost_ret (results_cell_cellC rfl rfl rfl (load_strF (hs4.cell (k:=0) rfl)) (load_err (he4.cell (k:=0) rfl))) rfl ?_
     rw [HR.out,HE0.out]
     exact ⟨rfl,HBW.out.trans ((Chg.trans (Chg.setCell wr ⟨J + 1,0,none⟩ (.string (bs s)) (X:=fun x => x = J + 1 ∨ x = J + 1 + 1) (.inl rfl)) (Chg.setCell _ ⟨J + 1 + 1,0,none⟩ (.int .i64 0) (.inr rfl))).below (fun x hx => by have:=HJW.out; rcases hx with rfl | rfl <;> omega) HBW.out.size)⟩
 ·have t1 : ((ck.2.2 : Int) != 0) = true:=by rw [bne_iff_ne]; have:=mayJ_no hm; rw [← hck] at this; omega
  have HR:=Lib.hid (show valuesJ j l = ([],2) from if_neg (fun q => hm q.1))
  clear hm hck HVC
  go_wp2_with (go_at_call 34; refine (HCK.out _ HB2.out).mono ?_; rintro e w3 ⟨rfl,hB3⟩; have hy3:=HY.out.below hB3; have hz3:=HZ.out.below hB3; have s2:=hy3.cell (k:=0) rfl; have e2:=hz3.cell (k:=0) rfl; have fs:=hy3.free (k:=0) (by simp); have fe:=hz3.free (k:=0) (by simp); have hsl:=hy3.lt; have hel:=hz3.lt; have HY3:=Lib.hid hy3; have HZ3:=Lib.hid hz3; have HB3:=Lib.hid (bt HB2.out hB3); clear hB3 hy3 hz3 x0 x1 x2 x3 x4 x5 x6 x7)
  have hs3:=HY3.out.set 0 (.string ⟨#[]⟩)
  have he3:=HZ3.out.chg (X:=fun x => x = J + 1) (Chg.setCell w3 ⟨J + 1,0,none⟩ (.string ⟨#[]⟩) rfl) (by simp)
  have hs4:=hs3.chg (X:=fun x => x = J + 1 + 1) (Chg.setCell _ ⟨J + 1 + 1,0,none⟩ (.int .i64 2) rfl) (by simp)
  have he4:=he3.set 0 (.int .i64 2)
  refine bodyPost_ret (results_cell_cellC rfl rfl rfl (load_strF (hs4.cell (k:=0) rfl)) (load_err (he4.cell (k:=0) rfl))) rfl ?_
  rw [HR.out]
  exact ⟨rfl,HB3.out.trans ((Chg.trans (Chg.setCell w3 ⟨J + 1,0,none⟩ (.string ⟨#[]⟩) (X:=fun x => x = J + 1 ∨ x = J + 1 + 1) (.inl rfl)) (Chg.setCell _ ⟨J + 1 + 1,0,none⟩ (.int .i64 2) (.inr rfl))).below (fun x hx => by have:=HJW.out; rcases hx with rfl | rfl <;> omega) HB3.out.size)⟩
end Go.Proofs.YtehllcbnheicoaaGreatDoor
