/- Lemmas for FoldTells, part 47: walks of the functions that it reaches, and the plain laws behind them. -/
import Derived.LoopNIn
import Derived.Lib.Hide
import Derived.BigQuiet
import Derived.Deep.QuietTactic
import Derived.Test.YtehllcbnheicoaaGreatDoorFoldTellsK1
import Derived.Test.YtehllcbnheicoaaGreatDoorFoldTellsK5
import Derived.Test.YtehllcbnheicoaaGreatDoorFoldTellsK7
import Derived.Test.YtehllcbnheicoaaGreatDoorFoldTellsK15
import Derived.Test.YtehllcbnheicoaaGreatDoorFoldTellsK28
import Derived.Test.YtehllcbnheicoaaGreatDoorFoldTellsK34
import Derived.Test.YtehllcbnheicoaaGreatDoorFoldTellsK38
import Derived.Test.YtehllcbnheicoaaGreatDoorFoldTellsK39
import Derived.Test.YtehllcbnheicoaaGreatDoorFoldTellsK42
import Derived.Test.YtehllcbnheicoaaGreatDoorFoldTellsK43
import Derived.Test.YtehllcbnheicoaaGreatDoorFoldTellsK44
import Derived.Test.YtehllcbnheicoaaGreatDoorFoldTellsK46
set_option linter.unusedSimpArgs false
set_option linter.unusedVariables false
set_option maxRecDepth 100000
set_option maxHeartbeats 16000000
namespace Go.Proofs.YtehllcbnheicoaaGreatDoor
open Go.RowKit Oct
attribute [local go_sem] Oper.semAt_some
attribute [local irreducible] wpG
theorem groupsF_mk (a : Option Addr) (n c : Nat) (w : World) : Calls Tryz.prog 38 #[.slice a n c] w fun e w' => e = .returned (.func (.func 68) #[] #[.pointer (some ⟨w.heap.size,0,none⟩)]) ∧ w' = w.alloc (.cells #[.slice a n c] 28):=by
 go_enter Tryz.func38,Tryz.ntmps38
 go_wp2
 go_ret
 exact ⟨rfl,rfl⟩
theorem grp_bounds {rows : List (List PR)} (hf : rows.flatten.length ≤ 1000000) : ∀ g ∈ grp (srt rows.flatten),g.length ≤ 1000000:=fun g hg => by
 have h1:=(grp_spec (srt rows.flatten).length (srt rows.flatten) (Nat.le_refl _) (srt_sorted _)).1 g hg
 have h2 : g.length ≤ (srt rows.flatten).length:=by rw [h1.1]; unfold ofKey; exact List.length_filter_le _ _
 rw [srt_length] at h2
 exact Nat.le_trans h2 hf
theorem grp_count {rows : List (List PR)} (hf : rows.flatten.length ≤ 1000000) : (grp (srt rows.flatten)).length ≤ 1000000:=by
 have h1:=grp_length_le (srt rows.flatten).length (srt rows.flatten) (Nat.le_refl _)
 rw [srt_length] at h1
 exact Nat.le_trans h1 hf
theorem grp_vals {rows : List (List PR)} (hp : ∀ p ∈ rows.flatten,p.2.length ≤ 140737488355328) : ∀ g ∈ grp (srt rows.flatten),∀ s ∈ g.map (·.2),s.length ≤ 140737488355328:=fun g hg s hs => by
 have h1:=(grp_spec (srt rows.flatten).length (srt rows.flatten) (Nat.le_refl _) (srt_sorted _)).1 g hg
 obtain ⟨p,hpg,rfl⟩:=List.mem_map.1 hs
 rw [h1.1,ofKey_srt] at hpg
 exact hp p (List.mem_filter.1 hpg).1
theorem load_rowF {w : World} {b : Nat} {v : Value} (h : w.cell? ⟨b,0,none⟩ = some v) : (loadVar 37 ⟨b,0,none⟩).run Tryz.prog w = .ok v w:=by simp [go_sem,h]
theorem set3F {Q : Nat} {t1 t2 t3 : TypeId} {W : World} {a b c : Value} (hq : Blk W Q t1 [a]) (hb : Blk W (Q + 1) t2 [b]) (he : Blk W (Q + 1 + 1) t3 [c]) (x y z : Value) :
  Blk (((W.setCell ⟨Q,0,none⟩ x).setCell ⟨Q + 1,0,none⟩ y).setCell ⟨Q + 1 + 1,0,none⟩ z) Q t1 [x] ∧ Blk (((W.setCell ⟨Q,0,none⟩ x).setCell ⟨Q + 1,0,none⟩ y).setCell ⟨Q + 1 + 1,0,none⟩ z) (Q + 1) t2 [y] ∧
   Blk (((W.setCell ⟨Q,0,none⟩ x).setCell ⟨Q + 1,0,none⟩ y).setCell ⟨Q + 1 + 1,0,none⟩ z) (Q + 1 + 1) t3 [z] ∧ Chg (fun k => k = Q ∨ k = Q + 1 ∨ k = Q + 1 + 1) W (((W.setCell ⟨Q,0,none⟩ x).setCell ⟨Q + 1,0,none⟩ y).setCell ⟨Q + 1 + 1,0,none⟩ z):=by
 have c1 : Chg (fun k => k = Q) W (W.setCell ⟨Q,0,none⟩ x):=Chg.setCell _ _ _ rfl
 have q1:=hq.set 0 x
 have b1:=hb.chg c1 (by omega)
 have e1:=he.chg c1 (by omega)
 obtain ⟨W1,hW1⟩ : ∃ W1,W1 = W.setCell ⟨Q,0,none⟩ x:=⟨_,rfl⟩
 rw [← hW1] at c1 q1 b1 e1 ⊢
 have c2 : Chg (fun k => k = Q + 1) W1 (W1.setCell ⟨Q + 1,0,none⟩ y):=Chg.setCell _ _ _ rfl
 have q2:=q1.chg c2 (by omega)
 have b2:=b1.set 0 y
 have e2:=e1.chg c2 (by omega)
 obtain ⟨W2,hW2⟩ : ∃ W2,W2 = W1.setCell ⟨Q + 1,0,none⟩ y:=⟨_,rfl⟩
 rw [← hW2] at c2 q2 b2 e2 ⊢
 have c3 : Chg (fun k => k = Q + 1 + 1) W2 (W2.setCell ⟨Q + 1 + 1,0,none⟩ z):=Chg.setCell _ _ _ rfl
 exact ⟨q2.chg c3 (by omega),b2.chg c3 (by omega),e2.set 0 z,((c1.mono fun k hk => .inl hk).trans (c2.mono fun k hk => .inr (.inl hk))).trans (c3.mono fun k hk => .inr (.inr hk))⟩
theorem Rows18_any (t1 c1 t2 c2 t3 c3 v : Value) (j : Jb) (rows : List (List PR)) (w : World) (h : JobR w t1 c1 t2 c2 t3 c3 j) (hdo : doesAt w) (hr : RR w v rows) (hl : rows.length ≤ 1000000) (hf : rows.flatten.length ≤ 1000000) (hp : ∀ p ∈ rows.flatten,p.2.length ≤ 140737488355328) :
  Calls Tryz.prog 13 #[jobV t1 c1 t2 c2 t3 c3 j,v] w fun e w' => (∃ pv,e = .returned (.tuple #[pv,.string (bs (rowsJ j rows).2.1),.int .i64 ((rowsJ j rows).2.2 : Int)]) ∧ recKv.Own w' w.heap.size pv (rowsJ j rows).1) ∧ Below w.heap.size w w':=by
 have HCK:=Lib.hid (fun w' (hB : Below w.heap.size w w') => jCheck_any t1 c1 t2 c2 t3 c3 j w' (h.below hB))
 have HVA:=Lib.hid (fun (u : Value) (l : List (List UInt8)) w' (hB : Below w.heap.size w w') hv h1 h2 => Values18_any t1 c1 t2 c2 t3 c3 u j l w' (h.below hB) (hdo.below hB) hv h1 h2)
 have HIT:=Lib.hid (fun (X Q D : Nat) (W : World) hX (hB : Below w.heap.size w W) hQ hQD hD hD0 hD1 => groupsF_iter 2 X Q D v rows W hX (hr.below hB) hl hf hQ hQD hD hD0 hD1)
 obtain ⟨ta,tc,rfl,-,-⟩:=recS_open h.a.t
 obtain ⟨ca,cc,rfl,-,-⟩:=recIns_open h.a.c
 obtain ⟨ta2,tc2,rfl,-,-⟩:=recS_open h.b.t
 obtain ⟨ca2,cc2,rfl,-,-⟩:=recIns_open h.b.c
 obtain ⟨ta3,tc3,rfl,-,-⟩:=recS_open h.c.t
 obtain ⟨ca3,cc3,rfl,-,-⟩:=recIns_open h.c.c
 obtain ⟨av,cv,rfl,_,_,_⟩:=hr
 unfold jobV at HCK HVA ⊢
 have HGB:=Lib.hid (grp_bounds hf)
 have HGV:=Lib.hid (grp_vals hp)
 have HGC:=Lib.hid (grp_count hf)
 obtain ⟨J,hJ⟩ : ∃ J,J = w.heap.size:=⟨_,rfl⟩
 obtain ⟨W0,hW0⟩ : ∃ W0,W0 = w.alloc (.cells #[.slice ta j.mt.length tc,.slice ca j.mc.length cc,.slice ta2 j.jt.length tc2,.slice ca2 j.jc.length cc2,.slice ta3 j.tt.length tc3,.slice ca3 j.tc.length cc3,.int .i64 j.parts,.int .i64 j.fuel] 27):=⟨_,rfl⟩
 have hs0 : W0.heap.size = J + 1:=by rw [hW0,size_alV,hJ]
 obtain ⟨W1,hW1⟩ : ∃ W1,W1 = W0.alloc (.cells #[.slice none 0 0] 37):=⟨_,rfl⟩
 have hs1 : W1.heap.size = J + 1 + 1:=by rw [hW1,size_alV,hs0]
 obtain ⟨W2,hW2⟩ : ∃ W2,W2 = W1.alloc (.cells #[.string ⟨#[]⟩] 9):=⟨_,rfl⟩
 have hs2 : W2.heap.size = J + 1 + 1 + 1:=by rw [hW2,size_alV,hs1]
 obtain ⟨W3,hW3⟩ : ∃ W3,W3 = W2.alloc (.cells #[.int .i64 0] 33):=⟨_,rfl⟩
 have hx0 : Blk W0 J 27 [.slice ta j.mt.length tc,.slice ca j.mc.length cc,.slice ta2 j.jt.length tc2,.slice ca2 j.jc.length cc2,.slice ta3 j.tt.length tc3,.slice ca3 j.tc.length cc3,.int .i64 j.parts,.int .i64 j.fuel]:=by rw [hJ,hW0]; exact Blk.new w _ _
 have hb0 : Below w.heap.size w W0:=by rw [hW0]; exact b_alloc _ _
 have hb1 : Below W0.heap.size W0 W1:=by rw [hW1]; exact b_alloc _ _
 have hb2 : Below W1.heap.size W1 W2:=by rw [hW2]; exact b_alloc _ _
 have hb3 : Below W2.heap.size W2 W3:=by rw [hW3]; exact b_alloc _ _
 have hx:=((hx0.below hb1).below hb2).below hb3
 have hy : Blk W3 (J + 1) 37 [.slice none 0 0]:=by
  have q : Blk W1 W0.heap.size 37 [.slice none 0 0]:=by rw [hW1]; exact Blk.new _ _ _
  rw [hs0] at q
  exact (q.below hb2).below hb3
 have hz : Blk W3 (J + 1 + 1) 9 [.string ⟨#[]⟩]:=by
  have q : Blk W2 W1.heap.size 9 [.string ⟨#[]⟩]:=by rw [hW2]; exact Blk.new _ _ _
  rw [hs1] at q
  exact q.below hb3
 have hu : Blk W3 (J + 1 + 1 + 1) 33 [.int .i64 0]:=by
  have q : Blk W3 W2.heap.size 33 [.int .i64 0]:=by rw [hW3]; exact Blk.new _ _ _
  rwa [hs2] at q
 have HB3:=Lib.hid (bt (bt (bt hb0 hb1) hb2) hb3)
 have HX:=Lib.hid hx
 have HY:=Lib.hid hy
 have HZ:=Lib.hid hz
 have HU:=Lib.hid hu
 have HJW:=Lib.hid (show w.heap.size = J from hJ.symm)
 have x0:=hx.cell (k:=0) rfl
 have x1:=hx.cell (k:=1) rfl
 have x2:=hx.cell (k:=2) rfl
 have x3:=hx.cell (k:=3) rfl
 have x4:=hx.cell (k:=4) rfl
 have x5:=hx.cell (k:=5) rfl
 have x6:=hx.cell (k:=6) rfl
 have x7:=hx.cell (k:=7) rfl
 refine calls_of_wp_marks Tryz.func13 rfl ?_
 simp only [Tryz.ntmps13,List.size_toArray,List.length_cons,List.length_nil,Nat.reduceAdd,Nat.reduceSub,Array.replicate_succ,Array.replicate_zero,List.push_toArray,List.append_toArray,List.nil_append,List.cons_append]
 go_upto_region 1 with fail
 rw [← hJ,← hW0]
 try rw [hs0]
 rw [← hW1]
 try rw [hs1]
 rw [← hW2]
 try rw [hs2]
 rw [← hW3]
 clear hJ hW0 hW1 hW2 hW3 hs0 hs1 hs2 hx0 hb0 hb1 hb2 hb3 hx hy hz hu h hdo hl hf hp
 obtain ⟨ck,hck⟩ : ∃ ck,ck = checkJ j:=⟨_,rfl⟩
 rw [← hck] at HCK
 by_cases hm : mayJ j = true
 ·have t1 : ((ck.2.2 : Int) != 0) = false:=by rw [hck,mayJ_yes hm]; rfl
  have HR:=Lib.hid (show rowsJ j rows = rowsV j [] (grp (srt rows.flatten)) from if_pos hm)
  clear hm hck
  go_wp2_with (first | (go_at_call 34; refine (HCK.out _ HB3.out).mono ?_; rintro e w3 ⟨rfl,hB4⟩; have HX4:=Lib.hid (HX.out.below hB4); have HY4:=Lib.hid (HY.out.below hB4); have HZ4:=Lib.hid (HZ.out.below hB4); have HU4:=Lib.hid (HU.out.below hB4); have HB4:=Lib.hid (bt HB3.out hB4); clear hB4 x0 x1 x2 x3 x4 x5 x6 x7) | (go_at_call 38; refine (groupsF_mk av rows.length cv _).mono ?_; rintro e w5 ⟨rfl,hw5⟩; have HW5:=Lib.hid hw5; clear hw5))
  have hw5:=HW5.out
  clear HW5
  have hX5 : Blk w5 w3.heap.size 28 [.slice av rows.length cv]:=by rw [hw5]; exact Blk.new _ _ _
  have hB5 : Below w3.heap.size w3 w5:=by rw [hw5]; exact b_alloc _ _
  have hs5 : w5.heap.size = w3.heap.size + 1:=by rw [hw5,size_alV]
  have hE3:=HU4.out.lt
  have HX5:=Lib.hid hX5
  have HJ5:=Lib.hid (HX4.out.below hB5)
  have HY5:=Lib.hid (HY4.out.below hB5)
  have HZ5:=Lib.hid (HZ4.out.below hB5)
  have HU5:=Lib.hid (HU4.out.below hB5)
  have HB5:=Lib.hid (bt HB4.out hB5)
  have hJw:=HJW.out
  obtain ⟨gs,hgs⟩ : ∃ gs,gs = grp (srt rows.flatten):=⟨_,rfl⟩
  have hgn : gs.length ≤ 1000000:=by rw [hgs]; exact HGC.out
  have HGN:=Lib.hid hgn
  rw [← hgs] at HIT HGB HGV HR
  clear hw5 hX5 hB5 hgs hgn HX4 HY4 HZ4 HU4 HB4 HCK
  refine wp_rangeH (D:=w5.heap.size) rfl (gf:=68) (lb:=#[.pointer (some ⟨w3.heap.size,0,none⟩)]) rfl (enters_of Tryz.func68 (by kernel_rfl) rfl)
   (Xr:=fun U U' => Below U.heap.size U U') (Yr:=fun U U' => (J + 1) < U.heap.size → YrF (J + 1) w5.heap.size U U') (Fin:=fun _ => True) (El:=ElF w5.heap.size) (out:=gs) (fun U U' h => KeepD.of_chg (X:=fun _ => False) (Chg.of_below h) (fun _ _ q => q)) (fun a b c d h1 h2 h3 hs => YrF.comp (by omega) a b c d hs h1 (h2 (Nat.lt_of_lt_of_le hs h1.size)) h3) (fun _ _ _ _ => trivial)
   (fun W hW hD0 hD1 hBW => HIT.out w3.heap.size (J + 1) w5.heap.size W (HX5.out.below (hBW.mono (by omega))) ?seq (HY5.out.below hBW) (by omega) hW hD0 hD1) (fun x vs U h => by obtain ⟨A,C,rfl,-⟩:=h; rfl) (fun x vs U U' h hc => by obtain ⟨A,C,e,h2⟩:=h; exact ⟨A,C,e,ownsRow_chg h2 hc (fun k hk => by omega)⟩)
   (FI J (J + 1) (J + 1 + 1) (J + 1 + 1 + 1) w5.heap.size w [.slice ta j.mt.length tc,.slice ca j.mc.length cc,.slice ta2 j.jt.length tc2,.slice ca2 j.jc.length cc2,.slice ta3 j.tt.length tc3,.slice ca3 j.tc.length cc3,.int .i64 j.parts,.int .i64 j.fuel] j) (FX (J + 1) (J + 1 + 1) (J + 1 + 1 + 1) w j) (fun pre U U' h hx => h.below hx) (fun pre U U' h hc => h.chg (by omega) (by omega) (by omega) (by omega) (by omega) hc) (fun c pre U U' h hx => h.below hx) (fun c pre U U' h hc => h.chg (by omega) (by omega) (by omega) (by omega) hc)
   ⟨HJ5.out,⟨_,[],HY5.out,Rec.Own.nil _ _,Nat.le_refl _,fun rest => rfl⟩,⟨_,HZ5.out⟩,⟨_,HU5.out⟩,HB5.out⟩ ?round ?done ?stop
  case seq => exact bt HB5.out hBW
  case round =>
   rintro l pre x vs U _ ⟨A,C,rfl,_⟩ hpre
   gi_wp2
   refine ⟨Below.refl _ _,?_⟩
   rintro U2 h2 hI ⟨A',C',hv',hro⟩ hcU
   have hv2 : Value.slice A x.length C = .slice A' x.length C':=by simpa using hv'
   injection hv2 with q1 _ q3
   subst q1 q3
   obtain ⟨rv,out,hrq,hrown,hol,hrw⟩:=hI.row
   obtain ⟨ra,rc,rfl⟩:=owns_slice hrown
   obtain ⟨bx,hbx⟩:=hI.bad
   obtain ⟨ex,hex⟩:=hI.err
   have hxm : x ∈ gs:=by obtain ⟨r,hr⟩:=hpre; rw [← hr]; simp
   have hxl:=HGB.out x hxm
   have hpl : pre.length < 1000000 + 1:=by
    have q:=hpre.length_le
    have:=HGN.out
    rw [List.length_append] at q
    simp at q
    omega
   have HV:=Lib.hid (HVA.out (.slice A x.length C) (x.map (·.2)) U2 hI.bel (by rw [show x.length = (x.map (·.2)).length by simp] at hro ⊢; exact hro.row) (by rw [List.length_map]; exact Nat.le_trans hxl (by decide)) (HGV.out x hxm))
   have y0:=hI.job.cell (k:=0) rfl
   have y1:=hI.job.cell (k:=1) rfl
   have y2:=hI.job.cell (k:=2) rfl
   have y3:=hI.job.cell (k:=3) rfl
   have y4:=hI.job.cell (k:=4) rfl
   have y5:=hI.job.cell (k:=5) rfl
   have y6:=hI.job.cell (k:=6) rfl
   have y7:=hI.job.cell (k:=7) rfl
   obtain ⟨R,hR⟩ : ∃ R,R = valuesJ j (x.map (·.2)):=⟨_,rfl⟩
   rw [← hR] at HV
   have HR2:=Lib.hid hR
   have HQ:=Lib.hid hrq
   have HO:=Lib.hid hrown
   have HBX:=Lib.hid hbx
   have HEX:=Lib.hid hex
   have HRW:=Lib.hid hrw
   have HIJ:=Lib.hid hI.job
   have HIB:=Lib.hid hI.bel
   clear hI hv' hro hcU hrq hrown hbx hex hrw hR hxm hpre
   gi_wp2
   refine ⟨trivial,CallsIn.inRound _ (callsIn_wide.2 (HV.out.mono ?_))⟩
   rintro e w8 ⟨rfl,hB8⟩
   have hq8:=HQ.out.below hB8
   have hb8:=HBX.out.below hB8
   have he8:=HEX.out.below hB8
   have z1:=hq8.cell (k:=0) rfl
   have z2:=hb8.cell (k:=0) rfl
   have z3:=he8.cell (k:=0) rfl
   have f1:=hq8.free (k:=0) (by simp)
   have f2:=hb8.free (k:=0) (by simp)
   have f3:=he8.free (k:=0) (by simp)
   have l1:=hq8.lt
   have l2:=hb8.lt
   have l3:=he8.lt
   have HQ8:=Lib.hid hq8
   have HBX8:=Lib.hid hb8
   have HEX8:=Lib.hid he8
   have HO8:=Lib.hid (HO.out.below hB8)
   have HB8:=Lib.hid hB8
   clear hq8 hb8 he8 hB8 y0 y1 y2 y3 y4 y5 y6 y7
   by_cases hz : R.2 = 0
   ·have t2 : ((R.2 : Int) != 0) = false:=by rw [hz]; rfl
    have HRZ:=Lib.hid (show ∀ rest,rowsV j [] ((pre ++ [x]) ++ rest) = rowsV j (out ++ [(hk1 x,R.1)]) rest from fun rest => by
     rw [List.append_assoc,HRW.out,List.singleton_append,rowsV_on (by rw [← HR2.out]; exact hz),← HR2.out])
    have HBY:=Lib.hid (show (out.length + 1) * 32 ≤ 140737488355328 by omega)
    have HSZ:=Lib.hid (show w5.heap.size + 2 ≤ w8.heap.size from Nat.le_trans h2 HB8.out.size)
    clear hz
    have HLT:=Lib.hid (show ∀ k,(Value.slice ra out.length rc).ownBlock = some k → w5.heap.size + 2 ≤ k from fun k hk => (Rec.Own.ltV HO.out k hk).1)
    gi_wp2_with (gi_at_builtin; go_loud (refine recKv.append1G w8 (hk1 x,R.1) rfl _ _ 37 rfl Tryz.underlying37 (w5.heap.size + 2) _ out HO8.out rfl _ rfl _ rfl _ rfl HBY.out HSZ.out ?_); intro g cap w9 hown9 hc9 hg9; have HO9:=Lib.hid hown9; have HC9:=Lib.hid hc9; have HG9:=Lib.hid hg9; have hq9:=HQ8.out.chg hc9 (fun q => by have:=HLT.out _ q; omega); have y1:=hq9.cell (k:=0) rfl; have g1:=hq9.free (k:=0) (by simp); have m1:=hq9.lt; have HQ9:=Lib.hid hq9; clear hown9 hc9 hg9 hq9)
    have hfr:=fold_round (n:=out.length + 1) (cap:=cap) (by omega) HQ.out HB8.out HC9.out HG9.out HLT.out
    have hcs : Chg (fun k => k = J + 1) w9 (w9.setCell ⟨J + 1,0,none⟩ (.slice (some ⟨g,0,none⟩) (out.length + 1) cap)):=Chg.setCell _ _ _ rfl
    refine ⟨hfr.1,fun _ => hfr.2,⟨((HIJ.out.below HB8.out).chg HC9.out (fun q => by have:=HLT.out _ q; omega)).chg hcs (by omega),⟨_,out ++ [(hk1 x,R.1)],HQ9.out.set 0 _,ownsRow_chg HO9.out hcs (fun k hk => by omega),by rw [List.length_append,List.length_append]; exact Nat.add_le_add_right hol 1,HRZ.out⟩,
     ⟨_,(HBX8.out.chg HC9.out (fun q => by have:=HLT.out _ q; omega)).chg hcs (by omega)⟩,⟨_,(HEX8.out.chg HC9.out (fun q => by have:=HLT.out _ q; omega)).chg hcs (by omega)⟩,?_⟩⟩
    exact (bt HIB.out HB8.out).trans (((HC9.out.mono (fun k hk => .inr hk)).trans (hcs.mono (fun k hk => .inl hk))).below (X:=fun k => k = J + 1 ∨ (Value.slice ra out.length rc).ownBlock = some k) (fun k hk => hk.elim (fun q => by omega) (fun q => by have:=HLT.out _ q; omega)) (bt HIB.out HB8.out).size)
   ·have t2 : ((R.2 : Int) != 0) = true:=by simpa using hz
    have HRZ:=Lib.hid (show ∀ rest,rowsV j [] ((pre ++ [x]) ++ rest) = ([],hk1 x,R.2) from fun rest => by
     rw [List.append_assoc,HRW.out,List.singleton_append,rowsV_bad (by rw [← HR2.out]; exact hz),← HR2.out])
    clear hz
    gi_wp2
    have hq9:=HQ8.out.set 0 (.slice none 0 0)
    have hb9:=HBX8.out.chg (X:=fun k => k = J + 1) (Chg.setCell w8 ⟨J + 1,0,none⟩ (.slice none 0 0) rfl) (by omega)
    have he9:=HEX8.out.chg (X:=fun k => k = J + 1) (Chg.setCell w8 ⟨J + 1,0,none⟩ (.slice none 0 0) rfl) (by omega)
    have hx9 : Chg (fun k => k = J + 1 ∨ k = J + 1 + 1 ∨ k = J + 1 + 1 + 1) w8 (w8.setCell ⟨J + 1,0,none⟩ (.slice none 0 0)):=Chg.setCell _ _ _ (.inl rfl)
    obtain ⟨w9,hw9⟩ : ∃ w9,w9 = w8.setCell ⟨J + 1,0,none⟩ (.slice none 0 0):=⟨_,rfl⟩
    rw [← hw9] at hq9 hb9 he9 hx9 ⊢
    clear hw9
    have hc1 : Chg (fun k => k = J + 1 + 1) w9 (w9.setCell ⟨J + 1 + 1,0,none⟩ (.string (bs (hk1 x)))):=Chg.setCell _ _ _ rfl
    have hq10:=hq9.chg hc1 (by omega)
    have hb10:=hb9.set 0 (.string (bs (hk1 x)))
    have he10:=he9.chg hc1 (by omega)
    have hx10:=hx9.trans (hc1.mono (fun k hk => .inr (.inl hk)))
    obtain ⟨w10,hw10⟩ : ∃ w10,w10 = w9.setCell ⟨J + 1 + 1,0,none⟩ (.string (bs (hk1 x))):=⟨_,rfl⟩
    rw [← hw10] at hc1 hq10 hb10 he10 hx10 ⊢
    clear hw10
    have hc2 : Chg (fun k => k = J + 1 + 1 + 1) w10 (w10.setCell ⟨J + 1 + 1 + 1,0,none⟩ (.int .i64 (R.2 : Int))):=Chg.setCell _ _ _ rfl
    have hx11:=hx10.trans (hc2.mono (fun k hk => .inr (.inr hk)))
    exact ⟨KeepD.of_chg ((Chg.of_below HB8.out).trans hx11) (fun k hk q => by omega),rfl,hq10.chg hc2 (by omega),⟨hk1 x,R.2,hb10.chg hc2 (by omega),he10.set 0 _,HRZ.out⟩,(bt HIB.out HB8.out).trans (hx11.below (fun k hk => by omega) (bt HIB.out HB8.out).size)⟩
  case done =>
   rintro W h2 hI - hK
   obtain ⟨rv,out,hrq,hrown,hol,hrw⟩:=hI.row
   obtain ⟨ra,rc,rfl⟩:=owns_slice hrown
   obtain ⟨bx,hbx⟩:=hI.bad
   obtain ⟨ex,hex⟩:=hI.err
   have HRO:=Lib.hid (show rowsV j [] gs = (out,[],0) by
    have q:=hrw []
    rw [List.append_nil] at q
    rw [q]; rfl)
   have z1:=hrq.cell (k:=0) rfl
   have z2:=hbx.cell (k:=0) rfl
   have z3:=hex.cell (k:=0) rfl
   have f1:=hrq.free (k:=0) (by simp)
   have f2:=hbx.free (k:=0) (by simp)
   have f3:=hex.free (k:=0) (by simp)
   have l1:=hrq.lt
   have l2:=hbx.lt
   have l3:=hex.lt
   have HQ:=Lib.hid hrq
   have HBX:=Lib.hid hbx
   have HEX:=Lib.hid hex
   have HO:=Lib.hid hrown
   have HIB:=Lib.hid hI.bel
   have HK:=Lib.hid hK
   clear hI hrq hbx hex hrown hrw hK
   go_wp2
   have h3:=set3F HQ.out HBX.out HEX.out (.slice ra out.length rc) (.string ⟨#[]⟩) (.int .i64 0)
   obtain ⟨W8,hW8⟩ : ∃ W8,W8 = ((W.setCell ⟨J + 1,0,none⟩ (.slice ra out.length rc)).setCell ⟨J + 1 + 1,0,none⟩ (.string ⟨#[]⟩)).setCell ⟨J + 1 + 1 + 1,0,none⟩ (.int .i64 0):=⟨_,rfl⟩
   rw [← hW8] at h3 ⊢
   obtain ⟨g1,g2,g3,g4⟩:=h3
   have hp : Chg (fun k => k = w5.heap.size) W8 (W8.putObj w5.heap.size (.deferred none)):=Chg.putObj _ _ _ rfl
   refine marks_ret (D:=w5.heap.size) rfl (g4.at HK.out (by omega)) (results_cell3 rfl rfl rfl rfl (load_rowF ((g1.chg hp (by omega)).cell (k:=0) rfl)) (load_strF ((g2.chg hp (by omega)).cell (k:=0) rfl)) (load_err ((g3.chg hp (by omega)).cell (k:=0) rfl))) ?_
   rw [HR.out,HRO.out]
   exact ⟨⟨_,rfl,owns_mono (ownsRow_chg (ownsRow_chg HO.out g4 (fun k hk => by omega)) hp (fun k hk => by omega)) (by omega)⟩,HIB.out.trans ((g4.below (fun k hk => by omega) HIB.out.size).trans (hp.below (fun k hk => by omega) (Nat.le_trans HIB.out.size g4.size)))⟩
  case stop =>
   rintro c pre W h2 hpre ⟨rfl,hq,⟨key,er,hb,he,hrw⟩,hbel⟩ hK
   have HRO:=Lib.hid (show rowsV j [] gs = ([],key,er) by obtain ⟨r,hr⟩:=hpre; rw [← hr]; exact hrw r)
   clear hrw hpre
   go_wp2
   have hp : Chg (fun k => k = w5.heap.size) W (W.putObj w5.heap.size (.deferred none)):=Chg.putObj _ _ _ rfl
   refine marks_ret (D:=w5.heap.size) rfl hK (results_cell3 rfl rfl rfl rfl (load_rowF ((hq.chg hp (by omega)).cell (k:=0) rfl)) (load_strF ((hb.chg hp (by omega)).cell (k:=0) rfl)) (load_err ((he.chg hp (by omega)).cell (k:=0) rfl))) ?_
   rw [HR.out,HRO.out]
   exact ⟨⟨_,rfl,Rec.Own.nil _ _⟩,hbel.trans (hp.below (fun k hk => by omega) hbel.size)⟩
 ·have t1 : ((ck.2.2 : Int) != 0) = true:=by rw [hck]; simpa using mayJ_no hm
  have HR:=Lib.hid (show rowsJ j rows = ([],[],2) from if_neg hm)
  clear hm hck
  go_wp2_with (go_at_call 34; refine (HCK.out _ HB3.out).mono ?_; rintro e w3 ⟨rfl,hB4⟩; have hy4:=HY.out.below hB4; have hz4:=HZ.out.below hB4; have hu4:=HU.out.below hB4; have z1:=hy4.cell (k:=0) rfl; have z2:=hz4.cell (k:=0) rfl; have z3:=hu4.cell (k:=0) rfl; have f1:=hy4.free (k:=0) (by simp); have f2:=hz4.free (k:=0) (by simp); have f3:=hu4.free (k:=0) (by simp); have l1:=hy4.lt; have l2:=hz4.lt; have l3:=hu4.lt; have HY4:=Lib.hid hy4; have HZ4:=Lib.hid hz4; have HU4:=Lib.hid hu4; have HB4:=Lib.hid (bt HB3.out hB4); clear hB4 hy4 hz4 hu4 x0 x1 x2 x3 x4 x5 x6 x7)
  have h3:=set3F HY4.out HZ4.out HU4.out (.slice none 0 0) (.string ⟨#[]⟩) (.int .i64 2)
  obtain ⟨g1,g2,g3,g4⟩:=h3
  refine marks_none rfl (results_cell3 rfl rfl rfl rfl (load_rowF (g1.cell (k:=0) rfl)) (load_strF (g2.cell (k:=0) rfl)) (load_err (g3.cell (k:=0) rfl))) ?_
  rw [HR.out]
  have hJw:=HJW.out
  exact ⟨⟨_,rfl,Rec.Own.nil _ _⟩,HB4.out.trans (g4.below (fun k hk => by omega) HB4.out.size)⟩
end Go.Proofs.YtehllcbnheicoaaGreatDoor
namespace Go.Proofs.YtehllcbnheicoaaGreatDoor
open Go.RowKit Oct
attribute [local irreducible] wpG
theorem by24F {n k : Nat} (h : n ≤ 1000000) (hk : k < n) : (k + 1) * 24 ≤ 140737488355328:=by omega
theorem copied18_any (v : Value) (rows : List (List PR)) (w : World) (hr : RR w v rows) (hl : rows.length ≤ 1000000) (hm : ∀ r ∈ rows,r.length ≤ 1000000) :
  Calls Tryz.prog 10 #[v] w fun e w' => (∃ a c,e = .returned (.slice a rows.length c) ∧ RR w' (.slice a rows.length c) rows) ∧ Below w.heap.size w w':=by
 obtain ⟨a,cap,rfl,_,_,hc⟩:=hr
 have HC:=Lib.hid hc
 have HM:=Lib.hid hm
 clear hc hm
 go_enter Tryz.func10,Tryz.ntmps10
 go_wp2
 go_loopw [3,4] (fun u t wr => ∃ i : Nat,i ≤ rows.length ∧ t = .int .i64 (i : Int) ∧ Hid (GRP wr w.heap.size u (rows.take i)) ∧ Hid (Below w.heap.size w wr)) (fun _ t _ => rows.length - (intOf t).toNat)
 case atStart => exact ⟨0,by omega,rfl,GRP.nil _ _,Below.refl _ _⟩
 case round =>
  obtain ⟨i,hi,rfl,HG,HB⟩:=hrel
  obtain ⟨Av,Cv,rfl⟩:=GRP.slice HG.out
  by_cases h0 : i < rows.length
  ·obtain ⟨b1,o1,u,rfl,d1,hru⟩:=HC.out i h0
   have hru2:=hru.below HB.out
   obtain ⟨a2,c2,rfl,-,-⟩:=hru.open
   have d2:=Below.keeps HB.out d1
   have HU:=Lib.hid hru2
   have kk0 : (0 : Int) ≤ (i : Int):=by omega
   have kk1 : (i : Int) < (rows.length : Int):=by omega
   have hrl:=HM.out rows[i] (List.getElem_mem h0)
   have HT:=Lib.hid (show rows.take (i + 1) = rows.take i ++ [rows[i]] from List.take_succ_eq_append_getElem h0)
   have hzl : (rows.take i).length = i:=by rw [List.length_take]; omega
   have HI:=Lib.hid h0
   obtain ⟨Z,hZ⟩ : ∃ Z,Z = rows.take i:=⟨_,rfl⟩
   rw [← hZ] at HG HT hzl
   have hZL:=congrArg List.length hZ
   rw [← hZL]
   obtain ⟨r,hr⟩ : ∃ r,r = rows[i]'h0:=⟨_,rfl⟩
   rw [← hr] at d2 HU hrl HT
   have HBY:=Lib.hid (show (([] : List PR).length + r.length) * 32 ≤ 140737488355328 by simp; omega)
   have HBZ:=Lib.hid (show (Z.length + 1) * 24 ≤ 140737488355328 by rw [hzl]; exact by24F hl h0)
   have HZL:=Lib.hid hzl
   clear hZ hZL hr hzl hru hru2 d1 h0 hrl
   go_wp2_with (first
    | (at_builtin; (refine appendP wr rfl _ _ 37 rfl Tryz.underlying37 wr.heap.size (.slice none 0 0) [] rfl (OP.nil _ _) (.slice a2 r.length c2) r rfl HU.out HBY.out (Nat.le_refl _) ?_); intro v3 w3 hown3 hB3; rw [List.nil_append] at hown3; obtain ⟨a3,c3,rfl⟩:=owns_slice hown3; have HO3:=Lib.hid hown3; have HG3:=Lib.hid (HG.out.below hB3); have HB3:=Lib.hid hB3; obtain ⟨CS,hcs,hcs2⟩:=HG3.out; have HCS:=Lib.hid hcs; have HCS2:=Lib.hid hcs2; clear hown3 hB3 hcs hcs2)
    | (at_builtin; (refine append1K w3 [.slice a3 r.length c3] 37 rfl _ _ 28 rfl w.heap.size (.slice none 0 0) 1 24 Tryz.underlying28 infoRowG rfl (by decide) _ Z.length CS HCS.out rfl _ rfl rfl (by simp [Value.oneCell']) (by decide) HBZ.out (Nat.le_trans HB.out.size HB3.out.size) ?_); intro g cap w4 hown4 hfr hgb hB4 hsz4; have HO4:=Lib.hid hown4; have HFR:=Lib.hid hfr; have HGB:=Lib.hid hgb; have HB4:=Lib.hid hB4; have HSZ4:=Lib.hid hsz4; clear hown4 hfr hgb hB4 hsz4))
   go_roundw
   case rel =>
    have hout : ∀ b,(Value.slice a3 r.length c3).ownBlock = some b → b < w3.heap.size ∧ (Value.slice Av Z.length Cv).ownBlock ≠ some b:=by
     intro b hb
     have h1:=World.ownsRow.lt HO3.out b hb
     refine ⟨h1.2,fun e => ?_⟩
     obtain ⟨CS2,hc2,_⟩:=HG.out
     have h2:=World.ownsRow.lt hc2 b e
     omega
    have hsn:=GRP.snoc HCS2.out (by have:=HCS.out.1; omega) (OP.reads HO3.out) hout rfl HO4.out HFR.out HGB.out HSZ4.out
    refine ⟨i + 1,HI.out,by go_num,by rw [HT.out]; exact hsn,?_⟩
    exact HB.out.trans ((HB3.out.mono HB.out.size).trans HB4.out)
   case measure => have:=HI.out; simp [intOf]; omega
  ·have kk1 : ¬ (i : Int) < (rows.length : Int):=by omega
   have HE:=Lib.hid (show rows.take i = rows from List.take_of_length_le (by omega))
   rw [HE.out] at HG
   rw [HE.out]
   clear h0
   go_wp2_with fail
   go_ret
   exact ⟨⟨_,_,rfl,HG.out.rr⟩,HB.out⟩
end Go.Proofs.YtehllcbnheicoaaGreatDoor
namespace Go.Proofs.YtehllcbnheicoaaGreatDoor
open Go.RowKit Oct
end Go.Proofs.YtehllcbnheicoaaGreatDoor
namespace Go.Proofs.YtehllcbnheicoaaGreatDoor
open Go.RowKit Oct
attribute [local irreducible] wpG
end Go.Proofs.YtehllcbnheicoaaGreatDoor
namespace Go.Proofs.YtehllcbnheicoaaGreatDoor
open Go.RowKit Oct
end Go.Proofs.YtehllcbnheicoaaGreatDoor
namespace Go.Proofs.YtehllcbnheicoaaGreatDoor
open Go.RowKit Oct
attribute [local irreducible] wpG
def sd (d : Bool) (v u : Value) : Value:=bif d then v else u
@[go_sem] theorem sd_true (v u : Value) : sd true v u = v:=rfl
@[go_sem] theorem sd_false (v u : Value) : sd false v u = u:=rfl
section
variable {w wx w' : World} {B : Nat} {tv tv' : Value} {r r' : List UInt8} {acc acc' : List (List UInt8)}
end
section
variable {w wx w' : World} {B C : Nat} {tv cv cv' : Value} {r r' : List UInt8} {t : List (List UInt8)} {acc acc' : List VI}
end
section
variable {w wx : World} {B C : Nat} {tv cv : Value} {r : List UInt8} {t : List (List UInt8)} {acc : List VI}
end
end Go.Proofs.YtehllcbnheicoaaGreatDoor
namespace Go.Proofs.YtehllcbnheicoaaGreatDoor
open Go.RowKit Oct
attribute [local irreducible] wpG

def jobZ : Jb:=⟨[],[],[],[],[],[],0,0⟩
theorem Slow_any (t1 c1 t2 c2 t3 c3 : Value) (j : Jb) (w : World) (h : JobQ w t1 c1 t2 c2 t3 c3 j) :
  Calls Tryz.prog 7 #[jobV t1 c1 t2 c2 t3 c3 j] w fun e w' => e = .returned (.bool (slowJ j)) ∧ Below w.heap.size w w':=by
 obtain ⟨ta,tc,rfl,-,-⟩:=recS_open h.a.t
 obtain ⟨ca,cc,rfl,-,-⟩:=recIns_open h.a.c
 obtain ⟨ta2,tc2,rfl,-,-⟩:=recS_open h.b.t
 obtain ⟨ca2,cc2,rfl,-,-⟩:=recIns_open h.b.c
 obtain ⟨ta3,tc3,rfl,-,-⟩:=recS_open h.c.t
 obtain ⟨ca3,cc3,rfl,-,-⟩:=recIns_open h.c.c
 unfold jobV
 unfold slowJ
 clear h
 obtain ⟨F,hF⟩ : ∃ F,F = j.fuel:=⟨_,rfl⟩
 rw [← hF]
 clear hF
 by_cases h1 : (3000 : Int) < F
 ·by_cases h2 : F ≤ 65536
  ·have e : (decide ((3000 : Int) < F) && decide (F ≤ 65536)) = true:=by simp [h1,h2]
   rw [e]
   go_enter Tryz.func7,Tryz.ntmps7
   go_wp2
   go_ret
   exact ⟨rfl,b_alloc _ _⟩
  ·have e : (decide ((3000 : Int) < F) && decide (F ≤ 65536)) = false:=by simp [h2]
   rw [e]
   go_enter Tryz.func7,Tryz.ntmps7
   go_wp2
   go_ret
   exact ⟨rfl,b_alloc _ _⟩
 ·have e : (decide ((3000 : Int) < F) && decide (F ≤ 65536)) = false:=by simp [h1]
  rw [e]
  go_enter Tryz.func7,Tryz.ntmps7
  go_wp2
  go_ret
  exact ⟨rfl,b_alloc _ _⟩
theorem Large15_any (t1 c1 t2 c2 t3 c3 : Value) (j : Jb) (w : World) (h : JobQ w t1 c1 t2 c2 t3 c3 j) :
  Calls Tryz.prog 6 #[jobV t1 c1 t2 c2 t3 c3 j] w fun e w' => e = .returned (.bool (largeJ j)) ∧ Below w.heap.size w w':=by
 have HA:=Lib.hid (fun w' (hB : Below w.heap.size w w') => (h.a.below hB).large)
 have HB:=Lib.hid (fun w' (hB : Below w.heap.size w w') => (h.b.below hB).large)
 have HC:=Lib.hid (fun w' (hB : Below w.heap.size w w') => (h.c.below hB).large)
 obtain ⟨ta,tc,rfl,-,-⟩:=recS_open h.a.t
 obtain ⟨ca,cc,rfl,-,-⟩:=recIns_open h.a.c
 obtain ⟨ta2,tc2,rfl,-,-⟩:=recS_open h.b.t
 obtain ⟨ca2,cc2,rfl,-,-⟩:=recIns_open h.b.c
 obtain ⟨ta3,tc3,rfl,-,-⟩:=recS_open h.c.t
 obtain ⟨ca3,cc3,rfl,-,-⟩:=recIns_open h.c.c
 unfold jobV
 unfold largeJ
 clear h
 obtain ⟨W1,hW1⟩ : ∃ W1,W1 = w.alloc (.cells #[.slice ta j.mt.length tc,.slice ca j.mc.length cc,.slice ta2 j.jt.length tc2,.slice ca2 j.jc.length cc2,.slice ta3 j.tt.length tc3,.slice ca3 j.tc.length cc3,.int .i64 j.parts,.int .i64 j.fuel] 27):=⟨_,rfl⟩
 have hb1 : Below w.heap.size w W1:=by rw [hW1]; exact b_alloc _ _
 obtain ⟨J,hJ⟩ : ∃ J,J = w.heap.size:=⟨_,rfl⟩
 have hx : Blk W1 J 27 [.slice ta j.mt.length tc,.slice ca j.mc.length cc,.slice ta2 j.jt.length tc2,.slice ca2 j.jc.length cc2,.slice ta3 j.tt.length tc3,.slice ca3 j.tc.length cc3,.int .i64 j.parts,.int .i64 j.fuel]:=by rw [hJ,hW1]; exact Blk.new w _ _
 have x0:=hx.cell (k:=0) rfl
 have x1:=hx.cell (k:=1) rfl
 have HB1:=Lib.hid hb1
 have HX:=Lib.hid hx
 obtain ⟨A,hA⟩ : ∃ A,A = largeV j.mt j.mc:=⟨_,rfl⟩
 obtain ⟨B,hB⟩ : ∃ B,B = largeV j.jt j.jc:=⟨_,rfl⟩
 obtain ⟨C,hC⟩ : ∃ C,C = largeV j.tt j.tc:=⟨_,rfl⟩
 rw [← hA] at HA
 rw [← hB] at HB
 rw [← hC] at HC
 rw [← hA,← hB,← hC]
 go_enter Tryz.func6,Tryz.ntmps6
 go_upto_region 1 with fail
 rw [← hW1,← hJ]
 clear hW1 hJ hb1 hx hA hB hC
 cases A
 ·cases B
  ·cases C
   all_goals
    go_wp2_with (first | (go_at_call 32; refine (HC.out _ HB3.out).mono ?_; rintro e w4 ⟨rfl,hB4⟩; have HB4:=Lib.hid (bt HB3.out hB4); clear hB4) | (go_at_call 32; refine (HB.out _ HB2.out).mono ?_; rintro e w3 ⟨rfl,hB3⟩; have HX3:=Lib.hid (HX2.out.below hB3); have x4:=HX3.out.cell (k:=4) rfl; have x5:=HX3.out.cell (k:=5) rfl; have HB3:=Lib.hid (bt HB2.out hB3); clear hB3 x2 x3) | (go_at_call 32; refine (HA.out _ HB1.out).mono ?_; rintro e w2 ⟨rfl,hB2⟩; have HX2:=Lib.hid (HX.out.below hB2); have x2:=HX2.out.cell (k:=2) rfl; have x3:=HX2.out.cell (k:=3) rfl; have HB2:=Lib.hid (bt HB1.out hB2); clear hB2 x0 x1))
    go_ret
    exact ⟨rfl,HB4.out⟩
  ·go_wp2_with (first | (go_at_call 32; refine (HB.out _ HB2.out).mono ?_; rintro e w3 ⟨rfl,hB3⟩; have HB3:=Lib.hid (bt HB2.out hB3); clear hB3 x2 x3) | (go_at_call 32; refine (HA.out _ HB1.out).mono ?_; rintro e w2 ⟨rfl,hB2⟩; have HX2:=Lib.hid (HX.out.below hB2); have x2:=HX2.out.cell (k:=2) rfl; have x3:=HX2.out.cell (k:=3) rfl; have HB2:=Lib.hid (bt HB1.out hB2); clear hB2 x0 x1))
   go_ret
   exact ⟨by simp,HB3.out⟩
 ·go_wp2_with (go_at_call 32; refine (HA.out _ HB1.out).mono ?_; rintro e w2 ⟨rfl,hB2⟩; have HB2:=Lib.hid (bt HB1.out hB2); clear hB2 x0 x1)
  go_ret
  exact ⟨by simp,HB2.out⟩
theorem recKv_pcells : ∀ l : List PR,recKv.cells l = pcells l
 | [] => rfl
 | x :: l => by rw [Rec.cells,recKv_pcells l]; rfl
theorem recKv_rp {w : World} {v : Value} {l : List PR} (h : recKv.Row w v l) : RP w v l:=⟨by rw [← recKv_pcells]; exact h.1,h.2⟩
theorem wpG_nilJP {P : Program} {ops : Array Oper} {C : World → Prop} {R : World → World → Prop} {F : Nat → Option (Known R)} {Q : Facts → Act → Prop} {k : Nat} {S : Facts} {a : Act} (h : Q S a) : wpG P ops C R F Q k [] S a:=by unfold wpG; exact h
end Go.Proofs.YtehllcbnheicoaaGreatDoor
