/- Lemmas for FoldTells, part 21: walks of the functions that it reaches, and the plain laws behind them. -/
import Derived.Lib.ConvBytes
import Derived.Laws.AppendOwn
import Derived.Test.YtehllcbnheicoaaGreatDoorFoldTellsK2
import Derived.Test.YtehllcbnheicoaaGreatDoorFoldTellsK3
import Derived.Test.YtehllcbnheicoaaGreatDoorFoldTellsK20
set_option linter.unusedSimpArgs false
set_option linter.unusedVariables false
set_option maxRecDepth 100000
set_option maxHeartbeats 16000000
namespace Go.Proofs.YtehllcbnheicoaaGreatDoor
open Go.RowKit Oct
attribute [local irreducible] wpG
section
variable {base G : Nat} {w w' : World} {f : Mf} {at_ : Int} {st rg : List MV} {eos : List Eo} {pr : List (List UInt8 × List UInt8)} {tr : List Int} {stv opv prv trv : Value} {X : List (Pt base)}
theorem MR.add2 (h : MR base w G f at_ st rg eos pr tr stv opv prv trv X) (cs ds : List Value) (t : TypeId) (D : Nat) (hD : D = w.heap.size) (hDb : base ≤ D) (hDb1 : base ≤ D + 1) :
  MR base ((w.alloc (.cells cs.toArray t)).alloc (.cells ds.toArray t)) G f at_ st rg eos pr tr stv opv prv trv (X ++ [blkPt D hDb t cs] ++ [blkPt (D + 1) hDb1 t ds]):=by
 subst hD
 have h2:=(h.add cs t).add ds t
 have hsz : (w.alloc (.cells cs.toArray t)).heap.size = w.heap.size + 1:=size_alM _ _
 simp only [hsz] at h2
 exact h2
theorem vadd_any (y : UInt8) (a b : MV) (h : MR base w G f at_ (b :: a :: st) rg eos pr tr stv opv prv trv X) (hl : st.length ≤ 900) :
  Calls Tryz.prog 278 #[.pointer (some ⟨G,0,none⟩),.int .u8 (y.toNat : Int)] w fun e w' => e = .returned (.int .i64 0) ∧ (∃ stv',MR base w' G f at_ ((wrap64 (a.1 + b.1),[]) :: st) rg eos pr tr stv' opv prv trv X) ∧ Below base w w':=by
 have HP:=Lib.hid (two_any a b h hl)
 have HH:=Lib.hid h.size
 clear h
 go_enter Tryz.func278,Tryz.ntmps278
 go_upto_region 2 with (go_at_call 294; refine HP.out.mono ?_; rintro e w2 ⟨rfl,⟨sv,hm⟩,hB⟩; unfold mvV; have HM:=Lib.hid hm; have HB:=Lib.hid hB; clear hm hB)
 obtain ⟨W3,hW3⟩ : ∃ W3,W3 = (w2.alloc (.cells #[.int .i64 a.1,.string (bs a.2)] 223)).alloc (.cells #[.int .i64 b.1,.string (bs b.2)] 223):=⟨_,rfl⟩
 have hb3 : Below w2.heap.size w2 W3:=by rw [hW3]; exact bt (b_alloc _ _) (b_alloc _ _)
 have hx : Blk W3 w2.heap.size 223 [.int .i64 a.1,.string (bs a.2)]:=by rw [hW3]; exact (Blk.new w2 _ _).below (b_alloc _ _)
 have hy : Blk W3 (w2.heap.size + 1) 223 [.int .i64 b.1,.string (bs b.2)]:=by
  rw [hW3]
  have:=Blk.new (w2.alloc (.cells #[.int .i64 a.1,.string (bs a.2)] 223)) [.int .i64 b.1,.string (bs b.2)] 223
  rw [size_alM] at this
  exact this
 have HM3:=Lib.hid (HM.out.below hb3)
 have HB3:=Lib.hid (HB.out.trans (hb3.mono HM.out.size))
 obtain ⟨D,hD⟩ : ∃ D,D = w2.heap.size:=⟨_,rfl⟩
 rw [← hD] at hx hy ⊢
 rw [← hW3]
 have x0:=hx.cell (k:=0) rfl
 have x1:=hx.cell (k:=1) rfl
 have y0:=hy.cell (k:=0) rfl
 have y1:=hy.cell (k:=1) rfl
 have HX:=Lib.hid hx
 have HY:=Lib.hid hy
 clear hx hy hW3 hD hb3 HM HB
 go_wp2_with (go_at_call 293; refine (push_any (wrap64 (a.1 + b.1),[]) HM3.out (by omega)).mono ?_; rintro e w4 ⟨rfl,⟨sv4,hm⟩,hB⟩; have HM4:=Lib.hid hm; have HB4:=Lib.hid (HB3.out.trans hB); clear hm hB)
 go_ret
 exact ⟨rfl,⟨_,HM4.out⟩,HB4.out⟩
theorem vmul_any (y : UInt8) (a b : MV) (h : MR base w G f at_ (b :: a :: st) rg eos pr tr stv opv prv trv X) (hl : st.length ≤ 900) :
  Calls Tryz.prog 279 #[.pointer (some ⟨G,0,none⟩),.int .u8 (y.toNat : Int)] w fun e w' => e = .returned (.int .i64 0) ∧ (∃ stv',MR base w' G f at_ ((wrap64 (a.1 * b.1),[]) :: st) rg eos pr tr stv' opv prv trv X) ∧ Below base w w':=by
 have HP:=Lib.hid (two_any a b h hl)
 have HH:=Lib.hid h.size
 clear h
 go_enter Tryz.func279,Tryz.ntmps279
 go_upto_region 2 with (go_at_call 294; refine HP.out.mono ?_; rintro e w2 ⟨rfl,⟨sv,hm⟩,hB⟩; unfold mvV; have HM:=Lib.hid hm; have HB:=Lib.hid hB; clear hm hB)
 obtain ⟨W3,hW3⟩ : ∃ W3,W3 = (w2.alloc (.cells #[.int .i64 a.1,.string (bs a.2)] 223)).alloc (.cells #[.int .i64 b.1,.string (bs b.2)] 223):=⟨_,rfl⟩
 have hb3 : Below w2.heap.size w2 W3:=by rw [hW3]; exact bt (b_alloc _ _) (b_alloc _ _)
 have hx : Blk W3 w2.heap.size 223 [.int .i64 a.1,.string (bs a.2)]:=by rw [hW3]; exact (Blk.new w2 _ _).below (b_alloc _ _)
 have hy : Blk W3 (w2.heap.size + 1) 223 [.int .i64 b.1,.string (bs b.2)]:=by
  rw [hW3]
  have:=Blk.new (w2.alloc (.cells #[.int .i64 a.1,.string (bs a.2)] 223)) [.int .i64 b.1,.string (bs b.2)] 223
  rw [size_alM] at this
  exact this
 have HM3:=Lib.hid (HM.out.below hb3)
 have HB3:=Lib.hid (HB.out.trans (hb3.mono HM.out.size))
 obtain ⟨D,hD⟩ : ∃ D,D = w2.heap.size:=⟨_,rfl⟩
 rw [← hD] at hx hy ⊢
 rw [← hW3]
 have x0:=hx.cell (k:=0) rfl
 have x1:=hx.cell (k:=1) rfl
 have y0:=hy.cell (k:=0) rfl
 have y1:=hy.cell (k:=1) rfl
 have HX:=Lib.hid hx
 have HY:=Lib.hid hy
 clear hx hy hW3 hD hb3 HM HB
 go_wp2_with (go_at_call 293; refine (push_any (wrap64 (a.1 * b.1),[]) HM3.out (by omega)).mono ?_; rintro e w4 ⟨rfl,⟨sv4,hm⟩,hB⟩; have HM4:=Lib.hid hm; have HB4:=Lib.hid (HB3.out.trans hB); clear hm hB)
 go_ret
 exact ⟨rfl,⟨_,HM4.out⟩,HB4.out⟩
theorem vless_any (y : UInt8) (a b : MV) (h : MR base w G f at_ (b :: a :: st) rg eos pr tr stv opv prv trv X) (hl : st.length ≤ 900) :
  Calls Tryz.prog 280 #[.pointer (some ⟨G,0,none⟩),.int .u8 (y.toNat : Int)] w fun e w' => e = .returned (.int .i64 0) ∧ (∃ stv',MR base w' G f at_ (bitM (decide (a.1 < b.1)) :: st) rg eos pr tr stv' opv prv trv X) ∧ Below base w w':=by
 have HP:=Lib.hid (two_any a b h hl)
 have HH:=Lib.hid h.size
 clear h
 go_enter Tryz.func280,Tryz.ntmps280
 go_upto_region 2 with (go_at_call 294; refine HP.out.mono ?_; rintro e w2 ⟨rfl,⟨sv,hm⟩,hB⟩; unfold mvV; have HM:=Lib.hid hm; have HB:=Lib.hid hB; clear hm hB)
 obtain ⟨W3,hW3⟩ : ∃ W3,W3 = (w2.alloc (.cells #[.int .i64 a.1,.string (bs a.2)] 223)).alloc (.cells #[.int .i64 b.1,.string (bs b.2)] 223):=⟨_,rfl⟩
 have hb3 : Below w2.heap.size w2 W3:=by rw [hW3]; exact bt (b_alloc _ _) (b_alloc _ _)
 have hx : Blk W3 w2.heap.size 223 [.int .i64 a.1,.string (bs a.2)]:=by rw [hW3]; exact (Blk.new w2 _ _).below (b_alloc _ _)
 have hy : Blk W3 (w2.heap.size + 1) 223 [.int .i64 b.1,.string (bs b.2)]:=by
  rw [hW3]
  have:=Blk.new (w2.alloc (.cells #[.int .i64 a.1,.string (bs a.2)] 223)) [.int .i64 b.1,.string (bs b.2)] 223
  rw [size_alM] at this
  exact this
 have HM3:=Lib.hid (HM.out.below hb3)
 have HB3:=Lib.hid (HB.out.trans (hb3.mono HM.out.size))
 obtain ⟨D,hD⟩ : ∃ D,D = w2.heap.size:=⟨_,rfl⟩
 rw [← hD] at hx hy ⊢
 rw [← hW3]
 have x0:=hx.cell (k:=0) rfl
 have x1:=hx.cell (k:=1) rfl
 have y0:=hy.cell (k:=0) rfl
 have y1:=hy.cell (k:=1) rfl
 have HX:=Lib.hid hx
 have HY:=Lib.hid hy
 clear hx hy hW3 hD hb3 HM HB
 go_wp2_with (go_at_call 295; refine (bit_any (decide (a.1 < b.1)) HM3.out (by omega)).mono ?_; rintro e w4 ⟨rfl,⟨sv4,hm⟩,hB⟩; have HM4:=Lib.hid hm; have HB4:=Lib.hid (HB3.out.trans hB); clear hm hB)
 go_ret
 exact ⟨rfl,⟨_,HM4.out⟩,HB4.out⟩
theorem vsame_any (y : UInt8) (a b : MV) (h : MR base w G f at_ (b :: a :: st) rg eos pr tr stv opv prv trv X) (hl : st.length ≤ 900) :
  Calls Tryz.prog 281 #[.pointer (some ⟨G,0,none⟩),.int .u8 (y.toNat : Int)] w fun e w' => e = .returned (.int .i64 0) ∧ (∃ stv',MR base w' G f at_ (bitM (a.2 == b.2) :: st) rg eos pr tr stv' opv prv trv X) ∧ Below base w w':=by
 have HP:=Lib.hid (two_any a b h hl)
 have HH:=Lib.hid h.size
 clear h
 go_enter Tryz.func281,Tryz.ntmps281
 go_upto_region 2 with (go_at_call 294; refine HP.out.mono ?_; rintro e w2 ⟨rfl,⟨sv,hm⟩,hB⟩; unfold mvV; have HM:=Lib.hid hm; have HB:=Lib.hid hB; clear hm hB)
 obtain ⟨W3,hW3⟩ : ∃ W3,W3 = (w2.alloc (.cells #[.int .i64 a.1,.string (bs a.2)] 223)).alloc (.cells #[.int .i64 b.1,.string (bs b.2)] 223):=⟨_,rfl⟩
 have hb3 : Below w2.heap.size w2 W3:=by rw [hW3]; exact bt (b_alloc _ _) (b_alloc _ _)
 have hx : Blk W3 w2.heap.size 223 [.int .i64 a.1,.string (bs a.2)]:=by rw [hW3]; exact (Blk.new w2 _ _).below (b_alloc _ _)
 have hy : Blk W3 (w2.heap.size + 1) 223 [.int .i64 b.1,.string (bs b.2)]:=by
  rw [hW3]
  have:=Blk.new (w2.alloc (.cells #[.int .i64 a.1,.string (bs a.2)] 223)) [.int .i64 b.1,.string (bs b.2)] 223
  rw [size_alM] at this
  exact this
 have HM3:=Lib.hid (HM.out.below hb3)
 have HB3:=Lib.hid (HB.out.trans (hb3.mono HM.out.size))
 obtain ⟨D,hD⟩ : ∃ D,D = w2.heap.size:=⟨_,rfl⟩
 rw [← hD] at hx hy ⊢
 rw [← hW3]
 have x0:=hx.cell (k:=0) rfl
 have x1:=hx.cell (k:=1) rfl
 have y0:=hy.cell (k:=0) rfl
 have y1:=hy.cell (k:=1) rfl
 have HX:=Lib.hid hx
 have HY:=Lib.hid hy
 clear hx hy hW3 hD hb3 HM HB
 go_wp2_with (go_at_call 295; refine (bit_any (a.2 == b.2) HM3.out (by omega)).mono ?_; rintro e w4 ⟨rfl,⟨sv4,hm⟩,hB⟩; have HM4:=Lib.hid hm; have HB4:=Lib.hid (HB3.out.trans hB); clear hm hB)
 go_ret
 exact ⟨rfl,⟨_,HM4.out⟩,HB4.out⟩
theorem vswap_any (y : UInt8) (a b : MV) (h : MR base w G f at_ (b :: a :: st) rg eos pr tr stv opv prv trv X) (hl : st.length ≤ 900) :
  Calls Tryz.prog 285 #[.pointer (some ⟨G,0,none⟩),.int .u8 (y.toNat : Int)] w fun e w' => e = .returned (.int .i64 0) ∧ (∃ stv',MR base w' G f at_ (a :: b :: st) rg eos pr tr stv' opv prv trv X) ∧ Below base w w':=by
 have HP:=Lib.hid (two_any a b h hl)
 have HH:=Lib.hid h.size
 clear h
 go_enter Tryz.func285,Tryz.ntmps285
 go_upto_region 2 with (go_at_call 294; refine HP.out.mono ?_; rintro e w2 ⟨rfl,⟨sv,hm⟩,hB⟩; unfold mvV; have HM:=Lib.hid hm; have HB:=Lib.hid hB; clear hm hB)
 obtain ⟨W3,hW3⟩ : ∃ W3,W3 = (w2.alloc (.cells #[.int .i64 a.1,.string (bs a.2)] 223)).alloc (.cells #[.int .i64 b.1,.string (bs b.2)] 223):=⟨_,rfl⟩
 have hb3 : Below w2.heap.size w2 W3:=by rw [hW3]; exact bt (b_alloc _ _) (b_alloc _ _)
 have hx : Blk W3 w2.heap.size 223 [.int .i64 a.1,.string (bs a.2)]:=by rw [hW3]; exact (Blk.new w2 _ _).below (b_alloc _ _)
 have hy : Blk W3 (w2.heap.size + 1) 223 [.int .i64 b.1,.string (bs b.2)]:=by
  rw [hW3]
  have:=Blk.new (w2.alloc (.cells #[.int .i64 a.1,.string (bs a.2)] 223)) [.int .i64 b.1,.string (bs b.2)] 223
  rw [size_alM] at this
  exact this
 have HM3:=Lib.hid (HM.out.below hb3)
 have HB3:=Lib.hid (HB.out.trans (hb3.mono HM.out.size))
 obtain ⟨D,hD⟩ : ∃ D,D = w2.heap.size:=⟨_,rfl⟩
 rw [← hD] at hx hy ⊢
 rw [← hW3]
 have x0:=hx.cell (k:=0) rfl
 have x1:=hx.cell (k:=1) rfl
 have y0:=hy.cell (k:=0) rfl
 have y1:=hy.cell (k:=1) rfl
 have HX:=Lib.hid hx
 have HY:=Lib.hid hy
 have hDb : base ≤ D:=by rw [hD]; exact HM.out.size
 have hDb1 : base ≤ D + 1:=by omega
 have HMX:=Lib.hid (show MR base W3 G f at_ st rg eos pr tr sv opv prv trv (X ++ [blkPt D hDb 223 [.int .i64 a.1,.string (bs a.2)]] ++ [blkPt (D + 1) hDb1 223 [.int .i64 b.1,.string (bs b.2)]]) from by rw [hW3]; exact HM.out.add2 _ _ _ D hD hDb hDb1)
 clear hx hy hW3 hD hb3 HM HB
 go_upto_region 3 with (go_at_call 293; refine (push_any b HMX.out (by omega)).mono ?_; rintro e w4 ⟨rfl,⟨sv4,hm⟩,hB⟩; have hd : Blk w4 D 223 [.int .i64 a.1,.string (bs a.2)]:=hm.loc (p:=blkPt D hDb 223 [.int .i64 a.1,.string (bs a.2)]) (by simp); have x0:=hd.cell (k:=0) rfl; have x1:=hd.cell (k:=1) rfl; have HM5:=Lib.hid hm; have HB5:=Lib.hid (HB3.out.trans hB); clear hm hB hd)
 go_wp2_with (go_at_call 293; refine (push_any a HM5.out (by simp; omega)).mono ?_; rintro e w6 ⟨rfl,⟨sv6,hm⟩,hB⟩; have HM6:=Lib.hid hm; have HB6:=Lib.hid (HB5.out.trans hB); clear hm hB)
 go_ret
 exact ⟨rfl,⟨_,HM6.out.pre (by rw [List.append_assoc]; exact List.prefix_append _ _)⟩,HB6.out⟩
theorem vcat_any (y : UInt8) (a b : MV) (h : MR base w G f at_ (b :: a :: st) rg eos pr tr stv opv prv trv X) (hl : st.length ≤ 900) (ha : a.2.length ≤ 1024) (hb : b.2.length ≤ 1024) :
  Calls Tryz.prog 273 #[.pointer (some ⟨G,0,none⟩),.int .u8 (y.toNat : Int)] w fun e w' => ((1024 < a.2.length + b.2.length ∧ e = .returned (.int .i64 5)) ∨ (¬ 1024 < a.2.length + b.2.length ∧ e = .returned (.int .i64 0) ∧ (∃ stv',MR base w' G f at_ ((0,a.2 ++ b.2) :: st) rg eos pr tr stv' opv prv trv X))) ∧ Below base w w':=by
 have HP:=Lib.hid (two_any a b h hl)
 have HH:=Lib.hid h.size
 clear h
 go_enter Tryz.func273,Tryz.ntmps273
 go_upto_region 2 with (go_at_call 294; refine HP.out.mono ?_; rintro e w2 ⟨rfl,⟨sv,hm⟩,hB⟩; unfold mvV; have HM:=Lib.hid hm; have HB:=Lib.hid hB; clear hm hB)
 obtain ⟨W3,hW3⟩ : ∃ W3,W3 = (w2.alloc (.cells #[.int .i64 a.1,.string (bs a.2)] 223)).alloc (.cells #[.int .i64 b.1,.string (bs b.2)] 223):=⟨_,rfl⟩
 have hb3 : Below w2.heap.size w2 W3:=by rw [hW3]; exact bt (b_alloc _ _) (b_alloc _ _)
 have hx : Blk W3 w2.heap.size 223 [.int .i64 a.1,.string (bs a.2)]:=by rw [hW3]; exact (Blk.new w2 _ _).below (b_alloc _ _)
 have hy : Blk W3 (w2.heap.size + 1) 223 [.int .i64 b.1,.string (bs b.2)]:=by
  rw [hW3]
  have:=Blk.new (w2.alloc (.cells #[.int .i64 a.1,.string (bs a.2)] 223)) [.int .i64 b.1,.string (bs b.2)] 223
  rw [size_alM] at this
  exact this
 have HM3:=Lib.hid (HM.out.below hb3)
 have HB3:=Lib.hid (HB.out.trans (hb3.mono HM.out.size))
 obtain ⟨D,hD⟩ : ∃ D,D = w2.heap.size:=⟨_,rfl⟩
 rw [← hD] at hx hy ⊢
 rw [← hW3]
 have x0:=hx.cell (k:=0) rfl
 have x1:=hx.cell (k:=1) rfl
 have y0:=hy.cell (k:=0) rfl
 have y1:=hy.cell (k:=1) rfl
 have HX:=Lib.hid hx
 have HY:=Lib.hid hy
 clear hx hy hW3 hD hb3 HM HB
 have la : (a.2.length : Int) ≤ 1024:=by omega
 have lb : (b.2.length : Int) ≤ 1024:=by omega
 by_cases hc : 1024 < a.2.length + b.2.length
 ·have t1 : (1024 : Int) < (a.2.length : Int) + (b.2.length : Int):=by omega
  go_wp2_with fail
  go_ret
  exact ⟨.inl ⟨hc,rfl⟩,HB3.out⟩
 ·have t1 : ¬ (1024 : Int) < (a.2.length : Int) + (b.2.length : Int):=by omega
  go_wp2_with (go_at_call 293; refine (push_any (0,a.2 ++ b.2) HM3.out (by omega)).mono ?_; rintro e w4 ⟨rfl,⟨sv4,hm⟩,hB⟩; have HM4:=Lib.hid hm; have HB4:=Lib.hid (HB3.out.trans hB); clear hm hB)
  go_ret
  exact ⟨.inr ⟨hc,rfl,⟨_,HM4.out⟩⟩,HB4.out⟩
end
end Go.Proofs.YtehllcbnheicoaaGreatDoor
namespace Go.Proofs.YtehllcbnheicoaaGreatDoor
open Go.RowKit Oct
section
variable {P : Program}
theorem below_bytes (w : World) (e : TypeId) (s : ByteArray) : Below w.heap.size w (Lib.bytesWorld w e s) :=
 ⟨rfl,rfl,rfl,by rw [Lib.bytesWorld_size]; omega,fun k hk => Lib.bytesWorld_at_old w e s k hk⟩
end
end Go.Proofs.YtehllcbnheicoaaGreatDoor
namespace Go.Proofs.YtehllcbnheicoaaGreatDoor
open Go.RowKit Oct
attribute [local irreducible] wpG
theorem cut_split (c : UInt8) : ∀ s : List UInt8,(∃ a b,Lib.cut s [c] = (a,b,true) ∧ splitM c s = a :: splitM c b ∧ a.length ≤ s.length ∧ b.length ≤ s.length) ∨ (Lib.cut s [c] = (s,[],false) ∧ splitM c s = [s])
 | [] => .inr ⟨rfl,rfl⟩
 | x :: s => by
  have ih:=cut_split c s
  by_cases hx : x = c
  ·left
   subst hx
   refine ⟨[],s,?_,?_,by simp,by simp⟩
   ·have hi : Lib.index (x :: s) [x] = 0:=by unfold Lib.index; simp [List.isPrefixOf]
    unfold Lib.cut
    rw [hi]
    simp
   ·rw [splitM,if_pos rfl]
  ·have hp : [c].isPrefixOf (x :: s) = false:=by
    simp [List.isPrefixOf]
    exact fun e => hx e.symm
   have hi : Lib.index (x :: s) [c] = if Lib.index s [c] == -1 then -1 else Lib.index s [c] + 1:=by
    rw [Lib.index,hp]; rfl
   have hge:=Lib.index_ge s [c]
   rcases ih with ⟨a,b,h1,h2,h3,h4⟩ | ⟨h1,h2⟩
   ·left
    unfold Lib.cut at h1
    by_cases h0 : 0 ≤ Lib.index s [c]
    ·rw [if_pos h0] at h1
     injection h1 with e1 e2
     injection e2 with e2 _
     refine ⟨x :: a,b,?_,?_,by simp; exact h3,by simp; omega⟩
     ·have hne : (Lib.index s [c] == -1) = false:=by rw [beq_eq_false_iff_ne]; omega
      unfold Lib.cut
      rw [hi,hne]
      obtain ⟨k,hk⟩ : ∃ k : Nat,Lib.index s [c] = (k : Int):=⟨(Lib.index s [c]).toNat,by omega⟩
      rw [hk] at e1 e2 ⊢
      rw [if_pos (by show (0 : Int) ≤ (k : Int) + 1; omega)]
      simp only [Int.toNat_natCast] at e1 e2
      have hk1 : ((k : Int) + 1).toNat = k + 1:=by omega
      show ((x :: s).take ((k : Int) + 1).toNat,(x :: s).drop (((k : Int) + 1).toNat + [c].length),true) = _
      rw [hk1,← e1,← e2]
      simp [Nat.add_right_comm]
     ·rw [splitM,if_neg hx,h2]
    ·rw [if_neg h0] at h1; cases h1
   ·right
    unfold Lib.cut at h1
    by_cases h0 : 0 ≤ Lib.index s [c]
    ·rw [if_pos h0] at h1; exact absurd (congrArg (fun p => p.2.2) h1) (by simp)
    ·have he : Lib.index s [c] = -1:=by omega
     have hi' : Lib.index (x :: s) [c] = -1:=by rw [hi,he]; rfl
     refine ⟨?_,?_⟩
     ·unfold Lib.cut; rw [hi',if_neg (by decide)]
     ·rw [splitM,if_neg hx,h2]
def leftE (e : Eo) : List (List UInt8):=if e.more = true then splitM e.by_ e.rest else []
def nextE (e : Eo) : Eo:={ e with more:=(Lib.cut e.rest [e.by_]).2.2,rest:=(Lib.cut e.rest [e.by_]).2.1 }
theorem leftE_next {e : Eo} (h : e.more = true) : leftE e = (Lib.cut e.rest [e.by_]).1 :: leftE (nextE e) ∧ (Lib.cut e.rest [e.by_]).1.length ≤ e.rest.length ∧ (nextE e).rest.length ≤ e.rest.length:=by
 unfold leftE nextE
 rw [if_pos h]
 rcases cut_split e.by_ e.rest with ⟨a,b,h1,h2,h3,h4⟩ | ⟨h1,h2⟩
 ·rw [h1,h2]; simp [h3,h4]
 ·rw [h1,h2]; simp
structure GlobV (w : World) : Prop where
 tab : Lib.TabIs Tryz.prog w "internal/strconv.uint64pow10" .u64 Lib.pow10Tab
 syn : ∃ te pe,w.cell? ⟨6,0,none⟩ = some (.iface te pe)
 rng : ∃ te pe,w.cell? ⟨7,0,none⟩ = some (.iface te pe)
 mx : ∃ m,w.cell? ⟨2,0,none⟩ = some (.int .i64 m)
theorem cut_belM (l : List UInt8) (c : UInt8) {w : World} (hg : ∃ m,w.cell? ⟨2,0,none⟩ = some (.int .i64 m)) (hl : l.length ≤ 2000) : Calls Tryz.prog 298 #[.string (bs l),.string (bs [c])] w fun e w' => e = .returned (.tuple #[.string (bs (Lib.cut l [c]).1),.string (bs (Lib.cut l [c]).2.1),.bool (Lib.cut l [c]).2.2]) ∧ Below w.heap.size w w':=by
 obtain ⟨m,hm⟩:=hg
 have h:=Tryz.strings_Cut (bs l) (bs [c]) m w (by rw [bs_size]; omega) hm
 rw [show (bs l).data.toList = l by simp [bs],show (bs [c]).data.toList = [c] by simp [bs]] at h
 refine h.mono ?_
 rintro e w' ⟨rfl,n,rfl⟩
 exact ⟨rfl,Below.drewN' _ _⟩
section
variable {base : Nat} {w : World} {e : Eo}
theorem nextM_no (h : boxOk base w e) (hm : e.more = false) : Calls Tryz.prog 297 #[.pointer (some ⟨e.bm,0,none⟩),.pointer (some ⟨e.bt,0,none⟩),.pointer (some ⟨e.bc,0,none⟩)] w fun r w' => r = .returned (.tuple #[.string (bs []),.bool false]) ∧ w' = w:=by
 have c0:=h.1.cell (k:=0) rfl
 rw [hm] at c0
 clear h hm
 go_enter Tryz.func297,Tryz.ntmps297
 go_wp2
 go_ret2
 exact ⟨rfl,rfl⟩
theorem nextM_yes (h : boxOk base w e) (hm : e.more = true) (hl : e.rest.length ≤ 1024) (hg : ∃ m,w.cell? ⟨2,0,none⟩ = some (.int .i64 m)) :
  Calls Tryz.prog 297 #[.pointer (some ⟨e.bm,0,none⟩),.pointer (some ⟨e.bt,0,none⟩),.pointer (some ⟨e.bc,0,none⟩)] w fun r w' => r = .returned (.tuple #[.string (bs (Lib.cut e.rest [e.by_]).1),.bool true]) ∧ boxOk base w' (nextE e) ∧ Chg (fun k => k = e.bm ∨ k = e.bt) w w':=by
 obtain ⟨h1,h2,h3,h4⟩:=h
 have c0:=h1.cell (k:=0) rfl
 rw [hm] at c0
 have c1:=h2.cell (k:=0) rfl
 have c2:=h3.cell (k:=0) rfl
 have l2:=h3.lt
 have HC:=Lib.hid (fun w' (hB : Below w.heap.size w w') => cut_belM e.rest e.by_ (w:=w') (by obtain ⟨m,hm⟩:=hg; exact ⟨m,Below.keeps hB hm⟩) (by omega))
 have H1:=Lib.hid h1
 have H2:=Lib.hid h2
 have H3:=Lib.hid h3
 have H4:=Lib.hid h4
 clear h1 h2 h3 h4 hm hg
 go_enter Tryz.func297,Tryz.ntmps297
 obtain ⟨A,hA⟩ : ∃ A,A = (Lib.cut e.rest [e.by_]).1:=⟨_,rfl⟩
 obtain ⟨B,hB0⟩ : ∃ B,B = (Lib.cut e.rest [e.by_]).2.1:=⟨_,rfl⟩
 obtain ⟨C,hC0⟩ : ∃ C,C = (Lib.cut e.rest [e.by_]).2.2:=⟨_,rfl⟩
 rw [← hA,← hB0,← hC0] at HC
 have HE:=Lib.hid (show nextE e = { e with more:=C,rest:=B } by rw [hB0,hC0]; rfl)
 have HA:=Lib.hid hA
 clear hA hB0 hC0
 have nb : ¬ e.bm = e.bt:=H4.out.2.2.2.1
 have nb' : ¬ e.bt = e.bm:=fun h => nb h.symm
 have hcv : (convert 149 9 (.slice (some ⟨w.heap.size,0,none⟩) 1 1)).run Tryz.prog (w.alloc (.cells #[.int .u8 (e.by_.toNat : Int)] 5)) = .ok (.string (bs [e.by_])) (w.alloc (.cells #[.int .u8 (e.by_.toNat : Int)] 5)) :=
  conv_own _ _ 5 Tryz.underlying149 Tryz.underlying5 Tryz.underlying9 _ w.heap.size _ 1 [e.by_] ⟨rfl,.inr ⟨w.heap.size,1,#[.int .u8 (e.by_.toNat : Int)],rfl,Nat.le_refl _,World.alloc_heap_new w _,Nat.le_refl _,by decide,rfl,rfl⟩⟩
 go_wp2_with (go_at_call 298; refine (HC.out _ (b_alloc _ _)).mono ?_; rintro r w2 ⟨rfl,hB⟩; have hB2:=bt (b_alloc w (.cells #[.int .u8 (e.by_.toNat : Int)] 5)) hB; have q0:=(H1.out.below hB2).cell (k:=0) rfl; have q1:=(H2.out.below hB2).cell (k:=0) rfl; have f0:=(H1.out.below hB2).free (k:=0) (by simp); have f1:=(H2.out.below hB2).free (k:=0) (by simp); have HB2:=Lib.hid hB2; clear hB hB2)
 go_ret2
 obtain ⟨b1,b2,b3,n1,n2,n3⟩:=H4.out
 refine ⟨by rw [← HA.out]; rfl,?_,?_⟩
 ·rw [HE.out]
  have g1:=H1.out.below HB2.out
  have g2:=H2.out.below HB2.out
  have g3:=H3.out.below HB2.out
  have x1 : Chg (fun k => k = e.bt) w2 (w2.setCell ⟨e.bt,0,none⟩ (.string (bs B))):=Chg.setCell _ _ _ rfl
  have x2 : Chg (fun k => k = e.bm) (w2.setCell ⟨e.bt,0,none⟩ (.string (bs B))) ((w2.setCell ⟨e.bt,0,none⟩ (.string (bs B))).setCell ⟨e.bm,0,none⟩ (.bool C)):=Chg.setCell _ _ _ rfl
  exact ⟨(g1.chg x1 n1).set 0 (.bool C),(g2.set 0 (.string (bs B))).chg x2 (fun h => n1 h.symm),(g3.chg x1 (fun h => n3 h.symm)).chg x2 (fun h => n2 h.symm),b1,b2,b3,n1,n2,n3⟩
 ·exact ((Chg.of_below HB2.out).trans (Chg.setCell w2 ⟨e.bt,0,none⟩ _ (.inr rfl))).trans (Chg.setCell _ ⟨e.bm,0,none⟩ _ (.inl rfl))
theorem pieces_any (s : List UInt8) (c : UInt8) (w : World) (pc : Nat) (hb : base ≤ w.heap.size) :
  Calls Tryz.prog 296 #[.string (bs s),.int .u8 (c.toNat : Int)] w fun r w' => r = .returned (eoF ⟨pc,w.heap.size + 2,w.heap.size,w.heap.size + 1,!s.isEmpty,s,c⟩) ∧ boxOk base w' ⟨pc,w.heap.size + 2,w.heap.size,w.heap.size + 1,!s.isEmpty,s,c⟩ ∧ Below w.heap.size w w':=by
 obtain ⟨W3,hW3⟩ : ∃ W3,W3 = ((w.alloc (.cells #[.string (bs s)] 9)).alloc (.cells #[.int .u8 (c.toNat : Int)] 5)).alloc (.cells #[.bool (!s.isEmpty)] 4):=⟨_,rfl⟩
 have hsm : ∀ (fn : Fn) (first cap : Array Value) (w : World),(Instr.makeFunc fn first cap).run Tryz.prog w = .ok (.func fn first cap) w:=fun _ _ _ _ => rfl
 have h1 : Blk W3 w.heap.size 9 [.string (bs s)]:=by rw [hW3]; exact ((Blk.new w _ _).below (b_alloc _ _)).below (b_alloc _ _)
 have h2 : Blk W3 (w.heap.size + 1) 5 [.int .u8 (c.toNat : Int)]:=by
  rw [hW3]
  have:=Blk.new (w.alloc (.cells #[.string (bs s)] 9)) [.int .u8 (c.toNat : Int)] 5
  rw [show (w.alloc (.cells #[.string (bs s)] 9)).heap.size = w.heap.size + 1 from Array.size_push ..] at this
  exact this.below (b_alloc _ _)
 have h3 : Blk W3 (w.heap.size + 2) 4 [.bool (!s.isEmpty)]:=by
  rw [hW3]
  have:=Blk.new ((w.alloc (.cells #[.string (bs s)] 9)).alloc (.cells #[.int .u8 (c.toNat : Int)] 5)) [.bool (!s.isEmpty)] 4
  rw [show ((w.alloc (.cells #[.string (bs s)] 9)).alloc (.cells #[.int .u8 (c.toNat : Int)] 5)).heap.size = w.heap.size + 2 from by rw [show ((w.alloc (.cells #[.string (bs s)] 9)).alloc (.cells #[.int .u8 (c.toNat : Int)] 5)).heap.size = (w.alloc (.cells #[.string (bs s)] 9)).heap.size + 1 from Array.size_push ..,show (w.alloc (.cells #[.string (bs s)] 9)).heap.size = w.heap.size + 1 from Array.size_push ..]] at this
  exact this
 have hb3 : Below w.heap.size w W3:=by rw [hW3]; exact bt (b_alloc _ _) (bt (b_alloc _ _) (b_alloc _ _))
 have HK:=Lib.hid (show boxOk base W3 ⟨pc,w.heap.size + 2,w.heap.size,w.heap.size + 1,!s.isEmpty,s,c⟩ ∧ Below w.heap.size w W3 from ⟨⟨h3,h1,h2,by show base ≤ w.heap.size + 2; omega,hb,by show base ≤ w.heap.size + 1; omega,by show w.heap.size + 2 ≠ w.heap.size; omega,by show w.heap.size + 2 ≠ w.heap.size + 1; omega,by show w.heap.size ≠ w.heap.size + 1; omega⟩,hb3⟩)
 clear h1 h2 h3 hb3
 go_enter Tryz.func296,Tryz.ntmps296
 go_upto_region 2 with fail
 rw [← hW3]
 clear hW3
 go_wp2_with fail
 go_ret
 exact ⟨rfl,HK.out⟩
end
end Go.Proofs.YtehllcbnheicoaaGreatDoor
