/- Lemmas for FoldTells, part 12: walks of the functions that it reaches, and the plain laws behind them. -/
import Derived.Test.YtehllcbnheicoaaGreatDoorFoldTellsK7
import Derived.Test.YtehllcbnheicoaaGreatDoorFoldTellsK11
set_option linter.unusedSimpArgs false
set_option linter.unusedVariables false
set_option maxRecDepth 100000
set_option maxHeartbeats 16000000
namespace Go.Proofs.YtehllcbnheicoaaGreatDoor
open Go.RowKit Oct
attribute [local irreducible] wpG
structure InvV (n : Nat) (s : Vs) : Prop where
 bl : s.blocks.length ≤ 8
 kl : s.kinds.length ≤ 16
 bs : ∀ b ∈ s.blocks,b.at_ < s.ends.length ∧ b.opn.length ≤ 16
 el : s.ends.length ≤ 256
 sl : s.seen.length ≤ n
 dl : s.deep ≤ 16
theorem thereV_blocks {nt inp : Nat} {role : UInt8} {bl : List Vb} {x : VI} (h : thereV nt inp role bl x = 0) : (x.1 = 20 ∨ x.1 = 21 → bl ≠ []) ∧ (x.1 = 19 ∨ x.1 = 22 → bl.length < 8):=by
 unfold thereV at h
 split at h
 ·cases h
 split at h
 ·cases h
 split at h
 ·cases h
 rename_i h20
 split at h
 ·cases h
 rename_i h21
 split at h
 ·cases h
 rename_i h8
 refine ⟨?_,fun e => ?_⟩
 ·rintro (e | e) hb
  ·exact h20 ⟨e,by rw [hb]; rfl⟩
  ·exact h21 ⟨e,hb⟩
 ·rcases Nat.lt_or_ge bl.length 8 with h1 | h1
  ·exact h1
  ·exact absurd ⟨e,h1⟩ h8
theorem valuesV_len {k : List UInt8} {x : VI} (hk : k.length ≤ 16) : (valuesV k x).2.length ≤ 16 ∧ ((valuesV k x).1 = 0 → x.1 = 22 → (valuesV k x).2.length < 16):=by
 unfold valuesV
 split
 ·exact ⟨hk,fun h => by cases h⟩
 split
 ·exact ⟨hk,fun h => by cases h⟩
 split
 ·exact ⟨hk,fun h => by cases h⟩
 rename_i h
 obtain ⟨r,hr⟩ : ∃ r,r = k.take (k.length - (effV x).1.length) ++ givesV (k.drop (k.length - (effV x).1.length)) (effV x).2:=⟨_,rfl⟩
 rw [← hr] at h ⊢
 refine ⟨?_,fun _ e => ?_⟩
 ·show r.length ≤ 16
  omega
 ·show r.length < 16
  have hc : ¬ 16 ≤ r.length:=fun h' => h (.inl ⟨e,h'⟩)
  omega
theorem InvV.one {nt inp : Nat} {role : UInt8} {i n : Nat} {x : VI} {s : Vs} (h : InvV n s) (hi : i < s.ends.length) (h0 : (oneV nt inp role i x s).1 = 0) : InvV (n + 1) (oneV nt inp role i x s).2 ∧ (oneV nt inp role i x s).2.ends.length = s.ends.length:=by
 have ht:=oneV_there h0
 obtain ⟨h2,h3⟩:=thereV_blocks ht
 unfold oneV at h0 ⊢
 rw [if_neg (by rw [ht]; simp)] at h0 ⊢
 split at h0
 ·rename_i hv
  exact absurd h0 hv
 rename_i hv
 rw [if_neg hv]
 have hv0 : (valuesV s.kinds x).1 = 0:=by simpa using hv
 obtain ⟨hvl,hv22⟩:=valuesV_len (x:=x) h.kl
 have hv22:=hv22 hv0
 clear h0 hv hv0
 obtain ⟨k',hk'⟩ : ∃ k',k' = (valuesV s.kinds x).2:=⟨_,rfl⟩
 simp only [← hk']
 rw [← hk'] at hvl hv22
 have hsl : (s.seen ++ [s.kinds]).length ≤ n + 1:=by have:=h.sl; simp; omega
 have hd:=h.dl
 have hlast : ∀ b,s.blocks.getLast? = some b → b ∈ s.blocks:=fun b hb => List.mem_of_getLast? hb
 unfold turnsV
 split
 ·rename_i e
  refine ⟨⟨by have:=h3 (.inl e); simp; omega,hvl,fun b hb => ?_,h.el,hsl,by show max s.deep k'.length ≤ 16; omega⟩,rfl⟩
  rcases List.mem_append.1 hb with hb | hb
  ·exact h.bs b hb
  ·rw [List.mem_singleton] at hb; subst hb; exact ⟨hi,hvl⟩
 ·split
  ·rename_i e
   have h16:=hv22 e
   refine ⟨⟨by have:=h3 (.inr e); simp; omega,by show (k' ++ [84]).length ≤ 16; simp; omega,fun b hb => ?_,h.el,hsl,by show max s.deep (k' ++ [84]).length ≤ 16; simp; omega⟩,rfl⟩
   rcases List.mem_append.1 hb with hb | hb
   ·exact h.bs b hb
   ·rw [List.mem_singleton] at hb; subst hb; exact ⟨hi,hvl⟩
  ·split
   ·cases hb : s.blocks.getLast? with
    | none => exact ⟨⟨h.bl,hvl,h.bs,h.el,hsl,by show max s.deep k'.length ≤ 16; omega⟩,rfl⟩
    | some b =>
     have hbm:=h.bs b (hlast b hb)
     refine ⟨⟨?_,hbm.2,fun b' hb' => ?_,by show (s.ends.set _ _).length ≤ 256; rw [List.length_set]; exact h.el,hsl,by show max s.deep b.opn.length ≤ 16; have:=hbm.2; omega⟩,by show (s.ends.set _ _).length = _; rw [List.length_set]⟩
     ·show (s.blocks.dropLast ++ [_]).length ≤ 8
      have:=h.bl
      have hne : s.blocks ≠ []:=by rintro e; rw [e] at hb; cases hb
      have : 0 < s.blocks.length:=List.length_pos_iff.2 hne
      simp; omega
     ·show b'.at_ < (s.ends.set _ _).length ∧ _
      rw [List.length_set]
      rcases List.mem_append.1 hb' with h' | h'
      ·exact h.bs b' ((List.dropLast_subset _ h'))
      ·rw [List.mem_singleton] at h'; subst h'; exact ⟨hi,hbm.2⟩
   ·split
    ·cases hb : s.blocks.getLast? with
     | none => exact ⟨⟨h.bl,hvl,h.bs,h.el,hsl,by show max s.deep k'.length ≤ 16; omega⟩,rfl⟩
     | some b =>
      simp only
      split
      ·refine ⟨⟨by show s.blocks.dropLast.length ≤ 8; have:=h.bl; rw [List.length_dropLast]; omega,hvl,fun b' hb' => ?_,by show (s.ends.set _ _).length ≤ 256; rw [List.length_set]; exact h.el,hsl,by show max s.deep k'.length ≤ 16; omega⟩,by show (s.ends.set _ _).length = _; rw [List.length_set]⟩
       show b'.at_ < (s.ends.set _ _).length ∧ _
       rw [List.length_set]
       exact h.bs b' ((List.dropLast_subset _ hb'))
      ·exact ⟨⟨h.bl,hvl,h.bs,h.el,hsl,by show max s.deep k'.length ≤ 16; omega⟩,rfl⟩
    ·exact ⟨⟨h.bl,hvl,h.bs,h.el,hsl,by show max s.deep k'.length ≤ 16; omega⟩,rfl⟩
theorem valuesV_bad {k : List UInt8} {x : VI} (h : (valuesV k x).1 ≠ 0) : (valuesV k x).2 = k:=by
 unfold valuesV at h ⊢
 split
 ·rfl
 split
 ·rfl
 split
 ·rfl
 rename_i h1 h2 h3
 rw [if_neg h1,if_neg h2,if_neg h3] at h
 exact absurd rfl h
theorem turnsV_deep (i : Nat) (x : VI) (s : Vs) : (turnsV i x s).2.deep = s.deep:=by
 unfold turnsV
 split
 ·rfl
 split
 ·rfl
 split
 ·cases s.blocks.getLast? <;> rfl
 split
 ·cases s.blocks.getLast? with
  | none => rfl
  | some b => simp only; split <;> rfl
 ·rfl
theorem turnsV_kinds {i : Nat} {x : VI} {s : Vs} (hb : ∀ b ∈ s.blocks,b.opn.length ≤ 16) (hk : s.kinds.length ≤ 16) : (turnsV i x s).2.kinds.length ≤ 17:=by
 unfold turnsV
 split
 ·exact Nat.le_succ_of_le hk
 split
 ·show (s.kinds ++ [84]).length ≤ 17
  simp; omega
 split
 ·cases h : s.blocks.getLast? with
  | none => exact Nat.le_succ_of_le hk
  | some b => exact Nat.le_succ_of_le (hb b (List.mem_of_getLast? h))
 split
 ·cases h : s.blocks.getLast? with
  | none => exact Nat.le_succ_of_le hk
  | some b => simp only; split <;> exact Nat.le_succ_of_le hk
 ·exact Nat.le_succ_of_le hk
section
variable {w : World} {base G : Nat} {cv bv sv ev : Value} {inp : Nat} {role : UInt8} {s : Vs} {nt ct n : Nat} {at_ : Option Addr}
theorem one_any (h : VG w base G (.slice at_ nt ct) cv inp role s bv sv ev) (hE : EffM w) (hg : 1 < base) (p a : UInt8) (i : Nat) (hp : p.toNat < 24) (hI : InvV n s) (hn : n ≤ 1000) (hnt : nt ≤ 1000) (hinp : inp ≤ 1000) (hi : i ≤ 1000) :
  Calls Tryz.prog 146 #[.pointer (some ⟨G,0,none⟩),.int .i64 (i : Int),.agg #[.int .u8 (p.toNat : Int),.int .u8 (a.toNat : Int)]] w fun e w' => e = .returned (.int .i64 (((oneV nt inp role i (p,a) s).1 : Nat) : Int)) ∧ (∃ bv' sv',VG w' base G (.slice at_ nt ct) cv inp role (oneV nt inp role i (p,a) s).2 bv' sv' ev) ∧ Below base w w':=by
 have HH:=Lib.hid h
 have hgw : G < w.heap.size:=h.blk.lt
 have hbw : base ≤ w.heap.size:=Nat.le_trans h.gb (Nat.le_of_lt hgw)
 obtain ⟨W1,hW1⟩ : ∃ W1,W1 = w.alloc (.cells #[.int .u8 (p.toNat : Int),.int .u8 (a.toNat : Int)] 97):=⟨_,rfl⟩
 have hb1 : Below w.heap.size w W1:=by rw [hW1]; exact b_alloc _ _
 have hx : Blk W1 w.heap.size 97 [.int .u8 (p.toNat : Int),.int .u8 (a.toNat : Int)]:=by rw [hW1]; exact Blk.new w _ _
 have h1:=h.below hb1
 have h1d:=h1.below (b_drew W1)
 obtain ⟨_,⟨a3,cs,rfl⟩,_⟩:=h.slices
 have x0:=hx.cell (k:=0) rfl
 have x1:=hx.cell (k:=1) rfl
 have c6:=h1.cell (k:=6) rfl
 have c4:=h1.cell (k:=4) rfl
 have hG1 : G < W1.heap.size:=h1.blk.lt
 have hwl : w.heap.size < W1.heap.size:=lt_of_cell x0
 have hgb : base ≤ W1.drew.heap.size:=Nat.le_trans h1d.gb (Nat.le_of_lt h1d.blk.lt)
 have hby : (s.seen.length + 1) * 16 ≤ 140737488355328:=by have:=hI.sl; omega
 have hod:=h1d.os
 have H1D:=Lib.hid h1d
 have HB1:=Lib.hid hb1
 have HBW:=Lib.hid hbw
 have HE:=Lib.hid hE
 have HI:=Lib.hid hI
 have HW1:=Lib.hid hW1
 have hws : w.heap.size < W1.drew.heap.size:=hwl
 clear h h1 h1d hx hb1 hE hI
 go_enter Tryz.func146,Tryz.ntmps146
 go_upto_region 1 with fail
 rw [← hW1]
 clear hW1
 go_cut [] (fun wx => ∃ sv',Hid (VG wx base G (.slice at_ nt ct) cv inp role { s with seen:=s.seen ++ [s.kinds] } bv sv' ev) ∧ Hid (Below base w wx) ∧ wx.cell? ⟨w.heap.size,0,none⟩ = some (.int .u8 (p.toNat : Int)) ∧ wx.cell? ⟨w.heap.size,1,none⟩ = some (.int .u8 (a.toNat : Int)))
 case first =>
  go_region_law (refine recS.step_append1V W1.drew s.kinds rfl _ _ 22 rfl Tryz.underlying22 base (.slice a3 s.seen.length cs) s.seen rfl hod _ rfl _ rfl _ rfl hby hgb ?_; intro g gc w3 hown3 hc3 hg3; have hn3:=H1D.out.newS (sv':=.slice (some ⟨g,0,none⟩) (s.seen.length + 1) gc) hc3 (fun k hk => by cases hk; exact hg3) hown3; have hb3 : Blk w3 G 215 _:=H1D.out.blk.chg hc3 (fun e => (H1D.out.a2 G e).1 rfl); have f6:=hb3.free (k:=6) (by simp); have c6':=hb3.cell (k:=6) rfl; have HN:=Lib.hid hn3; have HC3:=Lib.hid hc3; clear hn3 hb3 hown3 hc3 hg3)
  all_goals
   go_wp2_with fail
   go_meet
   case rel =>
    have hnb : ¬ ((Value.slice a3 s.seen.length cs).ownBlock = some w.heap.size):=fun e => by
     have:=(HH.out.os.ltV _ e).2
     omega
    have hbl:=HC3.out
    have hbk : ∀ k v,W1.cell? ⟨w.heap.size,k,none⟩ = some v → (w3.setCell ⟨G,6,none⟩ (.slice (some ⟨g,0,none⟩) (s.seen.length + 1) gc)).cell? ⟨w.heap.size,k,none⟩ = some v:=fun k v hv =>
     Chg.cell (X:=fun k => k = G) (Chg.setCell _ _ _ rfl) (Chg.cell hbl ((World.cell?_of_block (by rfl)).trans hv) hnb) (fun e => by have : w.heap.size = G:=e; omega)
    exact ⟨_,HN.out.1,((bt HB1.out (b_drew W1)).mono HBW.out).trans HN.out.2,hbk 0 _ x0,hbk 1 _ x1⟩
 case rest =>
  obtain ⟨sv',HG,HBA,y0,y1⟩:=hcut
  have hbl8:=HI.out.bl
  obtain ⟨q,hq⟩ : ∃ q,q = thereV nt inp role s.blocks (p,a):=⟨_,rfl⟩
  have HTH:=Lib.hid (there_any HG.out p a (by show s.blocks.length ≤ 1000; omega) hnt hinp)
  go_wp2_with fail
  refine HTH.out.mono ?_
  rintro e w2 ⟨rfl,hB2⟩
  rw [show thereV nt inp role ({ s with seen:=s.seen ++ [s.kinds] } : Vs).blocks (p,a) = q from hq.symm]
  have z0:=Below.keeps hB2 y0
  have z1:=Below.keeps hB2 y1
  have H2:=Lib.hid (HG.out.below hB2)
  have hbs2 : base ≤ wc.heap.size:=Nat.le_trans HBW.out HBA.out.size
  have HB2:=Lib.hid (HBA.out.trans (hB2.mono hbs2))
  have HQ:=Lib.hid hq
  clear hB2 hbs2 y0 y1 hq HTH hbl8
  by_cases hq0 : q = 0
  ·have q1 : ((q : Int) != 0) = false:=by rw [hq0]; rfl
   have HT0:=Lib.hid (show thereV nt inp role s.blocks (p,a) = 0 by rw [← HQ.out,hq0])
   clear hq0
   obtain ⟨x,hx⟩ : ∃ x,x = valuesV s.kinds (p,a):=⟨_,rfl⟩
   have HVV:=Lib.hid (values_any H2.out (HE.out.below HB2.out hg) hg p a hp (by show s.kinds.length ≤ 1000; have:=HI.out.kl; omega))
   go_wp2_with fail
   refine HVV.out.mono ?_
   rintro e w3 ⟨rfl,hv3,hC3⟩
   rw [show valuesV ({ s with seen:=s.seen ++ [s.kinds] } : Vs).kinds (p,a) = x from hx.symm] at hv3 ⊢
   have hGn : ∀ k,¬ ((⟨w.heap.size,k,none⟩ : Addr).block = G):=fun k e => by have : w.heap.size = G:=e; omega
   have u0:=hC3.cell z0 (hGn 0)
   have u1:=hC3.cell z1 (hGn 1)
   have H3:=Lib.hid hv3
   have HB3:=Lib.hid (HB2.out.trans (hC3.below (fun k hk => by rw [hk]; exact HH.out.gb) (Nat.le_trans HBW.out HB2.out.size)))
   have HX:=Lib.hid hx
   clear hv3 hC3 hx z0 z1 hGn
   by_cases hx0 : x.1 = 0
   ·have q2 : ((x.1 : Int) != 0) = false:=by rw [hx0]; rfl
    have HV0:=Lib.hid (show (valuesV s.kinds (p,a)).1 = 0 by rw [← HX.out,hx0])
    have HTB:=Lib.hid (thereV_blocks HT0.out)
    have hxl:=(valuesV_len (x:=(p,a)) HI.out.kl).1
    rw [← HX.out] at hxl
    obtain ⟨r,hr⟩ : ∃ r,r = turnsV i (p,a) { s with seen:=s.seen ++ [s.kinds],kinds:=x.2 }:=⟨_,rfl⟩
    have HTU:=Lib.hid (turns_any H3.out p a i (by show s.blocks.length ≤ 1000; have:=HI.out.bl; omega) (by show x.2.length ≤ 1000; omega) HTB.out.1 (fun b hb => (HI.out.bs b hb).1) (by show s.ends.length ≤ 1000; have:=HI.out.el; omega) hi)
    have HON:=Lib.hid (show oneV nt inp role i (p,a) s = (r.1,{ r.2 with deep:=max s.deep r.2.kinds.length }) by
     unfold oneV
     rw [HT0.out,HV0.out,← HX.out,← hr]
     rfl)
    have HRD:=Lib.hid (show r.2.deep = s.deep by rw [hr,turnsV_deep])
    have hkr : r.2.kinds.length ≤ 17:=by rw [hr]; exact turnsV_kinds (fun b hb => (HI.out.bs b hb).2) hxl
    go_wp2_with fail
    refine HTU.out.mono ?_
    rintro e w4 ⟨rfl,⟨bv',hv4⟩,hB4⟩
    rw [← hr] at hv4 ⊢
    have c8:=hv4.cell (k:=8) rfl
    have c4:=hv4.cell (k:=4) rfl
    have H4:=Lib.hid hv4
    have HB4:=Lib.hid (HB3.out.trans hB4)
    have d1 : (s.deep : Int) ≤ 16:=by have:=HI.out.dl; omega
    have d2 : (r.2.kinds.length : Int) ≤ 17:=by omega
    rw [HRD.out] at c8
    clear hv4 hB4 hr u0 u1 hx0 hxl hkr
    go_upto_region 9 with fail
    refine region_tail 13 [(4,.exact _ (.int .i64 (s.deep : Int))),(8,.exact _ (.string (bs r.2.kinds)))] (by kernel_rfl) (by kernel_rfl) ?_
    simp only [List.take_succ_cons,List.take_zero,List.drop_succ_cons,List.drop_zero]
    (repeat (first | (refine wpG_skip (by kernel_rfl) (fun K hK => ?_); go_big_quiet_skip; refine wpQuiet_nil (hK _ ?_); clear hK K) | (refine wpG_quiet (by rfl) (by rfl) (fun K hK => ?_); go_big_quiet_want; go_big_quiet_op; go_big_quiet_on; refine wpQuiet_nil (hK _ ?_); clear hK K) | (refine wpG_nilOk rfl rfl rfl (by kernel_rfl) (fun K hK => ?_); go_simp; refine hK _ ?_; clear hK K)))
    repeat (refine wpG_exact rfl (by kernel_rfl) (fun w' G hB hS hG => ?_) (fun K hK => ?_); (have v0:=Below.keeps hB c8; have v1:=Below.keeps hB c4; go_simp; exact hG _ (Bel.refl _)); go_simp; refine hK _ ?_; clear hK K; (repeat (first | (refine wpG_skip (by kernel_rfl) (fun K hK => ?_); go_big_quiet_skip; refine wpQuiet_nil (hK _ ?_); clear hK K) | (refine wpG_quiet (by rfl) (by rfl) (fun K hK => ?_); go_big_quiet_want; go_big_quiet_op; go_big_quiet_on; refine wpQuiet_nil (hK _ ?_); clear hK K) | (refine wpG_nilOk rfl rfl rfl (by kernel_rfl) (fun K hK => ?_); go_simp; refine hK _ ?_; clear hK K))))
    refine wpG_nilV3 ?_
    intro w5 hB5 hA5
    have h5:=H4.out.below hB5
    have f8:=h5.free (k:=8) (by decide)
    have c8':=h5.cell (k:=8) rfl
    have hd5:=h5.deep (max s.deep r.2.kinds.length)
    have HD5:=Lib.hid hd5
    have HB5:=Lib.hid (HB4.out.trans (hB5.mono (Nat.le_trans HBW.out HB4.out.size)))
    clear h5 hd5 hB5 hA5 c8 c4
    rw [show (max (s.deep : Int) (r.2.kinds.length : Int)) = ((max s.deep r.2.kinds.length : Nat) : Int) by omega]
    go_wp2
    go_ret
    exact ⟨by rw [HON.out]; rfl,⟨_,_,by rw [HON.out]; exact HD5.out.1⟩,HB5.out.trans HD5.out.2⟩
   ·have q2 : ((x.1 : Int) != 0) = true:=by rw [bne_iff_ne]; omega
    have hxk : x.2 = s.kinds:=by rw [HX.out]; exact valuesV_bad (by rw [← HX.out]; exact hx0)
    have HON:=Lib.hid (show oneV nt inp role i (p,a) s = (x.1,{ s with seen:=s.seen ++ [s.kinds] }) by unfold oneV; rw [HT0.out,← HX.out,if_neg (by simp),if_pos hx0])
    rw [hxk] at H3
    clear hx0 hxk
    go_wp2_with fail
    go_ret
    exact ⟨by rw [HON.out]; rfl,⟨_,_,by rw [HON.out]; exact H3.out⟩,HB3.out⟩
  ·have q1 : ((q : Int) != 0) = true:=by rw [bne_iff_ne]; omega
   have HON:=Lib.hid (show oneV nt inp role i (p,a) s = (q,{ s with seen:=s.seen ++ [s.kinds] }) by unfold oneV; rw [← HQ.out,if_pos hq0])
   clear hq0
   go_wp2_with fail
   go_ret
   exact ⟨by rw [HON.out]; rfl,⟨_,_,by rw [HON.out]; exact H2.out⟩,HB2.out⟩
theorem over_any {tv : Value} (h : VG w base G tv cv inp role s bv sv ev) (hl : s.blocks.length ≤ 1000) (hk : s.kinds.length ≤ 1000) :
  Calls Tryz.prog 147 #[.pointer (some ⟨G,0,none⟩)] w fun e w' => e = .returned (.int .i64 ((overV role s : Nat) : Int)) ∧ w' = w:=by
 have HL:=Lib.hid (slen_any h)
 have c3:=h.cell (k:=3) rfl
 have c4:=h.cell (k:=4) rfl
 have l1 : (s.blocks.length : Int) ≤ 1000:=by omega
 have l2 : (s.kinds.length : Int) ≤ 1000:=by omega
 clear h
 by_cases hr : role = 1
 ·have r1 : ((role.toNat : Int) == 1) = true:=by rw [hr]; rfl
  by_cases hb : 0 < s.blocks.length
  ·have b1 : (0 : Int) < (s.blocks.length : Int):=by omega
   have HO:=Lib.hid (show overV role s = 132 by unfold overV; rw [if_pos hb])
   clear hb hr
   go_enter Tryz.func147,Tryz.ntmps147
   go_wp2_with fail
   refine HL.out.mono ?_
   rintro e w1 ⟨rfl,rfl⟩
   go_wp2_with fail
   go_ret
   exact ⟨by rw [HO.out]; rfl,rfl⟩
  ·have b1 : ¬ (0 : Int) < (s.blocks.length : Int):=by omega
   by_cases hk0 : s.kinds.length = 0
   ·have k1 : ((s.kinds.length : Int) != 0) = false:=by rw [hk0]; rfl
    have hke : s.kinds = []:=List.eq_nil_of_length_eq_zero hk0
    have k2 : (s.kinds == []) = true:=by rw [hke]; rfl
    have HO:=Lib.hid (show overV role s = 0 by unfold overV wantV; rw [if_neg hb,if_pos hr,hke]; simp)
    clear hb hr hk0 hke
    go_enter Tryz.func147,Tryz.ntmps147
    go_wp2_with fail
    refine HL.out.mono ?_
    rintro e w1 ⟨rfl,rfl⟩
    go_wp2_with fail
    go_ret
    exact ⟨by rw [HO.out]; rfl,rfl⟩
   ·have k1 : ((s.kinds.length : Int) != 0) = true:=by rw [bne_iff_ne]; omega
    have HO:=Lib.hid (show overV role s = 130 by unfold overV wantV; rw [if_neg hb,if_pos hr,if_pos (by simpa using hk0)])
    clear hb hr hk0
    go_enter Tryz.func147,Tryz.ntmps147
    go_wp2_with fail
    refine HL.out.mono ?_
    rintro e w1 ⟨rfl,rfl⟩
    go_wp2_with fail
    go_ret
    exact ⟨by rw [HO.out]; rfl,rfl⟩
 ·have r1 : ((role.toNat : Int) == 1) = false:=u8_ne (k:=1) (by decide) hr
  by_cases hb : 0 < s.blocks.length
  ·have b1 : (0 : Int) < (s.blocks.length : Int):=by omega
   have HO:=Lib.hid (show overV role s = 132 by unfold overV; rw [if_pos hb])
   clear hb hr
   go_enter Tryz.func147,Tryz.ntmps147
   go_wp2_with fail
   refine HL.out.mono ?_
   rintro e w1 ⟨rfl,rfl⟩
   go_wp2_with fail
   go_ret
   exact ⟨by rw [HO.out]; rfl,rfl⟩
  ·have b1 : ¬ (0 : Int) < (s.blocks.length : Int):=by omega
   by_cases hk0 : s.kinds.length = 1
   ·have k1 : ((s.kinds.length : Int) != 1) = false:=by rw [hk0]; rfl
    by_cases hke : s.kinds = [84]
    ·have k2 : (s.kinds == [84]) = true:=by rw [hke]; rfl
     have HO:=Lib.hid (show overV role s = 0 by unfold overV wantV; rw [if_neg hb,if_neg hr,hke]; simp)
     clear hb hr hk0 hke
     go_enter Tryz.func147,Tryz.ntmps147
     go_wp2_with fail
     refine HL.out.mono ?_
     rintro e w1 ⟨rfl,rfl⟩
     go_wp2_with fail
     go_ret
     exact ⟨by rw [HO.out]; rfl,rfl⟩
    ·have k2 : (s.kinds == [84]) = false:=by simpa using hke
     have HO:=Lib.hid (show overV role s = 131 by unfold overV wantV; rw [if_neg hb,if_neg hr,if_neg (by rw [hk0]; simp),if_pos hke])
     clear hb hr hk0 hke
     go_enter Tryz.func147,Tryz.ntmps147
     go_wp2_with fail
     refine HL.out.mono ?_
     rintro e w1 ⟨rfl,rfl⟩
     go_wp2_with fail
     go_ret
     exact ⟨by rw [HO.out]; rfl,rfl⟩
   ·have k1 : ((s.kinds.length : Int) != 1) = true:=by rw [bne_iff_ne]; omega
    have HO:=Lib.hid (show overV role s = 130 by unfold overV wantV; rw [if_neg hb,if_neg hr,if_pos (by simpa using hk0)])
    clear hb hr hk0
    go_enter Tryz.func147,Tryz.ntmps147
    go_wp2_with fail
    refine HL.out.mono ?_
    rintro e w1 ⟨rfl,rfl⟩
    go_wp2_with fail
    go_ret
    exact ⟨by rw [HO.out]; rfl,rfl⟩
end
end Go.Proofs.YtehllcbnheicoaaGreatDoor
namespace Go.Proofs.YtehllcbnheicoaaGreatDoor
open Go.RowKit Oct
attribute [local irreducible] wpG
theorem chas_any (p : UInt8) (w : World) : Calls Tryz.prog 193 #[.int .u8 (p.toNat : Int)] w fun e w' => e = .returned (.bool (hasArg p)) ∧ w' = w:=by
 by_cases h1 : p = 1
 ·subst h1
  rw [show (((1 : UInt8).toNat : Nat) : Int) = 1 from rfl]
  go_enter Tryz.func193,Tryz.ntmps193
  go_wp2
  go_ret
  exact ⟨rfl,rfl⟩
 by_cases h2 : p = 2
 ·subst h2
  rw [show (((2 : UInt8).toNat : Nat) : Int) = 2 from rfl]
  go_enter Tryz.func193,Tryz.ntmps193
  go_wp2
  go_ret
  exact ⟨rfl,rfl⟩
 by_cases h3 : p = 3
 ·subst h3
  rw [show (((3 : UInt8).toNat : Nat) : Int) = 3 from rfl]
  go_enter Tryz.func193,Tryz.ntmps193
  go_wp2
  go_ret
  exact ⟨rfl,rfl⟩
 by_cases h17 : p = 17
 ·subst h17
  rw [show (((17 : UInt8).toNat : Nat) : Int) = 17 from rfl]
  go_enter Tryz.func193,Tryz.ntmps193
  go_wp2
  go_ret
  exact ⟨rfl,rfl⟩
 by_cases h18 : p = 18
 ·subst h18
  rw [show (((18 : UInt8).toNat : Nat) : Int) = 18 from rfl]
  go_enter Tryz.func193,Tryz.ntmps193
  go_wp2
  go_ret
  exact ⟨rfl,rfl⟩
 by_cases h22 : p = 22
 ·subst h22
  rw [show (((22 : UInt8).toNat : Nat) : Int) = 22 from rfl]
  go_enter Tryz.func193,Tryz.ntmps193
  go_wp2
  go_ret
  exact ⟨rfl,rfl⟩
 have q1 : ((p.toNat : Int) == 1) = false:=u8_ne (by decide) h1
 have q2 : ((p.toNat : Int) == 2) = false:=u8_ne (by decide) h2
 have q3 : ((p.toNat : Int) == 3) = false:=u8_ne (by decide) h3
 have q17 : ((p.toNat : Int) == 17) = false:=u8_ne (by decide) h17
 have q18 : ((p.toNat : Int) == 18) = false:=u8_ne (by decide) h18
 have q22 : ((p.toNat : Int) == 22) = false:=u8_ne (by decide) h22
 have HE:=Lib.hid (show hasArg p = false by unfold hasArg; simp [h1,h2,h3,h17,h18,h22])
 go_enter Tryz.func193,Tryz.ntmps193
 go_wp2
 go_ret
 exact ⟨by rw [HE.out]; rfl,rfl⟩
theorem rHas_any (p : UInt8) (w : World) : Calls Tryz.prog 189 #[.int .u8 (p.toNat : Int)] w fun e w' => e = .returned (.bool (hasArg p)) ∧ w' = w:=by
 by_cases h1 : p = 1
 ·subst h1
  rw [show (((1 : UInt8).toNat : Nat) : Int) = 1 from rfl]
  go_enter Tryz.func189,Tryz.ntmps189
  go_wp2
  go_ret
  exact ⟨rfl,rfl⟩
 by_cases h2 : p = 2
 ·subst h2
  rw [show (((2 : UInt8).toNat : Nat) : Int) = 2 from rfl]
  go_enter Tryz.func189,Tryz.ntmps189
  go_wp2
  go_ret
  exact ⟨rfl,rfl⟩
 by_cases h3 : p = 3
 ·subst h3
  rw [show (((3 : UInt8).toNat : Nat) : Int) = 3 from rfl]
  go_enter Tryz.func189,Tryz.ntmps189
  go_wp2
  go_ret
  exact ⟨rfl,rfl⟩
 by_cases h17 : p = 17
 ·subst h17
  rw [show (((17 : UInt8).toNat : Nat) : Int) = 17 from rfl]
  go_enter Tryz.func189,Tryz.ntmps189
  go_wp2
  go_ret
  exact ⟨rfl,rfl⟩
 by_cases h18 : p = 18
 ·subst h18
  rw [show (((18 : UInt8).toNat : Nat) : Int) = 18 from rfl]
  go_enter Tryz.func189,Tryz.ntmps189
  go_wp2
  go_ret
  exact ⟨rfl,rfl⟩
 by_cases h22 : p = 22
 ·subst h22
  rw [show (((22 : UInt8).toNat : Nat) : Int) = 22 from rfl]
  go_enter Tryz.func189,Tryz.ntmps189
  go_wp2
  go_ret
  exact ⟨rfl,rfl⟩
 have q1 : ((p.toNat : Int) == 1) = false:=u8_ne (by decide) h1
 have q2 : ((p.toNat : Int) == 2) = false:=u8_ne (by decide) h2
 have q3 : ((p.toNat : Int) == 3) = false:=u8_ne (by decide) h3
 have q17 : ((p.toNat : Int) == 17) = false:=u8_ne (by decide) h17
 have q18 : ((p.toNat : Int) == 18) = false:=u8_ne (by decide) h18
 have q22 : ((p.toNat : Int) == 22) = false:=u8_ne (by decide) h22
 have HE:=Lib.hid (show hasArg p = false by unfold hasArg; simp [h1,h2,h3,h17,h18,h22])
 go_enter Tryz.func189,Tryz.ntmps189
 go_wp2
 go_ret
 exact ⟨by rw [HE.out]; rfl,rfl⟩
theorem cins_any (x : VI) (w : World) : Calls Tryz.prog 172 #[.agg #[.int .u8 (x.1.toNat : Int),.int .u8 (x.2.toNat : Int)]] w fun e w' => e = .returned (.bool (insOk x)) ∧ Below w.heap.size w w':=by
 obtain ⟨p,a⟩:=x
 show Calls Tryz.prog 172 #[.agg #[.int .u8 (p.toNat : Int),.int .u8 (a.toNat : Int)]] w _
 obtain ⟨W1,hW1⟩ : ∃ W1,W1 = w.alloc (.cells #[.int .u8 (p.toNat : Int),.int .u8 (a.toNat : Int)] 97):=⟨_,rfl⟩
 have hb1 : Below w.heap.size w W1:=by rw [hW1]; exact b_alloc _ _
 have hx : Blk W1 w.heap.size 97 [.int .u8 (p.toNat : Int),.int .u8 (a.toNat : Int)]:=by rw [hW1]; exact Blk.new w _ _
 have x0:=hx.cell (k:=0) rfl
 have x1:=hx.cell (k:=1) rfl
 have HB1:=Lib.hid hb1
 clear hx hb1
 by_cases h1 : 1 ≤ p.toNat
 ·have q1 : (1 : Int) ≤ (p.toNat : Int):=by omega
  by_cases h2 : p.toNat ≤ 23
  ·have q2 : (p.toNat : Int) ≤ 23:=by omega
   by_cases h3 : a = 0
   ·subst h3
    rw [show (((0 : UInt8).toNat : Nat) : Int) = 0 from rfl] at hW1 x1 ⊢
    have HE:=Lib.hid (show insOk (p,0) = true by unfold insOk; simp [h1,h2])
    go_enter Tryz.func172,Tryz.ntmps172
    go_upto_region 1 with fail
    rw [← hW1]
    clear hW1
    go_wp2_with fail
    go_ret
    exact ⟨by rw [HE.out]; rfl,HB1.out⟩
   ·have q3 : ((a.toNat : Int) == 0) = false:=u8_ne (by decide) h3
    obtain ⟨q,hq⟩ : ∃ q,q = hasArg p:=⟨_,rfl⟩
    have HC:=Lib.hid (fun w' => chas_any p w')
    rw [← hq] at HC
    have HE:=Lib.hid (show insOk (p,a) = q by unfold insOk; rw [hq]; simp [h1,h2,h3])
    clear hq
    go_enter Tryz.func172,Tryz.ntmps172
    go_upto_region 1 with fail
    rw [← hW1]
    clear hW1
    go_wp2_with fail
    refine (HC.out _).mono ?_
    rintro e w3 ⟨rfl,rfl⟩
    go_wp2_with fail
    go_ret
    exact ⟨by rw [HE.out]; rfl,HB1.out⟩
  ·have q2 : ¬ (p.toNat : Int) ≤ 23:=by omega
   have HE:=Lib.hid (show insOk (p,a) = false by unfold insOk; simp [h2])
   go_enter Tryz.func172,Tryz.ntmps172
   go_upto_region 1 with fail
   rw [← hW1]
   clear hW1
   go_wp2_with fail
   go_ret
   exact ⟨by rw [HE.out]; rfl,HB1.out⟩
 ·have q1 : ¬ (1 : Int) ≤ (p.toNat : Int):=by omega
  have HE:=Lib.hid (show insOk (p,a) = false by unfold insOk; simp [h1])
  go_enter Tryz.func172,Tryz.ntmps172
  go_upto_region 1 with fail
  rw [← hW1]
  clear hW1
  go_wp2_with fail
  go_ret
  exact ⟨by rw [HE.out]; rfl,HB1.out⟩
theorem rIns_any (x : VI) (w : World) : Calls Tryz.prog 164 #[.agg #[.int .u8 (x.1.toNat : Int),.int .u8 (x.2.toNat : Int)]] w fun e w' => e = .returned (.bool (insOk x)) ∧ Below w.heap.size w w':=by
 obtain ⟨p,a⟩:=x
 show Calls Tryz.prog 164 #[.agg #[.int .u8 (p.toNat : Int),.int .u8 (a.toNat : Int)]] w _
 obtain ⟨W1,hW1⟩ : ∃ W1,W1 = w.alloc (.cells #[.int .u8 (p.toNat : Int),.int .u8 (a.toNat : Int)] 97):=⟨_,rfl⟩
 have hb1 : Below w.heap.size w W1:=by rw [hW1]; exact b_alloc _ _
 have hx : Blk W1 w.heap.size 97 [.int .u8 (p.toNat : Int),.int .u8 (a.toNat : Int)]:=by rw [hW1]; exact Blk.new w _ _
 have x0:=hx.cell (k:=0) rfl
 have x1:=hx.cell (k:=1) rfl
 have HB1:=Lib.hid hb1
 clear hx hb1
 by_cases h1 : 1 ≤ p.toNat
 ·have q1 : (1 : Int) ≤ (p.toNat : Int):=by omega
  by_cases h2 : p.toNat ≤ 23
  ·have q2 : (p.toNat : Int) ≤ 23:=by omega
   by_cases h3 : a = 0
   ·subst h3
    rw [show (((0 : UInt8).toNat : Nat) : Int) = 0 from rfl] at hW1 x1 ⊢
    have HE:=Lib.hid (show insOk (p,0) = true by unfold insOk; simp [h1,h2])
    go_enter Tryz.func164,Tryz.ntmps164
    go_upto_region 1 with fail
    rw [← hW1]
    clear hW1
    go_wp2_with fail
    go_ret
    exact ⟨by rw [HE.out]; rfl,HB1.out⟩
   ·have q3 : ((a.toNat : Int) == 0) = false:=u8_ne (by decide) h3
    obtain ⟨q,hq⟩ : ∃ q,q = hasArg p:=⟨_,rfl⟩
    have HC:=Lib.hid (fun w' => rHas_any p w')
    rw [← hq] at HC
    have HE:=Lib.hid (show insOk (p,a) = q by unfold insOk; rw [hq]; simp [h1,h2,h3])
    clear hq
    go_enter Tryz.func164,Tryz.ntmps164
    go_upto_region 1 with fail
    rw [← hW1]
    clear hW1
    go_wp2_with fail
    refine (HC.out _).mono ?_
    rintro e w3 ⟨rfl,rfl⟩
    go_wp2_with fail
    go_ret
    exact ⟨by rw [HE.out]; rfl,HB1.out⟩
  ·have q2 : ¬ (p.toNat : Int) ≤ 23:=by omega
   have HE:=Lib.hid (show insOk (p,a) = false by unfold insOk; simp [h2])
   go_enter Tryz.func164,Tryz.ntmps164
   go_upto_region 1 with fail
   rw [← hW1]
   clear hW1
   go_wp2_with fail
   go_ret
   exact ⟨by rw [HE.out]; rfl,HB1.out⟩
 ·have q1 : ¬ (1 : Int) ≤ (p.toNat : Int):=by omega
  have HE:=Lib.hid (show insOk (p,a) = false by unfold insOk; simp [h1])
  go_enter Tryz.func164,Tryz.ntmps164
  go_upto_region 1 with fail
  rw [← hW1]
  clear hW1
  go_wp2_with fail
  go_ret
  exact ⟨by rw [HE.out]; rfl,HB1.out⟩
def longOk (s : List UInt8) : Bool:=decide (s.length ≤ 64)
theorem long_any (s : List UInt8) (w : World) (hs : s.length ≤ 140737488355328) : Calls Tryz.prog 170 #[.string (bs s)] w fun e w' => e = .returned (.bool (!longOk s)) ∧ Below w.heap.size w w':=by
 have h63 : (s.length : Int) ≤ 140737488355328:=by omega
 by_cases h : s.length ≤ 64
 ·have h1 : ¬ (64 : Int) < (s.length : Int):=by omega
  have HE:=Lib.hid (show longOk s = true by unfold longOk; simp [h])
  clear h
  go_enter Tryz.func170,Tryz.ntmps170
  go_wp2
  go_ret
  exact ⟨by rw [HE.out]; rfl,Below.refl _ _⟩
 ·have h1 : (64 : Int) < (s.length : Int):=by omega
  have HE:=Lib.hid (show longOk s = false by unfold longOk; simp [h])
  clear h
  go_enter Tryz.func170,Tryz.ntmps170
  go_wp2
  go_ret
  exact ⟨by rw [HE.out]; rfl,Below.refl _ _⟩
theorem badIns_any (x : VI) (w : World) : Calls Tryz.prog 171 #[.agg #[.int .u8 (x.1.toNat : Int),.int .u8 (x.2.toNat : Int)]] w fun e w' => e = .returned (.bool (!insOk x)) ∧ Below w.heap.size w w':=by
 have HC:=Lib.hid (cins_any x)
 obtain ⟨q,hq⟩ : ∃ q,q = insOk x:=⟨_,rfl⟩
 rw [← hq] at HC ⊢
 clear hq
 obtain ⟨W1,hW1⟩ : ∃ W1,W1 = w.alloc (.cells #[.int .u8 (x.1.toNat : Int),.int .u8 (x.2.toNat : Int)] 97):=⟨_,rfl⟩
 have hb1 : Below w.heap.size w W1:=by rw [hW1]; exact b_alloc _ _
 have hx : Blk W1 w.heap.size 97 [.int .u8 (x.1.toNat : Int),.int .u8 (x.2.toNat : Int)]:=by rw [hW1]; exact Blk.new w _ _
 have x0:=hx.cell (k:=0) rfl
 have x1:=hx.cell (k:=1) rfl
 have HB1:=Lib.hid hb1
 clear hx hb1
 go_enter Tryz.func171,Tryz.ntmps171
 go_upto_region 1 with fail
 rw [← hW1]
 clear hW1
 go_wp2_with fail
 refine (HC.out _).mono ?_
 rintro e w3 ⟨rfl,hB3⟩
 have HB3:=Lib.hid (bt HB1.out hB3)
 clear hB3
 go_wp2_with fail
 go_ret
 exact ⟨rfl,HB3.out⟩
end Go.Proofs.YtehllcbnheicoaaGreatDoor
