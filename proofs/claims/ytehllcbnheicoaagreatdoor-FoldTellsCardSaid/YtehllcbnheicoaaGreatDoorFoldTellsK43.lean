/- Lemmas for FoldTells, part 43: walks of the functions that it reaches, and the plain laws behind them. -/
import Derived.Lib.Builder
import Derived.Lib.QuietBelow
import Derived.Recover
import Derived.Test.YtehllcbnheicoaaGreatDoorFoldTellsK1
import Derived.Test.YtehllcbnheicoaaGreatDoorFoldTellsK2
import Derived.Test.YtehllcbnheicoaaGreatDoorFoldTellsK4
import Derived.Test.YtehllcbnheicoaaGreatDoorFoldTellsK5
import Derived.Test.YtehllcbnheicoaaGreatDoorFoldTellsK13
import Derived.Test.YtehllcbnheicoaaGreatDoorFoldTellsK15
import Derived.Test.YtehllcbnheicoaaGreatDoorFoldTellsK17
import Derived.Test.YtehllcbnheicoaaGreatDoorFoldTellsK21
import Derived.Test.YtehllcbnheicoaaGreatDoorFoldTellsK36
import Derived.Test.YtehllcbnheicoaaGreatDoorFoldTellsK40
import Derived.Test.YtehllcbnheicoaaGreatDoorFoldTellsK42
set_option linter.unusedSimpArgs false
set_option linter.unusedVariables false
set_option maxRecDepth 100000
set_option maxHeartbeats 16000000
namespace Go.Proofs.YtehllcbnheicoaaGreatDoor
open Go.RowKit Oct
theorem wpG_nil' {P : Program} {ops : Array Oper} {C : World → Prop} {R : World → World → Prop} {F : Nat → Option (Known R)} {Q : Facts → Act → Prop} {k : Nat} {S : Facts} {a : Act} (h : Q S a) : wpG P ops C R F Q k [] S a:=h
attribute [local irreducible] wpG
theorem GRP.mono {w : World} {base base' : Nat} {v : Value} {Z : List (List PR)} (h : GRP w base v Z) (hb : base' ≤ base) : GRP w base' v Z:=by
 obtain ⟨CS,h1,h2⟩:=h
 exact ⟨CS,owns_mono h1 hb,h2⟩
theorem by24 {n k : Nat} (hn : n ≤ 1000000) (hk : k ≤ n) : (k + 1) * 24 ≤ 140737488355328:=by omega
theorem by32 {n k : Nat} (hn : n ≤ 1000000) (hk : k ≤ n) : (0 + k) * 32 ≤ 140737488355328:=by omega
theorem grp_len {A : List PR} {Z R : List (List PR)} (h : Z ++ R = grp A) : Z.length ≤ A.length:=by
 have:=grp_length_le A.length A (Nat.le_refl _)
 rw [← h,List.length_append] at this
 omega
theorem sub_len {A : List PR} {f i : Nat} (hi : i ≤ A.length) (hf : f ≤ i) : ((A.drop f).take (i - f)).length = i - f:=by simp; omega
theorem rGroups_any (v : Value) (l : List PR) (w : World) (hr : RP w v l) (hl : l.length ≤ 1000000) :
  Calls Tryz.prog 71 #[v] w fun e w' => (∃ u,e = .returned u ∧ GRP w' w.heap.size u (grp (srt l))) ∧ Below w.heap.size w w':=by
 obtain ⟨a0,c0,rfl,_,_⟩:=hr.open
 obtain ⟨A,hA⟩ : ∃ A,A = srt l:=⟨_,rfl⟩
 have hsrt:=rSortP_any _ l w hr hl
 have hAl : A.length = l.length:=by rw [hA]; exact srt_length l
 rw [← hA] at hsrt ⊢
 have HSRT:=Lib.hid hsrt
 clear hr hsrt hA
 go_enter Tryz.func71,Tryz.ntmps71
 go_wp2_with fail
 refine HSRT.out.mono ?_
 rintro e w1 ⟨v1,rfl,hown1,hB1⟩
 obtain ⟨aA,cA,rfl,hcap,hcA⟩:=(OP.reads hown1).open
 clear hcap
 have HCA:=Lib.hid hcA
 have HA:=Lib.hid (OP.reads hown1)
 have HB1:=Lib.hid hB1
 have hAn : A.length ≤ 1000000:=by rw [hAl]; exact hl
 have HAN:=Lib.hid hAn
 clear hown1 hB1 hAl hl HSRT hcA
 go_wp2
 go_loopw [4,5,6] (fun vo vf vi wr => ∃ f i : Nat,∃ Z Av Cv,vf = .int .i64 (f : Int) ∧ vi = .int .i64 (i : Int) ∧ vo = .slice Av (List.length Z) Cv ∧ 1 ≤ i ∧ i ≤ A.length + 1 ∧ Hid (f ≤ A.length ∧ (i ≤ A.length → f < i) ∧ (i = A.length + 1 → f = A.length)) ∧
  Hid (∀ j (h : j < A.length) (hf : f < A.length),f ≤ j → j < i → A[j].1 = A[f].1) ∧ Hid (Z ++ grp (A.drop f) = grp A) ∧ Hid (GRP wr w1.heap.size (.slice Av Z.length Cv) Z) ∧ Hid (Below w1.heap.size w1 wr)) (fun _ _ i _ => A.length + 1 - (intOf i).toNat)
 case atStart =>
  have h00 : ∀ j (h : j < A.length) (hf : 0 < A.length),0 ≤ j → j < 1 → A[j].1 = A[0].1:=by
   intro j h hf _ h2
   obtain rfl : j = 0:=by omega
   rfl
  exact ⟨0,1,[],none,0,rfl,rfl,rfl,by omega,by omega,⟨by omega,by omega,by omega⟩,h00,rfl,GRP.nil _ _,b_refl _⟩
 case round =>
  obtain ⟨f,i,Z,Av,Cv,rfl,rfl,rfl,hi1,hi2,HF,HIN,HZ,HG,HB⟩:=hrel
  obtain ⟨Wr,hWr⟩ : ∃ Wr,Wr = wr:=⟨_,rfl⟩
  subst hWr
  by_cases h0 : i ≤ A.length
  ·have hfi:=HF.out.2.1 h0
   have hfl : f < A.length:=by omega
   obtain ⟨b,off,rfl,cf,_⟩:=HCA.out f hfl
   have HFc:=Lib.hid (Below.keeps HB.out cf)
   obtain ⟨X,C,hrun,hsub⟩:=RP.subRun HA.out f i (Nat.le_of_lt hfi) h0
   have HSUB:=Lib.hid (hsub.below HB.out)
   have hsl:=sub_len h0 (Nat.le_of_lt hfi)
   obtain ⟨G,hG⟩ : ∃ G,G = (A.drop f).take (i - f):=⟨_,rfl⟩
   rw [← hG] at HSUB hsl
   have HGG:=Lib.hid hG
   have HSL:=Lib.hid hsl
   rw [← hsl] at hrun HSUB
   clear cf hsub hsl hG
   have i0 : (i : Int) ≤ (A.length : Int):=by omega
   have i1 : (0 : Int) ≤ (i : Int):=by omega
   have i2 : (0 : Int) ≤ (f : Int):=by omega
   have i3 : (f : Int) < (A.length : Int):=by omega
   have i4 : (f : Int) ≤ (i : Int):=by omega
   by_cases hin : i = A.length
   ·have e1 : ((i : Int) == (A.length : Int)) = true:=by rw [beq_iff_eq]; omega
    have HE:=Lib.hid hin
    clear hin
    go_wp2
    refine region_known [] (by kernel_rfl) (by kernel_rfl) ?_
    (repeat (first | (refine wpG_skip (by kernel_rfl) (fun K hK => ?_); go_big_quiet_skip; refine wpQuiet_nil (hK _ ?_); clear hK K) | (refine wpG_quiet (by rfl) (by rfl) (fun K hK => ?_); go_big_quiet_want; go_big_quiet_op; go_big_quiet_on; refine wpQuiet_nil (hK _ ?_); clear hK K) | (refine wpG_nilOk rfl rfl rfl (by kernel_rfl) (fun K hK => ?_); go_simp; refine hK _ ?_; clear hK K)))
    refine wpG_nil' ?_
    intro w2 hB2 hA2
    have HB2:=Lib.hid hB2
    have HS2:=Lib.hid (HSUB.out.below hB2)
    have HG2:=Lib.hid (HG.out.below hB2)
    have hw12 : w1.heap.size ≤ w2.heap.size:=Nat.le_trans HB.out.size hB2.size
    have HW12:=Lib.hid hw12
    clear hB2 hA2 hw12
    go_wp2_with (first
     | (at_builtin; (refine appendP w2 rfl _ _ 37 rfl Tryz.underlying37 w2.heap.size (.slice none 0 0) [] rfl (OP.nil _ _) (.slice X G.length C) G rfl HS2.out (by rw [HSL.out]; exact by32 HAN.out (Nat.le_trans (Nat.sub_le _ _) h0)) (Nat.le_refl _) ?_); intro v3 w3 hown3 hB3; rw [List.nil_append] at hown3; obtain ⟨a3,c3,rfl⟩:=owns_slice hown3; have HO3:=Lib.hid hown3; have HG3:=Lib.hid (HG2.out.below hB3); have HB3:=Lib.hid hB3; obtain ⟨CS,hcs,hcs2⟩:=HG3.out; have HCS:=Lib.hid hcs; have HCS2:=Lib.hid hcs2; clear hown3 hB3 hcs hcs2)
     | (at_builtin; (refine append1K w3 [.slice a3 G.length c3] 37 rfl _ _ 28 rfl w1.heap.size (.slice none 0 0) 1 24 Tryz.underlying28 infoRowG rfl (by decide) _ Z.length CS HCS.out rfl _ rfl rfl (by simp [Value.oneCell']) (by decide) (by24 HAN.out (grp_len HZ.out)) (Nat.le_trans HW12.out HB3.out.size) ?_); intro g cap w4 hown4 hfr hgb hB4 hsz4; have HO4:=Lib.hid hown4; have HFR:=Lib.hid hfr; have HGB:=Lib.hid hgb; have HB4:=Lib.hid hB4; have HSZ4:=Lib.hid hsz4; clear hown4 hfr hgb hB4 hsz4))
    go_roundw
    case rel =>
     have hout : ∀ b,(Value.slice a3 G.length c3).ownBlock = some b → b < w3.heap.size ∧ (Value.slice Av Z.length Cv).ownBlock ≠ some b:=by
      intro b hb
      have h1:=World.ownsRow.lt HO3.out b hb
      refine ⟨h1.2,fun e => ?_⟩
      obtain ⟨CS2,hc2,_⟩:=HG2.out
      have h2:=World.ownsRow.lt hc2 b e
      omega
     have hii : ∀ j (h : j < A.length) (hf : i < A.length),i ≤ j → j < i + 1 → A[j].1 = A[i].1:=by
      intro j h hf _ h2
      obtain rfl : j = i:=by omega
      rfl
     have hsn:=GRP.snoc HCS2.out (by have:=HCS.out.1; omega) (OP.reads HO3.out) hout rfl HO4.out HFR.out HGB.out HSZ4.out
     refine ⟨i,i + 1,Z ++ [G],_,_,rfl,by go_num,by rw [List.length_append]; rfl,by omega,by omega,⟨h0,fun h => by omega,fun h => by omega⟩,hii,?_,by rw [List.length_append]; exact hsn,?_⟩
     ·have:=grp_more (A:=A) (Z:=Z) hfi h0 HZ.out (fun j h h1 h2 => HIN.out j h (by omega) h1 h2) (fun h => absurd h (by have:=HE.out; omega))
      rw [← HGG.out] at this
      exact this
     ·exact HB.out.trans ((HB2.out.mono HB.out.size).trans ((HB3.out.mono HW12.out).trans HB4.out))
    case measure => simp [intOf]; omega
   ·have e1 : ((i : Int) == (A.length : Int)) = false:=by rw [beq_eq_false_iff_ne]; omega
    have hil : i < A.length:=by omega
    have i5 : (i : Int) < (A.length : Int):=by omega
    obtain ⟨b',off',hb,ci,_⟩:=HCA.out i hil
    cases hb
    have HI:=Lib.hid (Below.keeps HB.out ci)
    clear ci hin
    by_cases hk : A[i].1 = A[f].1
    ·have HK:=Lib.hid hk
     have e2 : (A[i].1 == A[f].1) = true:=by rw [beq_iff_eq]; exact hk
     have e3 : (A[i].1 != A[f].1) = false:=by rw [bne_eq_false_iff_eq]; exact hk
     clear hk
     go_wp2
     refine region_known [(9,.exact Bel (.string (bs A[i].1))),(14,.exact Bel (.string (bs A[f].1)))] (by kernel_rfl) (by kernel_rfl) ?_
     (repeat (first | (refine wpG_skip (by kernel_rfl) (fun K hK => ?_); go_big_quiet_skip; refine wpQuiet_nil (hK _ ?_); clear hK K) | (refine wpG_quiet (by rfl) (by rfl) (fun K hK => ?_); go_big_quiet_want; go_big_quiet_op; go_big_quiet_on; refine wpQuiet_nil (hK _ ?_); clear hK K) | (refine wpG_nilOk rfl rfl rfl (by kernel_rfl) (fun K hK => ?_); go_simp; refine hK _ ?_; clear hK K)))
     refine wpG_exact rfl (by kernel_rfl) (fun w' G hB hS hG => ?_) (fun K hK => ?_)
     ·have c:=Below.keeps hB HI.out
      go_simp
      exact hG _ (Bel.refl _)
     go_simp; refine hK _ ?_; clear hK K; (repeat (first | (refine wpG_skip (by kernel_rfl) (fun K hK => ?_); go_big_quiet_skip; refine wpQuiet_nil (hK _ ?_); clear hK K) | (refine wpG_quiet (by rfl) (by rfl) (fun K hK => ?_); go_big_quiet_want; go_big_quiet_op; go_big_quiet_on; refine wpQuiet_nil (hK _ ?_); clear hK K) | (refine wpG_nilOk rfl rfl rfl (by kernel_rfl) (fun K hK => ?_); go_simp; refine hK _ ?_; clear hK K)))
     refine wpG_exact rfl (by kernel_rfl) (fun w' G hB hS hG => ?_) (fun K hK => ?_)
     ·have c:=Below.keeps hB HFc.out
      go_simp
      exact hG _ (Bel.refl _)
     go_simp; refine hK _ ?_; clear hK K; (repeat (first | (refine wpG_skip (by kernel_rfl) (fun K hK => ?_); go_big_quiet_skip; refine wpQuiet_nil (hK _ ?_); clear hK K) | (refine wpG_quiet (by rfl) (by rfl) (fun K hK => ?_); go_big_quiet_want; go_big_quiet_op; go_big_quiet_on; refine wpQuiet_nil (hK _ ?_); clear hK K) | (refine wpG_nilOk rfl rfl rfl (by kernel_rfl) (fun K hK => ?_); go_simp; refine hK _ ?_; clear hK K)))
     refine wpG_nil' ?_
     intro w2 hB2 hA2
     have HB2:=Lib.hid hB2
     have HG2:=Lib.hid (HG.out.below hB2)
     clear hB2 hA2
     go_wp2
     refine ⟨?_,by simp [intOf]; omega⟩
     refine ⟨f,i + 1,Z,_,_,rfl,by go_num,rfl,by omega,by omega,⟨by omega,fun h => by omega,fun h => by omega⟩,fun j h hf h1 h2 => ?_,HZ.out,HG2.out,HB.out.trans (HB2.out.mono HB.out.size)⟩
     by_cases hji : j = i
     ·subst hji; exact HK.out
     ·exact HIN.out j h hf h1 (by omega)
    ·have HK:=Lib.hid hk
     have e2 : (A[i].1 == A[f].1) = false:=by rw [beq_eq_false_iff_ne]; exact hk
     have e3 : (A[i].1 != A[f].1) = true:=by rw [bne_iff_ne]; exact hk
     clear hk
     go_wp2
     refine region_known [(9,.exact Bel (.string (bs A[i].1))),(14,.exact Bel (.string (bs A[f].1)))] (by kernel_rfl) (by kernel_rfl) ?_
     (repeat (first | (refine wpG_skip (by kernel_rfl) (fun K hK => ?_); go_big_quiet_skip; refine wpQuiet_nil (hK _ ?_); clear hK K) | (refine wpG_quiet (by rfl) (by rfl) (fun K hK => ?_); go_big_quiet_want; go_big_quiet_op; go_big_quiet_on; refine wpQuiet_nil (hK _ ?_); clear hK K) | (refine wpG_nilOk rfl rfl rfl (by kernel_rfl) (fun K hK => ?_); go_simp; refine hK _ ?_; clear hK K)))
     refine wpG_exact rfl (by kernel_rfl) (fun w' G hB hS hG => ?_) (fun K hK => ?_)
     ·have c:=Below.keeps hB HI.out
      go_simp
      exact hG _ (Bel.refl _)
     go_simp; refine hK _ ?_; clear hK K; (repeat (first | (refine wpG_skip (by kernel_rfl) (fun K hK => ?_); go_big_quiet_skip; refine wpQuiet_nil (hK _ ?_); clear hK K) | (refine wpG_quiet (by rfl) (by rfl) (fun K hK => ?_); go_big_quiet_want; go_big_quiet_op; go_big_quiet_on; refine wpQuiet_nil (hK _ ?_); clear hK K) | (refine wpG_nilOk rfl rfl rfl (by kernel_rfl) (fun K hK => ?_); go_simp; refine hK _ ?_; clear hK K)))
     refine wpG_exact rfl (by kernel_rfl) (fun w' G hB hS hG => ?_) (fun K hK => ?_)
     ·have c:=Below.keeps hB HFc.out
      go_simp
      exact hG _ (Bel.refl _)
     go_simp; refine hK _ ?_; clear hK K; (repeat (first | (refine wpG_skip (by kernel_rfl) (fun K hK => ?_); go_big_quiet_skip; refine wpQuiet_nil (hK _ ?_); clear hK K) | (refine wpG_quiet (by rfl) (by rfl) (fun K hK => ?_); go_big_quiet_want; go_big_quiet_op; go_big_quiet_on; refine wpQuiet_nil (hK _ ?_); clear hK K) | (refine wpG_nilOk rfl rfl rfl (by kernel_rfl) (fun K hK => ?_); go_simp; refine hK _ ?_; clear hK K)))
     refine wpG_nil' ?_
     intro w2 hB2 hA2
     have HB2:=Lib.hid hB2
     have HS2:=Lib.hid (HSUB.out.below hB2)
     have HG2:=Lib.hid (HG.out.below hB2)
     have hw12 : w1.heap.size ≤ w2.heap.size:=Nat.le_trans HB.out.size hB2.size
     have HW12:=Lib.hid hw12
     clear hB2 hA2 hw12
     go_wp2_with (first
      | (at_builtin; (refine appendP w2 rfl _ _ 37 rfl Tryz.underlying37 w2.heap.size (.slice none 0 0) [] rfl (OP.nil _ _) (.slice X G.length C) G rfl HS2.out (by rw [HSL.out]; exact by32 HAN.out (Nat.le_trans (Nat.sub_le _ _) h0)) (Nat.le_refl _) ?_); intro v3 w3 hown3 hB3; rw [List.nil_append] at hown3; obtain ⟨a3,c3,rfl⟩:=owns_slice hown3; have HO3:=Lib.hid hown3; have HG3:=Lib.hid (HG2.out.below hB3); have HB3:=Lib.hid hB3; obtain ⟨CS,hcs,hcs2⟩:=HG3.out; have HCS:=Lib.hid hcs; have HCS2:=Lib.hid hcs2; clear hown3 hB3 hcs hcs2)
      | (at_builtin; (refine append1K w3 [.slice a3 G.length c3] 37 rfl _ _ 28 rfl w1.heap.size (.slice none 0 0) 1 24 Tryz.underlying28 infoRowG rfl (by decide) _ Z.length CS HCS.out rfl _ rfl rfl (by simp [Value.oneCell']) (by decide) (by24 HAN.out (grp_len HZ.out)) (Nat.le_trans HW12.out HB3.out.size) ?_); intro g cap w4 hown4 hfr hgb hB4 hsz4; have HO4:=Lib.hid hown4; have HFR:=Lib.hid hfr; have HGB:=Lib.hid hgb; have HB4:=Lib.hid hB4; have HSZ4:=Lib.hid hsz4; clear hown4 hfr hgb hB4 hsz4))
     go_roundw
     case rel =>
      have hout : ∀ b,(Value.slice a3 G.length c3).ownBlock = some b → b < w3.heap.size ∧ (Value.slice Av Z.length Cv).ownBlock ≠ some b:=by
       intro b hb
       have h1:=World.ownsRow.lt HO3.out b hb
       refine ⟨h1.2,fun e => ?_⟩
       obtain ⟨CS2,hc2,_⟩:=HG2.out
       have h2:=World.ownsRow.lt hc2 b e
       omega
      have hii : ∀ j (h : j < A.length) (hf : i < A.length),i ≤ j → j < i + 1 → A[j].1 = A[i].1:=by
       intro j h hf _ h2
       obtain rfl : j = i:=by omega
       rfl
      have hsn:=GRP.snoc HCS2.out (by have:=HCS.out.1; omega) (OP.reads HO3.out) hout rfl HO4.out HFR.out HGB.out HSZ4.out
      refine ⟨i,i + 1,Z ++ [G],_,_,rfl,by go_num,by rw [List.length_append]; rfl,by omega,by omega,⟨h0,fun h => by omega,fun h => by omega⟩,hii,?_,by rw [List.length_append]; exact hsn,?_⟩
      ·have:=grp_more (A:=A) (Z:=Z) hfi h0 HZ.out (fun j h h1 h2 => HIN.out j h (by omega) h1 h2) (fun h => HK.out)
       rw [← HGG.out] at this
       exact this
      ·exact HB.out.trans ((HB2.out.mono HB.out.size).trans ((HB3.out.mono HW12.out).trans HB4.out))
     case measure => simp [intOf]; omega
  ·have hie : i = A.length + 1:=by omega
   have hfin : Z = grp A:=by
    have h1:=HF.out.2.2 hie
    have h2:=HZ.out
    rw [h1,List.drop_length,grp_nil,List.append_nil] at h2
    exact h2
   subst hfin
   have i0 : ¬ (i : Int) ≤ (A.length : Int):=by omega
   clear hie
   go_wp2
   go_ret
   exact ⟨⟨_,rfl,HG.out.mono HB1.out.size⟩,HB1.out.trans (HB.out.mono HB1.out.size)⟩
end Go.Proofs.YtehllcbnheicoaaGreatDoor
namespace Go.Proofs.YtehllcbnheicoaaGreatDoor
open Go.RowKit Oct
theorem hk1_zero (l : List PR) (h : 0 < l.length) : l[0].1 = hk1 l:=by cases l with | nil => simp at h | cons x l => rfl
theorem infoStrK : (Tryz.prog.info? 9).map (fun i => (i.zero,i.size,i.bytes)) = some (some (.string ByteArray.empty),1,16):=by kernel_rfl
theorem by16 {n k : Nat} (hn : n ≤ 1000000) (hk : k ≤ n) : (k + 1) * 16 ≤ 140737488355328:=by omega
theorem rKeys_any (v : Value) (l : List PR) (w : World) (hr : RP w v l) (hl : l.length ≤ 1000000) :
  Calls Tryz.prog 39 #[v] w fun e w' => (∃ u,e = .returned u ∧ w'.ownsRow w.heap.size 9 1 u ((grp (srt l)).map hk1).length (tcells ((grp (srt l)).map hk1))) ∧ Below w.heap.size w w':=by
 obtain ⟨a0,c0,rfl,_,_⟩:=hr.open
 have hgr:=rGroups_any _ l w hr hl
 have hn:=grp_ne (srt l).length (srt l) (Nat.le_refl _)
 have hgl:=grp_length_le (srt l).length (srt l) (Nat.le_refl _)
 rw [srt_length] at hgl
 obtain ⟨Z,hZ⟩ : ∃ Z,Z = grp (srt l):=⟨_,rfl⟩
 rw [← hZ] at hgr hn hgl ⊢
 have HGR:=Lib.hid hgr
 have HN:=Lib.hid hn
 have HZL:=Lib.hid (Nat.le_trans hgl hl)
 clear hgr hn hgl hZ hr
 go_enter Tryz.func39,Tryz.ntmps39
 go_wp2_with fail
 refine HGR.out.mono ?_
 rintro e w1 ⟨⟨u1,rfl,hg1⟩,hB1⟩
 obtain ⟨a1,c1,rfl⟩:=hg1.slice
 obtain ⟨aa,ca,hv,_,_,hc⟩:=hg1.rr
 injection hv with e1 _ e3
 subst e1 e3
 have HC:=Lib.hid hc
 have HB1:=Lib.hid hB1
 clear hc hB1 hg1 HGR
 go_wp2
 go_loopw [3,5] (fun vo vi wr => ∃ i : Nat,∃ Av Cv,vi = .int .i64 (i : Int) ∧ vo = .slice Av i Cv ∧ i ≤ Z.length ∧ Hid (wr.ownsRow w1.heap.size 9 1 (.slice Av i Cv) i (tcells ((Z.take i).map hk1))) ∧ Hid (Below w1.heap.size w1 wr)) (fun _ i _ => Z.length - (intOf i).toNat)
 case atStart => exact ⟨0,none,0,rfl,rfl,by omega,World.ownsRow_nil _ _ _ _,b_refl _⟩
 case round =>
  obtain ⟨i,Av,Cv,rfl,rfl,hi,HO,HB⟩:=hrel
  obtain ⟨Wr,hWr⟩ : ∃ Wr,Wr = wr:=⟨_,rfl⟩
  subst hWr
  by_cases h0 : i < Z.length
  ·obtain ⟨b,off,u,rfl,d1,hru⟩:=HC.out i h0
   obtain ⟨a2,c2,rfl,_,hc2⟩:=hru.open
   have hz0:=HN.out Z[i] (List.getElem_mem h0)
   obtain ⟨b2,o2,rfl,d2,_⟩:=hc2 0 hz0
   rw [Nat.zero_mul,Nat.add_zero,hk1_zero Z[i] hz0] at d2
   have d1':=Below.keeps HB.out d1
   have d2':=Below.keeps HB.out d2
   obtain ⟨x,hx⟩ : ∃ x,x = Z[i]:=⟨_,rfl⟩
   rw [← hx] at d1' d2' hz0
   have HX:=Lib.hid hx
   have i0 : (0 : Int) ≤ (i : Int):=by omega
   have i1 : (i : Int) < (Z.length : Int):=by omega
   have i2 : (0 : Int) < (x.length : Int):=by omega
   have hby:=by16 HZL.out hi
   have hsz:=HB.out.size
   clear d1 d2 hc2 hru hx hz0
   go_wp2_with (at_builtin; go_must (refine append1 Wr [.string (bs (hk1 x))] 9 rfl _ _ 22 rfl w1.heap.size (.string ByteArray.empty) 1 16 Tryz.underlying22 infoStrK rfl (by decide) (.slice Av i Cv) i _ rfl HO.out _ rfl rfl (by simp [Value.oneCell']) hby (by decide) hsz ?_); intro v3 w3 hown3 hB3; obtain ⟨g,cap,rfl⟩:=ownsRow_succ hown3; have HO3:=Lib.hid hown3; have HB3:=Lib.hid hB3; clear hown3 hB3 d1' d2')
   go_roundw
   case rel =>
    refine ⟨i + 1,_,_,by go_num,rfl,by omega,?_,HB.out.trans HB3.out⟩
    rw [List.take_succ_eq_append_getElem h0,List.map_append,← HX.out]
    have:=HO3.out
    rw [tcells_snoc] at this
    exact this
   case measure => simp [intOf]; omega
  ·obtain rfl : i = Z.length:=by omega
   have hfin:=HO.out
   rw [List.take_length] at hfin
   have HF:=Lib.hid hfin
   clear hfin HO
   go_wp2
   go_ret
   refine ⟨⟨_,rfl,?_⟩,HB1.out.trans (HB.out.mono HB1.out.size)⟩
   rw [List.length_map]
   exact owns_mono HF.out HB1.out.size

end Go.Proofs.YtehllcbnheicoaaGreatDoor
namespace Go.Proofs.YtehllcbnheicoaaGreatDoor
open Go.RowKit Oct
attribute [local irreducible] wpG
def kPtrO : Known Bel:=⟨Option Addr,fun q => .pointer q,fun _ => none,fun _ _ h => by cases h⟩
@[go_sem] theorem kPtrO_val (q : Option Addr) : kPtrO.val q = .pointer q:=rfl
end Go.Proofs.YtehllcbnheicoaaGreatDoor
namespace Go.Proofs.YtehllcbnheicoaaGreatDoor
open Go.RowKit Oct
def w18 (p : PR) : Nat:=1 + (p.1.length + p.2.length) / 64
def c18 (l : List PR) : Nat:=(l.map w18).sum
def t18 (rows : List (List PR)) : Nat:=(rows.map fun r => c18 (r.take 200)).sum
def long18 (rows : List (List PR)) : Bool:=decide (20 < rows.length) || decide (100 < t18 (rows.take 40))
theorem c18_take (l : List PR) (k : Nat) (h : k < l.length) : c18 (l.take (k + 1)) = c18 (l.take k) + w18 l[k]:=by
 unfold c18
 rw [List.take_succ_eq_append_getElem h,List.map_append,List.sum_append]
 simp
theorem t18_take (l : List (List PR)) (k : Nat) (h : k < l.length) : t18 (l.take (k + 1)) = t18 (l.take k) + c18 (l[k].take 200):=by
 unfold t18
 rw [List.take_succ_eq_append_getElem h,List.map_append,List.sum_append]
 simp
theorem c18_le (l : List PR) : l.length ≤ c18 l:=by
 induction l with
 | nil => simp [c18]
 | cons x l ih =>
  have e : c18 (x :: l) = w18 x + c18 l:=by simp [c18]
  have : 1 ≤ w18 x:=Nat.le_add_right _ _
  rw [List.length_cons,e]
  omega
theorem c18_mem : ∀ (l : List PR) (p : PR),p ∈ l → w18 p ≤ c18 l
 | x :: l,p,h => by
  have e : c18 (x :: l) = w18 x + c18 l:=by simp [c18]
  rcases List.mem_cons.1 h with rfl | h
  ·omega
  ·have:=c18_mem l p h; omega
theorem t18_mem : ∀ (rows : List (List PR)) (r : List PR),r ∈ rows → c18 (r.take 200) ≤ t18 rows
 | x :: l,r,h => by
  have e : t18 (x :: l) = c18 (x.take 200) + t18 l:=by simp [t18]
  rcases List.mem_cons.1 h with rfl | h
  ·omega
  ·have:=t18_mem l r h; omega
theorem long18_le (rows : List (List PR)) (h : long18 rows = false) : rows.length ≤ 20 ∧ ∀ r ∈ rows,r.length ≤ 100 ∧ ∀ p ∈ r,p.1.length ≤ 6400 ∧ p.2.length ≤ 6400:=by
 simp [long18] at h
 obtain ⟨h1,h2⟩:=h
 rw [List.take_of_length_le (by omega)] at h2
 refine ⟨h1,fun r hr => ?_⟩
 have h3:=t18_mem rows r hr
 have h4:=c18_le (r.take 200)
 rw [List.length_take] at h4
 have hl : r.length ≤ 100:=by omega
 refine ⟨hl,fun p hp => ?_⟩
 rw [List.take_of_length_le (by omega)] at h3
 have h5:=c18_mem r p hp
 unfold w18 at h5
 omega
theorem fin18 (rows : List (List PR)) (i : Nat) (hi : i ≤ rows.length) (h : ¬ (i < rows.length ∧ i < 40)) (h2 : i ≤ 40) : t18 (rows.take i) = t18 (rows.take 40):=by
 by_cases h1 : i < rows.length
 ·rw [show i = 40 by omega]
 ·rw [List.take_of_length_le (by omega),List.take_of_length_le (by omega)]
theorem finc18 (r : List PR) (i : Nat) (hi : i ≤ r.length) (h : ¬ (i < r.length ∧ i < 200)) (h2 : i ≤ 200) : c18 (r.take i) = c18 (r.take 200):=by
 by_cases h1 : i < r.length
 ·rw [show i = 200 by omega]
 ·rw [List.take_of_length_le (by omega),List.take_of_length_le (by omega)]
theorem w18_le (p : PR) (h1 : p.1.length ≤ 140737488355328) (h2 : p.2.length ≤ 140737488355328) : w18 p ≤ 8796093022208:=by unfold w18; omega
theorem w18_int (y : Nat) (p : PR) : ((y : Int) + 1 + ((p.1.length : Int) + (p.2.length : Int)) / 64) = ((y + w18 p : Nat) : Int):=by
 unfold w18
 omega
theorem bound18 {x y k : Nat} (h : y ≤ x + k * 8796093022208) {n : Nat} (hn : n ≤ 8796093022208) : y + n ≤ x + (k + 1) * 8796093022208:=by omega
theorem bound18' {x y k i : Nat} (h : y ≤ x + k * 8796093022208) (hk : k ≤ 200) (hx : x ≤ i * 1759218604441600) : y ≤ (i + 1) * 1759218604441600:=by omega
theorem Long18_any (v : Value) (rows : List (List PR)) (w : World) (hr : RR w v rows) (hl : rows.length ≤ 140737488355328) (hm : ∀ r ∈ rows,r.length ≤ 140737488355328 ∧ ∀ p ∈ r,p.1.length ≤ 140737488355328 ∧ p.2.length ≤ 140737488355328) :
  Calls Tryz.prog 8 #[v] w fun e w' => e = .returned (.bool (long18 rows)) ∧ Below w.heap.size w w':=by
 obtain ⟨a,cap,rfl,_,_,hc⟩:=hr
 have HC:=Lib.hid hc
 have HM:=Lib.hid hm
 clear hc hm
 go_enter Tryz.func8,Tryz.ntmps8
 go_wp2
 go_loopw [3,4] (fun n t wr => ∃ i x : Nat,i ≤ rows.length ∧ i ≤ 40 ∧ t = .int .i64 (i : Int) ∧ n = .int .i64 (x : Int) ∧ x ≤ i * 1759218604441600 ∧ Hid (x = t18 (rows.take i)) ∧ Hid (Below w.heap.size w wr)) (fun _ t _ => 40 - (intOf t).toNat)
 case atStart => exact ⟨0,0,by omega,by omega,rfl,rfl,by omega,rfl,Below.refl _ _⟩
 case round =>
  obtain ⟨i,x,hi,hi2,rfl,rfl,hx,hH,HB⟩:=hrel
  by_cases h0 : i < rows.length ∧ i < 40
  ·obtain ⟨h1,h2⟩:=h0
   obtain ⟨b1,o1,u,rfl,d1,hru⟩:=HC.out i h1
   obtain ⟨a2,c2,rfl,_,hc2⟩:=hru.open
   have HC2:=Lib.hid hc2
   have HD:=Lib.hid (Below.keeps HB.out d1)
   obtain ⟨hrl,hpl⟩:=HM.out rows[i] (List.getElem_mem h1)
   have HPL:=Lib.hid hpl
   have HT:=Lib.hid (t18_take rows i h1)
   obtain ⟨r,hr⟩ : ∃ r,r = rows[i]:=⟨_,rfl⟩
   rw [← hr] at HC2 HD hrl HPL HT
   clear hc2 hpl hr d1
   obtain ⟨Wr,hWr⟩ : ∃ Wr,Wr = wr:=⟨_,rfl⟩
   subst hWr
   have kk0 : (0 : Int) ≤ (i : Int):=by omega
   have kk1 : (i : Int) < (rows.length : Int):=by omega
   have kk2 : (i : Int) < 40:=by omega
   go_wp2
   go_loopw [3,5] (fun n t wx => ∃ k y : Nat,k ≤ r.length ∧ k ≤ 200 ∧ t = .int .i64 (k : Int) ∧ n = .int .i64 (y : Int) ∧ y ≤ x + k * 8796093022208 ∧ Hid (y = x + c18 (r.take k)) ∧ Hid (Below Wr.heap.size Wr wx)) (fun _ t _ => 200 - (intOf t).toNat)
   case atStart => exact ⟨0,x,by omega,by omega,rfl,rfl,by omega,by simp [Hid,c18],b_refl _⟩
   case round =>
    obtain ⟨k,y,hk,hk2,rfl,rfl,hy,hJ,HB2⟩:=hrel
    have dd:=Below.keeps HB2.out HD.out
    have jj0 : (0 : Int) ≤ (k : Int):=by omega
    by_cases h3 : k < r.length ∧ k < 200
    ·obtain ⟨h4,h5⟩:=h3
     obtain ⟨b3,o3,rfl,e1,e2⟩:=HC2.out k h4
     have e1':=Below.keeps (bt HB.out HB2.out) e1
     have e2':=Below.keeps (bt HB.out HB2.out) e2
     have jj1 : (k : Int) < (r.length : Int):=by omega
     have jj2 : (k : Int) < 200:=by omega
     have hp1:=(HPL.out r[k] (List.getElem_mem h4)).1
     have hp2:=(HPL.out r[k] (List.getElem_mem h4)).2
     have hw:=w18_le r[k] hp1 hp2
     have HS:=Lib.hid (c18_take r k h4)
     have HW:=Lib.hid (w18_int y r[k])
     clear e1 e2
     go_wp2
     go_quiet (fail)
     go_wp2
     refine ⟨⟨k + 1,y + w18 r[k],h4,h5,by go_num,v_int HW.out,bound18 hy hw,?_,bt HB2.out (Below.drewN' _ _)⟩,by simp [intOf]; omega⟩
     unfold Hid
     rw [HS.out,hJ.out,Nat.add_assoc]
    ·have hfin:=finc18 r k hk h3 hk2
     have HY:=Lib.hid (show y = t18 (rows.take (i + 1)) by rw [HT.out,hJ.out,hfin,hH.out])
     have HYB:=Lib.hid (bound18' hy hk2 hx)
     have HBW:=Lib.hid (HB.out.trans (HB2.out.mono HB.out.size))
     clear hfin
     by_cases h4 : k < r.length
     ·have jj1 : (k : Int) < (r.length : Int):=by omega
      have jj2 : ¬ (k : Int) < 200:=by omega
      clear h3
      go_wp2
      exact ⟨⟨i + 1,y,h1,h2,by go_num,rfl,HYB.out,HY.out,HBW.out⟩,by simp [intOf]; omega⟩
     ·have jj1 : ¬ (k : Int) < (r.length : Int):=by omega
      clear h3
      go_wp2
      exact ⟨⟨i + 1,y,h1,h2,by go_num,rfl,HYB.out,HY.out,HBW.out⟩,by simp [intOf]; omega⟩
  ·have hfin:=fin18 rows i hi h0 hi2
   have HX:=Lib.hid (show x = t18 (rows.take 40) by rw [← hfin]; exact hH.out)
   have HLG:=Lib.hid (show long18 rows = (decide (20 < rows.length) || decide (100 < x)) by rw [HX.out]; rfl)
   clear hfin hH
   by_cases h4 : 20 < rows.length
   ·have c3 : (20 : Int) < (rows.length : Int):=by omega
    have HL:=Lib.hid (show long18 rows = true by rw [HLG.out]; simp [h4])
    by_cases h1 : i < rows.length
    ·have c1 : (i : Int) < (rows.length : Int):=by omega
     have c2 : ¬ (i : Int) < 40:=by omega
     clear h0
     go_wp2
     go_ret
     exact ⟨by rw [HL.out]; rfl,HB.out⟩
    ·have c1 : ¬ (i : Int) < (rows.length : Int):=by omega
     clear h0
     go_wp2
     go_ret
     exact ⟨by rw [HL.out]; rfl,HB.out⟩
   ·have c1 : ¬ (i : Int) < (rows.length : Int):=by omega
    have c3 : ¬ (20 : Int) < (rows.length : Int):=by omega
    clear h0
    by_cases h5 : 100 < x
    ·have c4 : (100 : Int) < (x : Int):=by omega
     have HL:=Lib.hid (show long18 rows = true by rw [HLG.out]; simp [h5])
     go_wp2
     go_ret
     exact ⟨by rw [HL.out]; rfl,HB.out⟩
    ·have c4 : ¬ (100 : Int) < (x : Int):=by omega
     have HL:=Lib.hid (show long18 rows = false by rw [HLG.out]; simp [h4,h5])
     go_wp2
     go_ret
     exact ⟨by rw [HL.out]; rfl,HB.out⟩
def countJ (p : Int) : Jb:=⟨[],[(3,0),(2,1),(8,0),(23,0)],[],[(3,0),(7,0),(3,1),(7,0),(9,0),(8,0)],[],[(3,0),(3,1),(4,0)],p,100⟩
end Go.Proofs.YtehllcbnheicoaaGreatDoor
namespace Go.Proofs.YtehllcbnheicoaaGreatDoor
open Go.RowKit Oct
attribute [local irreducible] wpG
theorem mayJ_no {j : Jb} (h : ¬ mayJ j = true) : (checkJ j).2.2 ≠ 0:=fun q => h (by unfold mayJ; rw [q]; rfl)
theorem mayJ_yes {j : Jb} (h : mayJ j = true) : (checkJ j).2.2 = 0:=by
 unfold mayJ at h
 exact beq_iff_eq.1 h

end Go.Proofs.YtehllcbnheicoaaGreatDoor
namespace Go.Proofs.YtehllcbnheicoaaGreatDoor
abbrev b8 (n : Nat) : UInt8:=UInt8.ofNat n
end Go.Proofs.YtehllcbnheicoaaGreatDoor
namespace Go.Proofs.YtehllcbnheicoaaGreatDoor
open Go.RowKit Oct
attribute [local irreducible] wpG



theorem results_cell_cellC {P : Program} {fn : Func} {p q : Tmp} {ty tq : TypeId} {tmps : Array Value} {w : World} {v u : Value} {b c : Nat} (hr : fn.results = #[.cell p ty,.cell q tq]) (hp : tmps.getD p undef = .pointer (some ⟨b,0,none⟩))
  (hq : tmps.getD q undef = .pointer (some ⟨c,0,none⟩)) (hl : (loadVar ty ⟨b,0,none⟩).run P w = .ok v w) (hl2 : (loadVar tq ⟨c,0,none⟩).run P w = .ok u w) : (results fn tmps).run P w = .ok (.tuple #[v,u]) w:=by
 simp only [Array.getD_eq_getD_getElem?] at hp hq ⊢
 simp [results,hr,Sem.run_bind,Result.andThen,hp,hq,asAddr,hl,hl2]
theorem load_err {w : World} {b : Nat} {v0 : Value} (h0 : w.cell? ⟨b,0,none⟩ = some v0) : (loadVar 33 ⟨b,0,none⟩).run Tryz.prog w = .ok v0 w:=by
 go_simp
theorem litC {α : Type} (R : Rec α) (w : World) (l : List α) (cs : Array Value) (hcs : cs = (R.cells l).toArray) (n : Nat) (hn : n = l.length) (hm : n ≤ 1000) : R.Row (w.alloc (.cells cs R.e)) (.slice (some ⟨w.heap.size,0,none⟩) n n) l:=by
 subst hn hcs
 refine Rec.Own.row (base:=w.heap.size) ⟨by rw [Rec.cells_length],.inr ⟨w.heap.size,l.length,(R.cells l).toArray,rfl,Nat.le_refl _,?_,Nat.le_refl _,Nat.le_trans hm (by decide),?_,?_⟩⟩
 ·show (w.heap.push _)[w.heap.size]? = _
  rw [Array.getElem?_push_size]
 ·rw [List.size_toArray,Rec.cells_length]
 ·show (R.cells l).take (l.length * R.n) = _
  rw [List.take_of_length_le (by rw [Rec.cells_length]; exact Nat.le_refl _)]
end Go.Proofs.YtehllcbnheicoaaGreatDoor
