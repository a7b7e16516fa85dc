/- Lemmas for FoldTells, part 42: walks of the functions that it reaches, and the plain laws behind them. -/
import Derived.Test.YtehllcbnheicoaaGreatDoorFoldTellsK5
import Derived.Test.YtehllcbnheicoaaGreatDoorFoldTellsK6
import Derived.Test.YtehllcbnheicoaaGreatDoorFoldTellsK40
import Derived.Test.YtehllcbnheicoaaGreatDoorFoldTellsK41
set_option linter.unusedSimpArgs false
set_option linter.unusedVariables false
set_option maxRecDepth 100000
set_option maxHeartbeats 16000000
namespace Go.Proofs.YtehllcbnheicoaaGreatDoor
open Go.RowKit Oct
theorem rSortP_any (v : Value) (l : List PR) (w : World) (hr : RP w v l) (hl : l.length ≤ 1000000) :
  Calls Tryz.prog 117 #[v] w fun e w' => ∃ v',e = .returned v' ∧ OP w' w.heap.size v' (srt l) ∧ Below w.heap.size w w':=by
 obtain ⟨a,cap,rfl,_,hc⟩:=hr.open
 have HC:=Lib.hid hc
 clear hr hc
 go_enter Tryz.func117,Tryz.ntmps117
 go_wp2
 go_loopw [3,4] (fun o t wx => ∃ k : Nat,k ≤ l.length ∧ t = .int .i64 (k : Int) ∧ Hid (OP wx w.heap.size o (srt (l.take k))) ∧ Hid (Below w.heap.size w wx)) (fun _ t _ => l.length - (intOf t).toNat)
 case atStart => exact ⟨0,by omega,rfl,OP.nil _ _,b_refl _⟩
 case round =>
  obtain ⟨k,hk,rfl,HO,HB⟩:=hrel
  obtain ⟨ao,co,rfl⟩:=owns_slice HO.out
  by_cases hkl : k < l.length
  ·have k0 : (0 : Int) ≤ (k : Int):=by omega
   have k1 : (k : Int) < (l.length : Int):=by omega
   obtain ⟨bl,ol,rfl,d1,d2⟩:=HC.out k hkl
   have HD1:=Lib.hid d1
   have HD2:=Lib.hid d2
   have HSN:=Lib.hid (show srt (l.take (k + 1)) = ins l[k] (srt (l.take k)) by rw [List.take_succ_eq_append_getElem hkl,srt_snoc])
   have HSO:=Lib.hid (srt_sorted (l.take k))
   have HRL:=Lib.hid (show (srt (l.take k)).length ≤ 1000000 by rw [srt_length,List.length_take]; omega)
   obtain ⟨p,hp⟩ : ∃ p,p = l[k]:=⟨_,rfl⟩
   rw [← hp] at HD1 HD2 HSN
   obtain ⟨R,hR⟩ : ∃ R,R = srt (l.take k):=⟨_,rfl⟩
   rw [← hR] at HO HSN HSO HRL ⊢
   clear hp hR d1 d2
   have hrp:=HO.out.reads
   obtain ⟨_,_,hv,_,hcr⟩:=hrp.open
   injection hv with e1 _ e3
   subst e1 e3
   have HCR:=Lib.hid hcr
   have HRP:=Lib.hid hrp
   have hRL:=HRL.out
   clear hcr hrp
   obtain ⟨Wr,hWr⟩ : ∃ Wr,Wr = wr:=⟨_,rfl⟩
   subst hWr
   go_wp2
   go_loopw [5] (fun t wx => ∃ j : Nat,j ≤ R.length ∧ t = .int .i64 (j : Int) ∧ Hid (∀ i (h : i < R.length),j ≤ i → lt p.1 R[i].1 = true) ∧ Hid (Below Wr.heap.size Wr wx)) (fun t _ => (intOf t).toNat)
   case atStart => exact ⟨R.length,by omega,rfl,fun i h h' => by omega,b_refl _⟩
   case round =>
    obtain ⟨j,hj,rfl,HJ,HX⟩:=hrel
    have e1:=Below.keeps HX.out (Below.keeps HB.out HD1.out)
    by_cases hj0 : 0 < j
    ·obtain ⟨i,rfl⟩ : ∃ i,j = i + 1:=⟨j - 1,by omega⟩
     have hiR : i < R.length:=by omega
     obtain ⟨b,off,rfl,d3,_⟩:=HCR.out i hiR
     replace d3:=Below.keeps HX.out d3
     have i0 : (0 : Int) ≤ (i : Int):=by omega
     have i1 : (i : Int) < (R.length : Int):=by omega
     have c0 : (0 : Int) < ((i + 1 : Nat) : Int):=by omega
     have ei : (((i + 1 : Nat) : Int) - 1) = (i : Int):=by omega
     cases hlt : lt p.1 R[i].1 with
     | true =>
      have h2:=lt_asymm' hlt
      have h3 : (R[i].1 == p.1) = false:=by
       rw [beq_eq_false_iff_ne]; intro e; rw [e,lt_irr] at hlt; cases hlt
      have HJ2:=Lib.hid (show ∀ i' (h : i' < R.length),i ≤ i' → lt p.1 R[i'].1 = true from fun i' h h' => by
       rcases Nat.lt_or_ge i i' with h4 | h4
       ·exact HJ.out i' h (by omega)
       ·obtain rfl : i' = i:=by omega
        exact hlt)
      have HLT:=Lib.hid hlt
      clear hlt
      unfold lt at h2
      go_wp2
      go_quiet (fail)
      go_wp2
      refine ⟨?_,by simp [intOf]⟩
      first
       | exact ⟨i,by omega,rfl,HJ2.out,bt HX.out (Below.drewN' _ _)⟩
       | ((repeat apply Exists.intro); exact ⟨⟨i,by omega,rfl,HJ2.out,bt HX.out (Below.drewN' _ _)⟩,rfl⟩)
     | false =>
      have HINS:=Lib.hid (show srt (l.take (k + 1)) = R.take (i + 1) ++ p :: R.drop (i + 1) by
       rw [HSN.out]
       exact ins_at p R (i + 1) (by omega) HSO.out HJ.out (fun _ h' => hlt))
      have hJR : i + 1 ≤ R.length:=by omega
      clear HJ
      cases hgt : lt R[i].1 p.1 with
      | true =>
       clear hlt
       unfold lt at hgt
       go_wp2
       go_quiet (fail)
       obtain ⟨wz,hwz⟩ : ∃ wz,wz = wr.drewN nq:=⟨_,rfl⟩
       have HXw:=Lib.hid (show Below Wr.heap.size Wr wz by rw [hwz]; exact bt HX.out (Below.drewN' _ _))
       rw [← hwz]
       obtain ⟨J,hJ⟩ : ∃ J,J = i + 1:=⟨_,rfl⟩
       have HJE:=Lib.hid hJ
       rw [← hJ] at HINS hJR ⊢
       clear hwz hgt d3 e1 hJ
       have HRPw:=Lib.hid (HRP.out.below HXw.out)
       obtain ⟨A1,C1,hrun1,hrp1⟩:=HRPw.out.headRun J (J : Int) rfl hJR
       have HRP1:=Lib.hid hrp1
       have hJ0 : (0 : Int) ≤ (J : Int):=by omega
       have hJ1 : (J : Int) ≤ (R.length : Int):=by omega
       clear hrp1
       have hlT : (R.take J).length = J:=by rw [List.length_take]; omega
       have HLT2:=Lib.hid hlT
       have HRP1':=Lib.hid (show RP wz (.slice A1 (R.take J).length C1) (R.take J) by rw [hlT]; exact HRP1.out)
       have HBw:=Lib.hid (show Below w.heap.size w wz from bt HB.out HXw.out)
       clear hlT
       go_wp2_with (at_builtin; go_must (refine appendP wz rfl _ _ 37 rfl Tryz.underlying37 wz.heap.size _ [] rfl (OP.nil _ _) _ (R.take J) rfl HRP1.out (by rw [HLT2.out]; simp; omega) (Nat.le_refl _) ?_))
       intro v7 w7 hown7 hB7
       obtain ⟨a7,c7,rfl⟩:=owns_slice hown7
       have HO7:=Lib.hid (show OP w7 wz.heap.size _ (R.take J) from hown7)
       have HB7:=Lib.hid hB7
       have hs7:=hB7.size
       have e1:=Below.keeps (bt HBw.out HB7.out) HD1.out
       have e2:=Below.keeps (bt HBw.out HB7.out) HD2.out
       clear hown7 hB7 hrun1
       go_wp2_with (at_builtin; go_must (refine append1P w7 p rfl _ _ 37 rfl Tryz.underlying37 wz.heap.size _ (R.take J) rfl HO7.out _ rfl (by rw [HLT2.out]; omega) hs7 ?_))
       intro v8 w8 hown8 hB8
       obtain ⟨a8,c8,rfl⟩:=owns_slice hown8
       have HO8:=Lib.hid hown8
       have HB8:=Lib.hid (HB7.out.trans hB8)
       have hs8:=HB8.out.size
       obtain ⟨A2,C2,hrun2,hrp2⟩:=(HRPw.out.below HB8.out).cutRun J (J : Int) rfl hJR
       have HRP2:=Lib.hid hrp2
       clear hown8 hB8 e1 e2 hrp2
       go_wp2_with (at_builtin; go_must (refine appendP w8 rfl _ _ 37 rfl Tryz.underlying37 wz.heap.size _ (R.take J ++ [p]) rfl HO8.out _ (R.drop J) rfl HRP2.out (by rw [List.length_append,HLT2.out,List.length_drop]; simp; omega) hs8 ?_))
       intro v9 w9 hown9 hB9
       have HO9:=Lib.hid (show OP w9 w.heap.size v9 (srt (l.take (k + 1))) by
        rw [HINS.out]
        have:=OP.mono hown9 (show w.heap.size ≤ wz.heap.size from HBw.out.size)
        simpa [List.append_assoc] using this)
       have HB9:=Lib.hid (show Below w.heap.size w w9 from bt HBw.out (HB8.out.trans hB9))
       clear hown9 hB9 hrun2
       go_wp2
       refine ⟨?_,by simp [intOf]; omega⟩
       first
        | exact ⟨k + 1,by omega,by go_num,HO9.out,HB9.out⟩
        | ((repeat apply Exists.intro); exact ⟨⟨k + 1,by omega,by go_num,HO9.out,HB9.out⟩,rfl⟩)
      | false =>
       have heq : R[i].1 = p.1:=by
        have:=gt_eq R[i].1 p.1
        rw [hgt,hlt,Bool.false_or] at this
        have h' : (R[i].1 == p.1) = true:=by simpa using this
        simpa using h'
       have h3 : (R[i].1 == p.1) = true:=by simpa using heq
       clear hlt heq
       unfold lt at hgt
       go_wp2
       go_quiet (fail)
       obtain ⟨wz,hwz⟩ : ∃ wz,wz = wr.drewN nq:=⟨_,rfl⟩
       have HXw:=Lib.hid (show Below Wr.heap.size Wr wz by rw [hwz]; exact bt HX.out (Below.drewN' _ _))
       rw [← hwz]
       obtain ⟨J,hJ⟩ : ∃ J,J = i + 1:=⟨_,rfl⟩
       have HJE:=Lib.hid hJ
       rw [← hJ] at HINS hJR ⊢
       clear hwz hgt h3 d3 e1 hJ
       have HRPw:=Lib.hid (HRP.out.below HXw.out)
       obtain ⟨A1,C1,hrun1,hrp1⟩:=HRPw.out.headRun J (J : Int) rfl hJR
       have HRP1:=Lib.hid hrp1
       have hJ0 : (0 : Int) ≤ (J : Int):=by omega
       have hJ1 : (J : Int) ≤ (R.length : Int):=by omega
       clear hrp1
       have hlT : (R.take J).length = J:=by rw [List.length_take]; omega
       have HLT2:=Lib.hid hlT
       have HRP1':=Lib.hid (show RP wz (.slice A1 (R.take J).length C1) (R.take J) by rw [hlT]; exact HRP1.out)
       have HBw:=Lib.hid (show Below w.heap.size w wz from bt HB.out HXw.out)
       clear hlT
       go_wp2_with (at_builtin; go_must (refine appendP wz rfl _ _ 37 rfl Tryz.underlying37 wz.heap.size _ [] rfl (OP.nil _ _) _ (R.take J) rfl HRP1.out (by rw [HLT2.out]; simp; omega) (Nat.le_refl _) ?_))
       intro v7 w7 hown7 hB7
       obtain ⟨a7,c7,rfl⟩:=owns_slice hown7
       have HO7:=Lib.hid (show OP w7 wz.heap.size _ (R.take J) from hown7)
       have HB7:=Lib.hid hB7
       have hs7:=hB7.size
       have e1:=Below.keeps (bt HBw.out HB7.out) HD1.out
       have e2:=Below.keeps (bt HBw.out HB7.out) HD2.out
       clear hown7 hB7 hrun1
       go_wp2_with (at_builtin; go_must (refine append1P w7 p rfl _ _ 37 rfl Tryz.underlying37 wz.heap.size _ (R.take J) rfl HO7.out _ rfl (by rw [HLT2.out]; omega) hs7 ?_))
       intro v8 w8 hown8 hB8
       obtain ⟨a8,c8,rfl⟩:=owns_slice hown8
       have HO8:=Lib.hid hown8
       have HB8:=Lib.hid (HB7.out.trans hB8)
       have hs8:=HB8.out.size
       obtain ⟨A2,C2,hrun2,hrp2⟩:=(HRPw.out.below HB8.out).cutRun J (J : Int) rfl hJR
       have HRP2:=Lib.hid hrp2
       clear hown8 hB8 e1 e2 hrp2
       go_wp2_with (at_builtin; go_must (refine appendP w8 rfl _ _ 37 rfl Tryz.underlying37 wz.heap.size _ (R.take J ++ [p]) rfl HO8.out _ (R.drop J) rfl HRP2.out (by rw [List.length_append,HLT2.out,List.length_drop]; simp; omega) hs8 ?_))
       intro v9 w9 hown9 hB9
       have HO9:=Lib.hid (show OP w9 w.heap.size v9 (srt (l.take (k + 1))) by
        rw [HINS.out]
        have:=OP.mono hown9 (show w.heap.size ≤ wz.heap.size from HBw.out.size)
        simpa [List.append_assoc] using this)
       have HB9:=Lib.hid (show Below w.heap.size w w9 from bt HBw.out (HB8.out.trans hB9))
       clear hown9 hB9 hrun2
       go_wp2
       refine ⟨?_,by simp [intOf]; omega⟩
       first
        | exact ⟨k + 1,by omega,by go_num,HO9.out,HB9.out⟩
        | ((repeat apply Exists.intro); exact ⟨⟨k + 1,by omega,by go_num,HO9.out,HB9.out⟩,rfl⟩)
    ·have HINS:=Lib.hid (show srt (l.take (k + 1)) = R.take j ++ p :: R.drop j by
      rw [HSN.out]
      exact ins_at p R j hj HSO.out HJ.out (fun h _ => by omega))
     have hJR : j ≤ R.length:=hj
     have c0 : ¬ (0 : Int) < (j : Int):=by omega
     go_wp2
     go_quiet (fail)
     obtain ⟨wz,hwz⟩ : ∃ wz,wz = wr.drewN nq:=⟨_,rfl⟩
     have HXw:=Lib.hid (show Below Wr.heap.size Wr wz by rw [hwz]; exact bt HX.out (Below.drewN' _ _))
     rw [← hwz]
     obtain ⟨J,hJ⟩ : ∃ J,J = j:=⟨_,rfl⟩
     have HJE:=Lib.hid hJ
     rw [← hJ] at HINS hJR ⊢
     clear hwz e1 hj hj0 HJ c0 hJ
     have HRPw:=Lib.hid (HRP.out.below HXw.out)
     obtain ⟨A1,C1,hrun1,hrp1⟩:=HRPw.out.headRun J (J : Int) rfl hJR
     have HRP1:=Lib.hid hrp1
     have hJ0 : (0 : Int) ≤ (J : Int):=by omega
     have hJ1 : (J : Int) ≤ (R.length : Int):=by omega
     clear hrp1
     have hlT : (R.take J).length = J:=by rw [List.length_take]; omega
     have HLT2:=Lib.hid hlT
     have HRP1':=Lib.hid (show RP wz (.slice A1 (R.take J).length C1) (R.take J) by rw [hlT]; exact HRP1.out)
     have HBw:=Lib.hid (show Below w.heap.size w wz from bt HB.out HXw.out)
     clear hlT
     go_wp2_with (at_builtin; go_must (refine appendP wz rfl _ _ 37 rfl Tryz.underlying37 wz.heap.size _ [] rfl (OP.nil _ _) _ (R.take J) rfl HRP1.out (by rw [HLT2.out]; simp; omega) (Nat.le_refl _) ?_))
     intro v7 w7 hown7 hB7
     obtain ⟨a7,c7,rfl⟩:=owns_slice hown7
     have HO7:=Lib.hid (show OP w7 wz.heap.size _ (R.take J) from hown7)
     have HB7:=Lib.hid hB7
     have hs7:=hB7.size
     have e1:=Below.keeps (bt HBw.out HB7.out) HD1.out
     have e2:=Below.keeps (bt HBw.out HB7.out) HD2.out
     clear hown7 hB7 hrun1
     go_wp2_with (at_builtin; go_must (refine append1P w7 p rfl _ _ 37 rfl Tryz.underlying37 wz.heap.size _ (R.take J) rfl HO7.out _ rfl (by rw [HLT2.out]; omega) hs7 ?_))
     intro v8 w8 hown8 hB8
     obtain ⟨a8,c8,rfl⟩:=owns_slice hown8
     have HO8:=Lib.hid hown8
     have HB8:=Lib.hid (HB7.out.trans hB8)
     have hs8:=HB8.out.size
     obtain ⟨A2,C2,hrun2,hrp2⟩:=(HRPw.out.below HB8.out).cutRun J (J : Int) rfl hJR
     have HRP2:=Lib.hid hrp2
     clear hown8 hB8 e1 e2 hrp2
     go_wp2_with (at_builtin; go_must (refine appendP w8 rfl _ _ 37 rfl Tryz.underlying37 wz.heap.size _ (R.take J ++ [p]) rfl HO8.out _ (R.drop J) rfl HRP2.out (by rw [List.length_append,HLT2.out,List.length_drop]; simp; omega) hs8 ?_))
     intro v9 w9 hown9 hB9
     have HO9:=Lib.hid (show OP w9 w.heap.size v9 (srt (l.take (k + 1))) by
      rw [HINS.out]
      have:=OP.mono hown9 (show w.heap.size ≤ wz.heap.size from HBw.out.size)
      simpa [List.append_assoc] using this)
     have HB9:=Lib.hid (show Below w.heap.size w w9 from bt HBw.out (HB8.out.trans hB9))
     clear hown9 hB9 hrun2
     go_wp2
     refine ⟨?_,by simp [intOf]; omega⟩
     first
      | exact ⟨k + 1,by omega,by go_num,HO9.out,HB9.out⟩
      | ((repeat apply Exists.intro); exact ⟨⟨k + 1,by omega,by go_num,HO9.out,HB9.out⟩,rfl⟩)
  ·obtain rfl : k = l.length:=by omega
   have HF:=Lib.hid (List.take_length (l:=l))
   go_wp2
   go_ret
   have hx : OP wr w.heap.size (.slice ao (srt (l.take l.length)).length co) (srt l):=by
    have:=HO.out
    simp only [HF.out] at this ⊢
    exact this
   exact ⟨_,rfl,hx,HB.out⟩
theorem append1K {P : Program} {ops : Array Oper} {rest : List Oper} {o : Oper} {a : Act} {Q : Exit → Act → World → Prop} (wr : World) (news : List Value) (e : TypeId) (hgd : o.guard = none) (s x : Operand) (t : TypeId)
  (ho : o.op = .call { callee:=.builtin .append,args:=#[s,x],argTypes:=#[t,t] })
  (base : Nat) (z : Value) (size bytes : Nat) (ht : P.underlying t = some (.slice e)) (hinfo : (P.info? e).map (fun i => (i.zero,i.size,i.bytes)) = some (some z,size,bytes))
  (hzs : z.cells.size = size) (hsz : 0 < size) (v : Value) (n : Nat) (xs : List Value) (hown : wr.ownsRow base e size v n xs) (hs : a.eval s = v)
  (c : Nat) (hx : a.eval x = .slice (some ⟨wr.heap.size,0,none⟩) 1 c) (hl : news.length = size) (h1 : ∀ u ∈ news,u.oneCell' = true) (hby : 0 < bytes)
  (hbytes : (n + 1) * bytes ≤ 140737488355328) (hbase : base ≤ wr.heap.size)
  (h : ∀ g cap w',w'.ownsRow base e size (.slice (some ⟨g,0,none⟩) (n + 1) cap) (n + 1) (xs ++ news) → (∀ j,j < wr.heap.size → v.ownBlock ≠ some j → w'.heap[j]? = wr.heap[j]?) → (v.ownBlock = some g ∨ wr.heap.size ≤ g) → Below base wr w' → wr.heap.size ≤ w'.heap.size →
   wpList P ops Q rest (a.put o.dst (.slice (some ⟨g,0,none⟩) (n + 1) cap)) w') : wpList P ops Q (o :: rest) a (wr.alloc (.cells news.toArray e)):=by
 obtain ⟨i,hi,hz,hi1,hi2⟩:=info_parts hinfo
 have hn : n + 1 ≤ (n + 1) * bytes:=Nat.le_mul_of_pos_right _ hby
 refine wpList_append_lies _ hgd s x t ho base e i z size bytes ht hi hz hi1 hi2 hzs hsz v n xs hs (hown.alloc _) ⟨wr.heap.size,0,none⟩ 1 c news hx (by simpa using hl) ?_ h1 (by decide) (by unfold maxLen; omega) hbytes (by simp; omega) _ rfl ?_
 ·intro j u hj
  have : j < news.length:=by
   rcases Nat.lt_or_ge j news.length with h | h
   ·exact h
   ·simp [List.getElem?_eq_none h] at hj
  rw [Addr.add_lit,Nat.zero_add,World.cell?_alloc_new]
  simpa using hj
 ·intro g cap w' h2 h3 h4 h5
  have hB : Below base wr w':=((Below.refl base wr).alloc hbase _).grown h3 (by simp; omega) (fun k hk => (hown.lt k hk).1)
  refine h g cap w' h2 (fun j hj hne => ?_) ?_ hB hB.size
  ·rw [h3.block j (by simp; omega) (fun e => hne e.symm)]
   exact Below.heap_alloc _ _ _ hj
  ·rcases h4 with h4 | h4
   ·exact .inl h4
   ·exact .inr (by simp at h4; omega)
theorem RP.frame {w w' : World} {u : Value} {l : List PR} (h : RP w u l) (hb : ∀ b,u.ownBlock = some b → w'.heap[b]? = w.heap[b]?) : RP w' u l:=by
 obtain ⟨⟨a,cap,rfl,hn,hc⟩,h2⟩:=h
 refine ⟨⟨a,cap,rfl,hn,fun j x hj => ?_⟩,h2⟩
 obtain ⟨b,off,rfl,hx⟩:=hc j x hj
 exact ⟨b,off,rfl,(World.cell?_of_block (w:=w) (hb b rfl)).trans hx⟩
def GRP (w : World) (base : Nat) (v : Value) (Z : List (List PR)) : Prop:=∃ CS : List Value,w.ownsRow base 37 1 v Z.length CS ∧
 ∀ i (h : i < CS.length) (h' : i < Z.length),RP w CS[i] Z[i] ∧ ∀ b,CS[i].ownBlock = some b → b < w.heap.size ∧ v.ownBlock ≠ some b
theorem GRP.below {w w' : World} {base : Nat} {v : Value} {Z : List (List PR)} (h : GRP w base v Z) (hB : Below w.heap.size w w') : GRP w' base v Z:=by
 obtain ⟨CS,h1,h2⟩:=h
 exact ⟨CS,ownsRow_below h1 hB,fun i h h' => ⟨(h2 i h h').1.below hB,fun b hb => ⟨Nat.lt_of_lt_of_le ((h2 i h h').2 b hb).1 hB.size,((h2 i h h').2 b hb).2⟩⟩⟩
theorem GRP.nil (w : World) (base : Nat) : GRP w base (.slice none 0 0) []:=⟨[],World.ownsRow_nil _ _ _ _,fun i h _ => absurd h (by simp)⟩
theorem GRP.slice {w : World} {base : Nat} {v : Value} {Z : List (List PR)} (h : GRP w base v Z) : ∃ a c,v = .slice a Z.length c:=by
 obtain ⟨CS,h1,_⟩:=h
 exact owns_slice h1
theorem GRP.rr {w : World} {base : Nat} {v : Value} {Z : List (List PR)} (h : GRP w base v Z) : RR w v Z:=by
 obtain ⟨CS,h1,h2⟩:=h
 have hl : CS.length = Z.length:=by have:=h1.1; omega
 obtain ⟨⟨a,cap,rfl,hn,hc⟩,hcap⟩ : Reads w v Z.length CS ∧ ∃ a cap,v = .slice a Z.length cap ∧ Z.length ≤ cap:=by
  refine ⟨Reads.owned h1,?_⟩
  rcases h1.2 with ⟨hv,h0⟩ | ⟨g,cap,cur,hv,_,_,hc,_⟩
  ·exact ⟨none,0,by rw [hv,h0],by omega⟩
  ·exact ⟨_,_,hv,hc⟩
 obtain ⟨a',cap',hv,hle⟩:=hcap
 injection hv with _ _ e3
 subst e3
 refine ⟨a,cap,rfl,hle,hn,fun k hk => ?_⟩
 obtain ⟨b,off,ha,hu⟩:=hc k CS[k] (List.getElem?_eq_getElem (by omega))
 exact ⟨b,off,CS[k],ha,hu,(h2 k (by omega) hk).1⟩
theorem GRP.snoc {w w' : World} {base : Nat} {v v' u : Value} {Z : List (List PR)} {g : List PR} {CS : List Value} {gb cap : Nat} (h2 : ∀ i (h : i < CS.length) (h' : i < Z.length),RP w CS[i] Z[i] ∧ ∀ b,CS[i].ownBlock = some b → b < w.heap.size ∧ v.ownBlock ≠ some b)
  (hl : CS.length = Z.length) (hu : RP w u g) (hub : ∀ b,u.ownBlock = some b → b < w.heap.size ∧ v.ownBlock ≠ some b) (hv : v' = .slice (some ⟨gb,0,none⟩) (Z.length + 1) cap)
  (hown : w'.ownsRow base 37 1 v' (Z.length + 1) (CS ++ [u])) (hfr : ∀ j,j < w.heap.size → v.ownBlock ≠ some j → w'.heap[j]? = w.heap[j]?) (hg : v.ownBlock = some gb ∨ w.heap.size ≤ gb) (hsz : w.heap.size ≤ w'.heap.size) : GRP w' base v' (Z ++ [g]):=by
 have key : ∀ (x : Value) (r : List PR),RP w x r → (∀ b,x.ownBlock = some b → b < w.heap.size ∧ v.ownBlock ≠ some b) → RP w' x r ∧ ∀ b,x.ownBlock = some b → b < w'.heap.size ∧ v'.ownBlock ≠ some b:=by
  intro x r hx hb
  refine ⟨hx.frame fun b h => hfr b (hb b h).1 (hb b h).2,fun b h => ⟨Nat.lt_of_lt_of_le (hb b h).1 hsz,?_⟩⟩
  subst hv
  intro e
  have e2 : gb = b:=by simpa [Value.ownBlock] using e
  subst e2
  rcases hg with hg | hg
  ·exact (hb gb h).2 hg
  ·exact absurd (hb gb h).1 (by omega)
 refine ⟨CS ++ [u],by rw [List.length_append]; exact hown,fun i h h' => ?_⟩
 by_cases hi : i < CS.length
 ·rw [List.getElem_append_left hi,List.getElem_append_left (by omega)]
  exact key _ _ (h2 i hi (by omega)).1 (h2 i hi (by omega)).2
 ·have e : i = CS.length:=by simp at h; omega
  subst e
  rw [List.getElem_append_right (by omega),List.getElem_append_right (by omega)]
  simp only [Nat.sub_self,hl,List.getElem_cons_zero]
  exact key _ _ hu hub
theorem RP.subRun {w : World} {a : Option Addr} {cap : Nat} {l : List PR} (h : RP w (.slice a l.length cap) l) (lo hi : Nat) (h1 : lo ≤ hi) (h2 : hi ≤ l.length) :
  ∃ A C,(∀ wx,(Instr.slice 37 (.slice a l.length cap) (some (.int .i64 (lo : Int))) (some (.int .i64 (hi : Int))) none).run Tryz.prog wx = .ok (.slice A (hi - lo) C) wx) ∧ RP w (.slice A (hi - lo) C) ((l.drop lo).take (hi - lo)):=by
 obtain ⟨_,a',cap',hv,hle⟩:=id h
 injection hv with _ _ h3
 subst h3
 refine ⟨_,_,fun wx => ?_,h.sub lo hi h1 h2⟩
 rw [run_slice_lh wx 37 a l.length cap (by kernel_rfl) .i64 .i64 lo hi (by omega) (by omega) (by omega)]
 have he : (sizeOf (Tryz.prog.elem 37)).run Tryz.prog wx = .ok 2 wx:=by kernel_rfl
 rw [he]
 simp [Result.andThen,sliced]
theorem infoRowG : (Tryz.prog.info? 37).map (fun i => (i.zero,i.size,i.bytes)) = some (some (.slice none 0 0),1,24):=by kernel_rfl
theorem grp_more {A : List PR} {Z : List (List PR)} {f i : Nat} (hf : f < i) (hi : i ≤ A.length) (hZ : Z ++ grp (A.drop f) = grp A) (hin : ∀ j (h : j < A.length),f ≤ j → j < i → A[j].1 = (A[f]'(by omega)).1) (hout : ∀ (h : i < A.length),A[i].1 ≠ (A[f]'(by omega)).1) :
  (Z ++ [(A.drop f).take (i - f)]) ++ grp (A.drop i) = grp A:=by
 have hh : i - f = head1 (A.drop f):=by
  refine head1_eq (A.drop f) (by simp; omega) (i - f) (by omega) (by simp; omega) (fun j hj => ?_) (fun hk => ?_)
  ·simp only [List.getElem_drop,Nat.add_zero]
   exact hin (f + j) (by omega) (by omega) (by omega)
  ·simp only [List.getElem_drop,Nat.add_zero,show f + (i - f) = i by omega]
   exact hout (by simp at hk; omega)
 rw [← hZ,grp_step (A.drop f) (by simp; omega),← hh,List.drop_drop,show f + (i - f) = i by omega,List.append_assoc]
 rfl
end Go.Proofs.YtehllcbnheicoaaGreatDoor
