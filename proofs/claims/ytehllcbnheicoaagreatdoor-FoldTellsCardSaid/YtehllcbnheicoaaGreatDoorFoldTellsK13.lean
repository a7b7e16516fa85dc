/- Lemmas for FoldTells, part 13: walks of the functions that it reaches, and the plain laws behind them. -/
import Derived.Laws.MakeOwn
import Derived.Test.YtehllcbnheicoaaGreatDoorFoldTellsK3
import Derived.Test.YtehllcbnheicoaaGreatDoorFoldTellsK12
set_option linter.unusedSimpArgs false
set_option linter.unusedVariables false
set_option maxRecDepth 100000
set_option maxHeartbeats 16000000
namespace Go.Proofs.YtehllcbnheicoaaGreatDoor
open Go.RowKit Oct
attribute [local irreducible] wpG
theorem recIns_open {w : World} {v : Value} {l : List VI} (h : recIns.Row w v l) : ∃ a cap,v = .slice a l.length cap ∧ l.length ≤ cap ∧ ∀ k (hk : k < l.length),∃ b off,a = some ⟨b,off,none⟩ ∧ w.cell? ⟨b,off + k * 2,none⟩ = some (.int .u8 (l[k].1.toNat : Int)) ∧ w.cell? ⟨b,off + k * 2 + 1,none⟩ = some (.int .u8 (l[k].2.toNat : Int)):=by
 obtain ⟨a,cap,hv,hle,hc⟩:=h.open
 refine ⟨a,cap,hv,hle,fun k hk => ?_⟩
 obtain ⟨b,off,ha,hu⟩:=hc k hk
 exact ⟨b,off,ha,hu 0 _ rfl,hu 1 _ rfl⟩
theorem all_false {α : Type} {f : α → Bool} {l : List α} (k : Nat) (h : k < l.length) (hk : f l[k] = false) : l.all f = false:=by
 rw [List.all_eq_false]
 exact ⟨l[k],List.getElem_mem h,by rw [hk]; simp⟩
theorem all_true {α : Type} {f : α → Bool} {l : List α} (h : ∀ k (hk : k < l.length),f l[k] = true) : l.all f = true:=by
 rw [List.all_eq_true]
 intro t ht
 obtain ⟨k,hk,rfl⟩:=List.getElem_of_mem ht
 exact h k hk
theorem index_long (v : Value) (l : List (List UInt8)) (w : World) (hr : recS.Row w v l) (hl : l.length ≤ 140737488355328) (hm : ∀ s ∈ l,s.length ≤ 140737488355328) :
  Calls Tryz.prog 194 #[v,.func (.func 170) #[] #[]] w fun e w' => (∃ i : Int,e = .returned (.int .i64 i) ∧ decide (0 ≤ i) = !l.all longOk) ∧ Below w.heap.size w w':=by
 obtain ⟨a,cap,rfl,_,hc⟩:=recS_open hr
 have HC:=Lib.hid hc
 have HM:=Lib.hid hm
 clear hc hr hm
 go_enter Tryz.func194,Tryz.ntmps194
 go_wp2
 go_loopw [8] (fun t wr => ∃ i : Nat,i ≤ l.length ∧ t = .int .i64 (i : Int) ∧ Hid (∀ j (hj : j < l.length),j < i → longOk l[j] = true) ∧ Hid (Below w.heap.size w wr)) (fun t _ => l.length - (intOf t).toNat)
 case atStart => exact ⟨0,by omega,rfl,fun j _ h => absurd h (by omega),Below.refl _ _⟩
 case round =>
  obtain ⟨i,hi,rfl,hH,hB⟩:=hrel
  by_cases h0 : i < l.length
  ·obtain ⟨b,off,rfl,c0⟩:=HC.out i h0
   have e0:=Below.keeps hB.out c0
   clear c0
   have kk0 : (0 : Int) ≤ (i : Int):=by omega
   have kk1 : (i : Int) < (l.length : Int):=by omega
   have hml:=HM.out l[i] (List.getElem_mem h0)
   have HBD:=Lib.hid (long_any l[i] wr hml)
   clear hml
   obtain ⟨q,hq⟩ : ∃ q,q = longOk l[i]:=⟨_,rfl⟩
   rw [← hq] at HBD
   have HQ:=Lib.hid hq
   clear hq
   cases q with
   | false =>
    go_wp2_with fail
    refine HBD.out.mono ?_
    rintro e w1 ⟨rfl,hB1⟩
    have HB1:=Lib.hid (bt hB.out hB1)
    clear hB1
    go_wp2
    go_ret
    exact ⟨⟨_,rfl,by rw [all_false i h0 HQ.out.symm]; simp⟩,HB1.out⟩
   | true =>
    go_wp2_with fail
    refine HBD.out.mono ?_
    rintro e w1 ⟨rfl,hB1⟩
    have HB1:=Lib.hid (bt hB.out hB1)
    clear hB1
    go_wp2
    go_roundw
    case rel =>
     refine ⟨i + 1,by omega,by go_num,?_,HB1.out⟩
     intro j hj hji
     by_cases e : j = i
     ·subst e; exact HQ.out.symm
     ·exact hH.out j hj (by omega)
    case measure => simp [intOf]; omega
  ·have HF:=Lib.hid (all_true (f:=longOk) fun k hk => hH.out k hk (by omega))
   obtain rfl : i = l.length:=by omega
   go_wp2
   go_ret
   exact ⟨⟨_,rfl,by rw [HF.out]; rfl⟩,hB.out⟩
theorem contains_long (v : Value) (l : List (List UInt8)) (w : World) (hr : recS.Row w v l) (hl : l.length ≤ 140737488355328) (hm : ∀ s ∈ l,s.length ≤ 140737488355328) :
  Calls Tryz.prog 173 #[v,.func (.func 170) #[] #[]] w fun e w' => e = .returned (.bool (!l.all longOk)) ∧ Below w.heap.size w w':=by
 have hix:=index_long v l w hr hl hm
 obtain ⟨a,cap,rfl,_,_⟩:=recS_open hr
 have HIX:=Lib.hid hix
 clear hix hr hm
 go_enter Tryz.func173,Tryz.ntmps173
 go_wp2_with fail
 refine HIX.out.mono ?_
 rintro e w1 ⟨⟨i,rfl,hi⟩,hB1⟩
 have HB1:=Lib.hid hB1
 clear hB1
 obtain ⟨q,hq⟩ : ∃ q,q = !l.all longOk:=⟨_,rfl⟩
 rw [← hq] at hi
 have HQ:=Lib.hid hq
 clear hq
 cases q with
 | false =>
  have hi' : ¬ (0 : Int) ≤ i:=of_decide_eq_false hi
  clear hi
  go_wp2
  go_ret
  exact ⟨by rw [← HQ.out]; simp [hi'],HB1.out⟩
 | true =>
  have hi' : (0 : Int) ≤ i:=of_decide_eq_true hi
  clear hi
  go_wp2
  go_ret
  exact ⟨by rw [← HQ.out]; simp [hi'],HB1.out⟩
theorem index_badIns (v : Value) (l : List VI) (w : World) (hr : recIns.Row w v l) (hl : l.length ≤ 140737488355328) :
  Calls Tryz.prog 195 #[v,.func (.func 171) #[] #[]] w fun e w' => (∃ i : Int,e = .returned (.int .i64 i) ∧ decide (0 ≤ i) = !l.all insOk) ∧ Below w.heap.size w w':=by
 obtain ⟨a,cap,rfl,_,hc⟩:=recIns_open hr
 have HC:=Lib.hid hc
 clear hc hr
 go_enter Tryz.func195,Tryz.ntmps195
 go_wp2
 go_loopw [8] (fun t wr => ∃ i : Nat,i ≤ l.length ∧ t = .int .i64 (i : Int) ∧ Hid (∀ j (hj : j < l.length),j < i → insOk l[j] = true) ∧ Hid (Below w.heap.size w wr)) (fun t _ => l.length - (intOf t).toNat)
 case atStart => exact ⟨0,by omega,rfl,fun j _ h => absurd h (by omega),Below.refl _ _⟩
 case round =>
  obtain ⟨i,hi,rfl,hH,hB⟩:=hrel
  by_cases h0 : i < l.length
  ·obtain ⟨b,off,rfl,c0,c1⟩:=HC.out i h0
   have e0:=Below.keeps hB.out c0
   have e1:=Below.keeps hB.out c1
   clear c0 c1
   have kk0 : (0 : Int) ≤ (i : Int):=by omega
   have kk1 : (i : Int) < (l.length : Int):=by omega
   have HBD:=Lib.hid (badIns_any l[i] wr)
   obtain ⟨q,hq⟩ : ∃ q,q = insOk l[i]:=⟨_,rfl⟩
   rw [← hq] at HBD
   have HQ:=Lib.hid hq
   clear hq
   cases q with
   | false =>
    go_wp2_with fail
    refine HBD.out.mono ?_
    rintro e w1 ⟨rfl,hB1⟩
    have HB1:=Lib.hid (bt hB.out hB1)
    clear hB1
    go_wp2
    go_ret
    exact ⟨⟨_,rfl,by rw [all_false i h0 HQ.out.symm]; simp⟩,HB1.out⟩
   | true =>
    go_wp2_with fail
    refine HBD.out.mono ?_
    rintro e w1 ⟨rfl,hB1⟩
    have HB1:=Lib.hid (bt hB.out hB1)
    clear hB1
    go_wp2
    go_roundw
    case rel =>
     refine ⟨i + 1,by omega,by go_num,?_,HB1.out⟩
     intro j hj hji
     by_cases e : j = i
     ·subst e; exact HQ.out.symm
     ·exact hH.out j hj (by omega)
    case measure => simp [intOf]; omega
  ·have HF:=Lib.hid (all_true (f:=insOk) fun k hk => hH.out k hk (by omega))
   obtain rfl : i = l.length:=by omega
   go_wp2
   go_ret
   exact ⟨⟨_,rfl,by rw [HF.out]; rfl⟩,hB.out⟩
theorem contains_badIns (v : Value) (l : List VI) (w : World) (hr : recIns.Row w v l) (hl : l.length ≤ 140737488355328) :
  Calls Tryz.prog 174 #[v,.func (.func 171) #[] #[]] w fun e w' => e = .returned (.bool (!l.all insOk)) ∧ Below w.heap.size w w':=by
 have hix:=index_badIns v l w hr hl
 obtain ⟨a,cap,rfl,_,_⟩:=recIns_open hr
 have HIX:=Lib.hid hix
 clear hix hr
 go_enter Tryz.func174,Tryz.ntmps174
 go_wp2_with fail
 refine HIX.out.mono ?_
 rintro e w1 ⟨⟨i,rfl,hi⟩,hB1⟩
 have HB1:=Lib.hid hB1
 clear hB1
 obtain ⟨q,hq⟩ : ∃ q,q = !l.all insOk:=⟨_,rfl⟩
 rw [← hq] at hi
 have HQ:=Lib.hid hq
 clear hq
 cases q with
 | false =>
  have hi' : ¬ (0 : Int) ≤ i:=of_decide_eq_false hi
  clear hi
  go_wp2
  go_ret
  exact ⟨by rw [← HQ.out]; simp [hi'],HB1.out⟩
 | true =>
  have hi' : (0 : Int) ≤ i:=of_decide_eq_true hi
  clear hi
  go_wp2
  go_ret
  exact ⟨by rw [← HQ.out]; simp [hi'],HB1.out⟩
theorem mayV_all (texts : List (List UInt8)) (code : List VI) : mayV texts code = (decide (texts.length ≤ 16) && decide (code.length ≤ 256) && texts.all longOk && code.all insOk):=rfl
theorem CCheck_any (tv cv : Value) (texts : List (List UInt8)) (code : List VI) (w : World) (ht : recS.Row w tv texts) (hc : recIns.Row w cv code) (hlt : texts.length ≤ 140737488355328) (hlc : code.length ≤ 140737488355328) (hm : ∀ s ∈ texts,s.length ≤ 140737488355328) :
  Calls Tryz.prog 145 #[.agg #[tv,cv]] w fun e w' => e = .returned (.int .i64 (if mayV texts code = true then 0 else 2)) ∧ Below w.heap.size w w':=by
 have HT:=Lib.hid (fun w' (hB : Below w.heap.size w w') => contains_long tv texts w' (ht.below hB) hlt hm)
 have HCC:=Lib.hid (fun w' (hB : Below w.heap.size w w') => contains_badIns cv code w' (hc.below hB) hlc)
 obtain ⟨at_,ct,rfl,_,_⟩:=recS_open ht
 obtain ⟨ac,cc,rfl,_,_⟩:=recIns_open hc
 obtain ⟨qt,hqt⟩ : ∃ q,q = texts.all longOk:=⟨_,rfl⟩
 obtain ⟨qc,hqc⟩ : ∃ q,q = code.all insOk:=⟨_,rfl⟩
 have hM:=mayV_all texts code
 rw [← hqt,← hqc] at hM
 rw [← hqt] at HT
 rw [← hqc] at HCC
 obtain ⟨r,hr⟩ : ∃ r : Int,r = if mayV texts code = true then 0 else 2:=⟨_,rfl⟩
 rw [← hr]
 rw [hM] at hr
 have HM:=Lib.hid hr
 clear hr hM hqt hqc ht hc hm
 obtain ⟨W1,hW1⟩ : ∃ W1,W1 = w.alloc (.cells #[.slice at_ texts.length ct,.slice ac code.length cc] 25):=⟨_,rfl⟩
 have hb1 : Below w.heap.size w W1:=by rw [hW1]; exact b_alloc _ _
 have hx : Blk W1 w.heap.size 25 [.slice at_ texts.length ct,.slice ac code.length cc]:=by rw [hW1]; exact Blk.new w _ _
 have x0:=hx.cell (k:=0) rfl
 have x1:=hx.cell (k:=1) rfl
 have HB1:=Lib.hid hb1
 clear hx hb1
 by_cases h1 : texts.length ≤ 16
 ·have q1 : ¬ (16 : Int) < (texts.length : Int):=by omega
  by_cases h2 : code.length ≤ 256
  ·have q2 : ¬ (256 : Int) < (code.length : Int):=by omega
   cases qt with
   | false =>
    have HE:=Lib.hid (show r = 2 by rw [HM.out]; simp)
    go_enter Tryz.func145,Tryz.ntmps145
    go_upto_region 1 with fail
    rw [← hW1]
    clear hW1
    go_wp2_with fail
    refine (HT.out _ HB1.out).mono ?_
    rintro e w2 ⟨rfl,hB2⟩
    have HB2:=Lib.hid (bt HB1.out hB2)
    have y0:=Below.keeps hB2 x0
    have y1:=Below.keeps hB2 x1
    clear hB2 x0 x1
    go_wp2_with fail
    go_ret
    exact ⟨by rw [HE.out]; rfl,HB2.out⟩
   | true =>
    cases qc with
    | false =>
     have HE:=Lib.hid (show r = 2 by rw [HM.out]; simp)
     go_enter Tryz.func145,Tryz.ntmps145
     go_upto_region 1 with fail
     rw [← hW1]
     clear hW1
     go_wp2_with fail
     refine (HT.out _ HB1.out).mono ?_
     rintro e w2 ⟨rfl,hB2⟩
     have HB2:=Lib.hid (bt HB1.out hB2)
     have y0:=Below.keeps hB2 x0
     have y1:=Below.keeps hB2 x1
     clear hB2 x0 x1
     go_wp2_with fail
     refine (HCC.out _ HB2.out).mono ?_
     rintro e w3 ⟨rfl,hB3⟩
     have HB3:=Lib.hid (bt HB2.out hB3)
     clear hB3 y0 y1
     go_wp2_with fail
     go_ret
     exact ⟨by rw [HE.out]; rfl,HB3.out⟩
    | true =>
     have HE:=Lib.hid (show r = 0 by rw [HM.out]; simp [h1,h2])
     go_enter Tryz.func145,Tryz.ntmps145
     go_upto_region 1 with fail
     rw [← hW1]
     clear hW1
     go_wp2_with fail
     refine (HT.out _ HB1.out).mono ?_
     rintro e w2 ⟨rfl,hB2⟩
     have HB2:=Lib.hid (bt HB1.out hB2)
     have y0:=Below.keeps hB2 x0
     have y1:=Below.keeps hB2 x1
     clear hB2 x0 x1
     go_wp2_with fail
     refine (HCC.out _ HB2.out).mono ?_
     rintro e w3 ⟨rfl,hB3⟩
     have HB3:=Lib.hid (bt HB2.out hB3)
     clear hB3 y0 y1
     go_wp2_with fail
     go_ret
     exact ⟨by rw [HE.out]; rfl,HB3.out⟩
  ·have q2 : (256 : Int) < (code.length : Int):=by omega
   have HE:=Lib.hid (show r = 2 by rw [HM.out]; simp [h2])
   go_enter Tryz.func145,Tryz.ntmps145
   go_upto_region 1 with fail
   rw [← hW1]
   clear hW1
   go_wp2_with fail
   go_ret
   exact ⟨by rw [HE.out]; rfl,HB1.out⟩
 ·have q1 : (16 : Int) < (texts.length : Int):=by omega
  have HE:=Lib.hid (show r = 2 by rw [HM.out]; simp [h1])
  go_enter Tryz.func145,Tryz.ntmps145
  go_upto_region 1 with fail
  rw [← hW1]
  clear hW1
  go_wp2_with fail
  go_ret
  exact ⟨by rw [HE.out]; rfl,HB1.out⟩
end Go.Proofs.YtehllcbnheicoaaGreatDoor
namespace Go.Proofs.YtehllcbnheicoaaGreatDoor
open Go.RowKit
variable {P : Program}
theorem madeCells_one (z : Value) (n : Nat) : madeCells #[z] n = (List.replicate n z).toArray:=by
 apply Array.ext
 ·simp [madeCells]
 ·intro i h1 h2
  simp [madeCells]
  simp [madeCells,Nat.mod_one]
theorem make_one (t e : TypeId) (z : Value) (bytes : Nat) (ht : P.underlying t = some (.slice e)) (hinfo : (P.info? e).map (fun i => (i.zero,i.size,i.bytes)) = some (some z,1,bytes)) (hz : z.cells = #[z]) (n : Nat) (hb : (bytes : Int) * (n : Int) ≤ 281474976710656) (hn : n ≤ 140737488355328) (w : World) :
  (Instr.makeSlice t (.int .i64 (n : Int)) (.int .i64 (n : Int))).run P w = .ok (.slice (some ⟨w.heap.size,0,none⟩) n n) (w.alloc (.cells (List.replicate n z).toArray e)):=by
 obtain ⟨i,hi,hz0,hi1,hi2⟩:=info_parts hinfo
 have:=run_make (P:=P) w t e i z ht hi hz0 .i64 .i64 n n (by omega) (Int.le_refl _) (by rw [hi2]; exact hb) (by omega)
 rw [this,hz,hi1,Nat.mul_one,Int.toNat_natCast,madeCells_one]
end Go.Proofs.YtehllcbnheicoaaGreatDoor
