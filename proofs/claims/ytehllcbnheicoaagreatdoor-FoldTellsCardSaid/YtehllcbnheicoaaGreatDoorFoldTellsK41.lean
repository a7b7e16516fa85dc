/- Lemmas for FoldTells, part 41: walks of the functions that it reaches, and the plain laws behind them. -/
import Derived.Deep.DeepCutAuto
import Derived.OwnWalkIn
import Derived.TacticsInMore
import Derived.LoopNIn
import Derived.LoopIn
import Derived.Test.YtehllcbnheicoaaGreatDoorFoldTellsK3
import Derived.Test.YtehllcbnheicoaaGreatDoorFoldTellsK40
set_option linter.unusedSimpArgs false
set_option linter.unusedVariables false
set_option maxRecDepth 100000
set_option maxHeartbeats 16000000
namespace Go.Proofs.YtehllcbnheicoaaGreatDoor
open Go.RowKit Oct
attribute [local irreducible] wpG
theorem foldR_cons {j : Jb} {x : List UInt8} {r : List (List UInt8)} (h : mayJ j = true) : valuesJ j (x :: r) = foldV j x r:=if_pos ⟨h,Nat.succ_pos _⟩
theorem rValues18_any (t1 c1 t2 c2 t3 c3 v : Value) (j : Jb) (l : List (List UInt8)) (w : World) (h : JobR w t1 c1 t2 c2 t3 c3 j) (hv : recS.Row w v l) (hl : l.length ≤ 140737488355328) (hb : ∀ s ∈ l,s.length ≤ 140737488355328) :
  Calls Tryz.prog 12 #[jobV t1 c1 t2 c2 t3 c3 j,v] w fun e w' => e = .returned (.tuple #[.string (bs (valuesJ j l).1),.int .i64 ((valuesJ j l).2 : Int)]) ∧ Below w.heap.size w w':=by
 have HMAY:=Lib.hid (fun w' (hB : Below w.heap.size w w') => rMay15_any t1 c1 t2 c2 t3 c3 j w' (h.below hB))
 have HJO:=Lib.hid (fun (s u : List UInt8) (h1 : s.length ≤ 140737488355328) (h2 : u.length ≤ 140737488355328) w' (hB : Below w.heap.size w w') => rJoin15_any t1 c1 t2 c2 t3 c3 j s u w' (h.below hB) h1 h2)
 obtain ⟨ta,tc,rfl,-,-⟩:=recS_open h.a.t
 obtain ⟨ca,cc,rfl,-,-⟩:=recIns_open h.a.c
 obtain ⟨ta2,tc2,rfl,-,-⟩:=recS_open h.b.t
 obtain ⟨ca2,cc2,rfl,-,-⟩:=recIns_open h.b.c
 obtain ⟨ta3,tc3,rfl,-,-⟩:=recS_open h.c.t
 obtain ⟨ca3,cc3,rfl,-,-⟩:=recIns_open h.c.c
 obtain ⟨av,cv,rfl,_,hc⟩:=recS_open hv
 unfold jobV at HMAY HJO ⊢
 have HCC:=Lib.hid hc
 have HBB:=Lib.hid hb
 obtain ⟨W1,hW1⟩ : ∃ W1,W1 = w.alloc (.cells #[.slice ta j.mt.length tc,.slice ca j.mc.length cc,.slice ta2 j.jt.length tc2,.slice ca2 j.jc.length cc2,.slice ta3 j.tt.length tc3,.slice ca3 j.tc.length cc3,.int .i64 j.parts,.int .i64 j.fuel] 27):=⟨_,rfl⟩
 have hb1 : Below w.heap.size w W1:=by rw [hW1]; exact b_alloc _ _
 obtain ⟨J,hJ⟩ : ∃ J,J = w.heap.size:=⟨_,rfl⟩
 have hx : Blk W1 J 27 [.slice ta j.mt.length tc,.slice ca j.mc.length cc,.slice ta2 j.jt.length tc2,.slice ca2 j.jc.length cc2,.slice ta3 j.tt.length tc3,.slice ca3 j.tc.length cc3,.int .i64 j.parts,.int .i64 j.fuel]:=by rw [hJ,hW1]; exact Blk.new w _ _
 have x0:=hx.cell (k:=0) rfl
 have x1:=hx.cell (k:=1) rfl
 have x2:=hx.cell (k:=2) rfl
 have x3:=hx.cell (k:=3) rfl
 have x4:=hx.cell (k:=4) rfl
 have x5:=hx.cell (k:=5) rfl
 have x6:=hx.cell (k:=6) rfl
 have x7:=hx.cell (k:=7) rfl
 have HB1:=Lib.hid hb1
 have HX:=Lib.hid hx
 go_enter Tryz.func12,Tryz.ntmps12
 go_upto_region 1 with fail
 rw [← hW1,← hJ]
 clear hW1 hJ hb1 hx h hv hc hb
 by_cases hm : mayJ j = true
 ·rw [hm] at HMAY
  cases l with
  | nil =>
   have HR:=Lib.hid (show valuesJ j [] = ([],2) from if_neg (fun q => absurd q.2 (Nat.lt_irrefl 0)))
   clear hm
   go_wp2_with (go_at_call 30; refine (HMAY.out _ HB1.out).mono ?_; rintro e w2 ⟨rfl,hB2⟩; have HB2:=Lib.hid (bt HB1.out hB2); clear hB2)
   go_ret2
   rw [HR.out]
   exact ⟨rfl,HB2.out⟩
  | cons p0 r =>
   have HR:=Lib.hid (foldR_cons (x:=p0) (r:=r) hm)
   clear hm
   obtain ⟨L,hL⟩ : ∃ L,L = p0 :: r:=⟨_,rfl⟩
   have HLD:=Lib.hid (show L.drop 1 = r by rw [hL]; rfl)
   have hln : 1 ≤ L.length:=by rw [hL]; simp
   obtain ⟨b0,o0,hav,d0⟩:=HCC.out 0 (by simp)
   subst hav
   have HD0:=Lib.hid (show w.cell? ⟨b0,o0,none⟩ = some (.string (bs p0)) from d0)
   have HP0:=Lib.hid (HBB.out p0 (List.mem_cons_self ..))
   clear d0
   rw [← hL] at HCC HBB hl
   rw [← hL]
   have z0 : (0 : Int) < (L.length : Int):=by omega
   have z1 : ((L.length : Int) == 0) = false:=by rw [beq_eq_false_iff_ne]; omega
   clear hL
   go_upto_region 4 with (go_at_call 30; refine (HMAY.out _ HB1.out).mono ?_; rintro e w2 ⟨rfl,hB2⟩; have HX2:=Lib.hid (HX.out.below hB2); have d1:=Below.keeps (bt HB1.out hB2) HD0.out; have HB2:=Lib.hid (bt HB1.out hB2); clear hB2 x0 x1 x2 x3 x4 x5 x6 x7)
   clear d1
   go_wp2_with fail
   go_loopw [6,7] (fun a b wr => ∃ (k : Nat) (s : List UInt8),1 ≤ k ∧ k ≤ L.length ∧ a = .string (bs s) ∧ b = .int .i64 k ∧ Hid (foldV j s (L.drop k) = foldV j p0 r) ∧ Hid (s.length ≤ 140737488355328) ∧ Hid (Below w2.heap.size w2 wr)) (fun _ b _ => L.length - (intOf b).toNat)
   case atStart => exact ⟨1,p0,by omega,hln,rfl,rfl,(by show foldV j p0 (L.drop 1) = foldV j p0 r; rw [HLD.out]),HP0.out,Below.refl _ _⟩
   case round =>
    obtain ⟨k,s,hk1,hk,rfl,rfl,HFV,HSL,HBR⟩:=hrel
    by_cases h0 : k < L.length
    ·obtain ⟨b,off,hA,e1⟩:=HCC.out k h0
     cases hA
     have hbl:=HBB.out _ (List.getElem_mem h0)
     have hdr : L.drop k = L[k] :: L.drop (k + 1):=List.drop_eq_getElem_cons h0
     obtain ⟨v,hve⟩ : ∃ v,v = L[k]:=⟨_,rfl⟩
     rw [← hve] at e1 hbl hdr
     have HD:=Lib.hid hdr
     have hBw:=bt HB2.out HBR.out
     replace e1:=Below.keeps hBw e1
     have hxx:=HX2.out.below HBR.out
     have HG:=Lib.hid (HJO.out s v HSL.out hbl wr.drew (bt hBw (b_drew _)))
     have hrl:=vmV_text j.jt j.jc 2 [s,v] j.fuel
     have i0 : (0 : Int) ≤ (k : Int):=by omega
     have i1 : (k : Int) < (L.length : Int):=by omega
     obtain ⟨R,hR⟩ : ∃ R,R = vmV j.jt j.jc 2 [s,v] j.fuel:=⟨_,rfl⟩
     rw [← hR] at HG hrl
     have HR2:=Lib.hid hR
     have HRL:=Lib.hid hrl
     have HHH:=Lib.hid h0
     have HK1:=Lib.hid hk1
     have x0:=hxx.cell (k:=0) rfl
     have x1:=hxx.cell (k:=1) rfl
     have x2:=hxx.cell (k:=2) rfl
     have x3:=hxx.cell (k:=3) rfl
     have x4:=hxx.cell (k:=4) rfl
     have x5:=hxx.cell (k:=5) rfl
     have x6:=hxx.cell (k:=6) rfl
     have x7:=hxx.cell (k:=7) rfl
     clear hR hdr hve hBw hbl hrl h0 hxx hk1
     by_cases hz : R.1 = 0
     ·have t1 : ((R.1 : Int) != 0) = false:=by rw [hz]; rfl
      have HQ:=Lib.hid (show foldV j s (v :: L.drop (k + 1)) = foldV j R.2.2 (L.drop (k + 1)) by rw [HR2.out]; exact foldV_on (by rw [← HR2.out]; exact hz))
      clear hz
      go_wp2_with fail
      go_region_law (refine step_callM rfl 37 #[.agg #[.slice ta j.mt.length tc,.slice ca j.mc.length cc,.slice ta2 j.jt.length tc2,.slice ca2 j.jc.length cc2,.slice ta3 j.tt.length tc3,.slice ca3 j.tc.length cc3,.int .i64 j.parts,.int .i64 j.fuel],.string (bs s),.string (bs v)] (by go_simp) HG.out ?_; rintro e w7 ⟨rfl,hB7⟩; have HB7:=Lib.hid (bt HBR.out (bt (b_drew wr) hB7)); clear hB7)
      all_goals
       go_wp2_with fail
       go_roundw
       case rel => exact ⟨k + 1,R.2.2,by omega,HHH.out,rfl,by go_num,by rw [← HQ.out,← HD.out]; exact HFV.out,Nat.le_trans HRL.out (by decide),HB7.out⟩
       case measure => have:=HHH.out; simp [intOf]; omega
     ·have t1 : ((R.1 : Int) != 0) = true:=by rw [bne_iff_ne]; omega
      have HQ:=Lib.hid (show foldV j s (v :: L.drop (k + 1)) = ([],R.1) by rw [HR2.out]; exact foldV_bad (by rw [← HR2.out]; exact hz))
      clear hz
      go_wp2_with fail
      go_region_law (refine step_callM rfl 37 #[.agg #[.slice ta j.mt.length tc,.slice ca j.mc.length cc,.slice ta2 j.jt.length tc2,.slice ca2 j.jc.length cc2,.slice ta3 j.tt.length tc3,.slice ca3 j.tc.length cc3,.int .i64 j.parts,.int .i64 j.fuel],.string (bs s),.string (bs v)] (by go_simp) HG.out ?_; rintro e w7 ⟨rfl,hB7⟩; have HB7:=Lib.hid (bt HBR.out (bt (b_drew wr) hB7)); clear hB7)
      all_goals
       go_wp2_with fail
       go_ret2
       rw [HR.out,← HFV.out,HD.out,HQ.out]
       exact ⟨rfl,bt HB2.out HB7.out⟩
    ·have i1 : ¬ (k : Int) < (L.length : Int):=by omega
     have HE:=Lib.hid (show foldV j p0 r = (s,0) by rw [← HFV.out,List.drop_eq_nil_of_le (by omega)]; rfl)
     clear h0
     go_wp2_with fail
     go_ret2
     rw [HR.out,HE.out]
     exact ⟨rfl,bt HB2.out HBR.out⟩
 ·have hno : mayJ j = false:=by cases q : mayJ j with
   | false => rfl
   | true => exact absurd q hm
  rw [hno] at HMAY
  have HR:=Lib.hid (show valuesJ j l = ([],2) from if_neg (fun q => hm q.1))
  clear hm hno
  go_wp2_with (go_at_call 30; refine (HMAY.out _ HB1.out).mono ?_; rintro e w2 ⟨rfl,hB2⟩; have HB2:=Lib.hid (bt HB1.out hB2); clear hB2)
  go_ret2
  rw [HR.out]
  exact ⟨rfl,HB2.out⟩
def valsF (key : List UInt8) (l : List PR) : List (List UInt8):=(ofKey key l).map (·.2)
theorem valsF_app (key : List UInt8) (a b : List PR) : valsF key (a ++ b) = valsF key a ++ valsF key b:=by unfold valsF; rw [ofKey_app,List.map_append]
theorem valsF_len (key : List UInt8) (l : List PR) : (valsF key l).length ≤ l.length:=by unfold valsF ofKey; rw [List.length_map]; exact List.length_filter_le _ _
theorem valsF_one (key : List UInt8) (p : PR) : valsF key [p] = if p.1 = key then [p.2] else []:=by
 unfold valsF ofKey
 by_cases h : p.1 = key
 ·rw [if_pos h]; simp [h]
 ·rw [if_neg h]; simp [h]
theorem takeF {α : Type} (l : List α) (k : Nat) (h : k < l.length) : l.take (k + 1) = l.take k ++ [l[k]]:=List.take_succ_eq_append_getElem h
theorem bdF (key : List UInt8) (rows : List (List PR)) (i : Nat) (h : i < rows.length) (hf : rows.flatten.length ≤ 1000000) : (valsF key (rows.take i).flatten).length + rows[i].length ≤ 1000000:=by
 have h1:=valsF_len key (rows.take i).flatten
 have h2:=flat_le rows (i + 1)
 rw [flat_take rows i h,List.length_append] at h2
 omega
theorem rOf18_any (v : Value) (key : List UInt8) (rows : List (List PR)) (w : World) (hr : RR w v rows) (hl : rows.length ≤ 140737488355328) (hf : rows.flatten.length ≤ 1000000) (hm : ∀ r ∈ rows,r.length ≤ 1000000) :
  Calls Tryz.prog 40 #[v,.string (bs key)] w fun e w' => (∃ u,e = .returned u ∧ recS.Own w' w.heap.size u (valsF key rows.flatten)) ∧ Below w.heap.size w w':=by
 obtain ⟨a,cap,rfl,_,_,hc⟩:=hr
 have HC:=Lib.hid hc
 have HM:=Lib.hid hm
 have HF:=Lib.hid hf
 clear hc hm hf
 go_enter Tryz.func40,Tryz.ntmps40
 go_wp2
 go_loopw [5,6] (fun u t wr => ∃ i : Nat,i ≤ rows.length ∧ t = .int .i64 (i : Int) ∧ Hid (recS.Own wr w.heap.size u (valsF key (rows.take i).flatten)) ∧ Hid (Below w.heap.size w wr)) (fun _ t _ => rows.length - (intOf t).toNat)
 case atStart => exact ⟨0,by omega,rfl,Rec.Own.nil _ _,Below.refl _ _⟩
 case round =>
  obtain ⟨i,hi,rfl,HO,HB⟩:=hrel
  obtain ⟨ao,co,rfl⟩:=owns_slice HO.out
  by_cases h0 : i < rows.length
  ·obtain ⟨b1,o1,u,rfl,d1,hru⟩:=HC.out i h0
   obtain ⟨a2,c2,rfl,-,hc2⟩:=hru.open
   have HC2:=Lib.hid hc2
   have HD:=Lib.hid d1
   have hrl:=HM.out rows[i] (List.getElem_mem h0)
   have hbd:=bdF key rows i h0 HF.out
   have HT:=Lib.hid (show valsF key (rows.take (i + 1)).flatten = valsF key (rows.take i).flatten ++ valsF key rows[i] by rw [flat_take rows i h0,valsF_app])
   obtain ⟨r,hr⟩ : ∃ r,r = rows[i]:=⟨_,rfl⟩
   rw [← hr] at HC2 HD hrl hbd HT
   obtain ⟨O,hO⟩ : ∃ O,O = valsF key (rows.take i).flatten:=⟨_,rfl⟩
   rw [← hO] at HO hbd HT
   have hOE:=congrArg List.length hO
   obtain ⟨Wr,hWr⟩ : ∃ Wr,Wr = wr:=⟨_,rfl⟩
   subst hWr
   have kk0 : (0 : Int) ≤ (i : Int):=by omega
   have kk1 : (i : Int) < (rows.length : Int):=by omega
   have HI:=Lib.hid h0
   have HBD:=Lib.hid hbd
   rw [← hOE]
   clear hc2 hr d1 hO hOE h0 hbd hru
   go_wp2
   go_loopw [5,7] (fun u t wx => ∃ (k : Nat) (I : List (List UInt8)),k ≤ r.length ∧ I.length ≤ k ∧ t = .int .i64 (k : Int) ∧ Hid (recS.Own wx w.heap.size u (O ++ I)) ∧ Hid (I = valsF key (r.take k)) ∧ Hid (Below w.heap.size w wx)) (fun _ t _ => r.length - (intOf t).toNat)
   case atStart => exact ⟨0,[],by omega,Nat.le_refl _,rfl,by rw [List.append_nil]; exact HO.out,rfl,HB.out⟩
   case round =>
    obtain ⟨k,I,hk,hIl,rfl,HOI,HIE,HB2⟩:=hrel
    obtain ⟨ai,ci,rfl⟩:=owns_slice HOI.out
    have dd:=Below.keeps HB2.out HD.out
    have jj0 : (0 : Int) ≤ (k : Int):=by omega
    by_cases h3 : k < r.length
    ·obtain ⟨b3,o3,rfl,e1,e2⟩:=HC2.out k h3
     have HTK:=Lib.hid (show valsF key (r.take (k + 1)) = valsF key (r.take k) ++ (if r[k].1 = key then [r[k].2] else []) by rw [takeF r k h3,valsF_app,valsF_one])
     obtain ⟨p,hp⟩ : ∃ p,p = r[k]:=⟨_,rfl⟩
     rw [← hp] at e1 e2 HTK
     replace e1:=Below.keeps HB2.out e1
     replace e2:=Below.keeps HB2.out e2
     have jj1 : (k : Int) < (r.length : Int):=by omega
     have HBY:=Lib.hid (show ((O ++ I).length + 1) * 16 ≤ 140737488355328 by rw [List.length_append]; have:=HBD.out; omega)
     have H3:=Lib.hid h3
     have hIl2:=hIl
     clear hp h3
     by_cases he : p.1 = key
     ·have t1 : (p.1 == key) = true:=by simp [he]
      rw [if_pos he] at HTK
      clear he
      go_wp2_with (at_builtin; go_must (refine recS.append1 wr p.2 rfl _ _ 22 rfl Tryz.underlying22 w.heap.size _ (O ++ I) HOI.out rfl _ rfl _ rfl _ rfl HBY.out HB2.out.size ?_); intro g cap w8 hown8 hB8; have HO8:=Lib.hid hown8; have HB8:=Lib.hid hB8; clear hown8 hB8)
      go_roundw
      case rel => exact ⟨k + 1,I ++ [p.2],H3.out,by rw [List.length_append]; simp; omega,by go_num,by have q:=HO8.out; rw [List.length_append,List.append_assoc] at q; exact q,(show I ++ [p.2] = valsF key (r.take (k + 1)) by rw [HTK.out,← HIE.out]),HB2.out.trans HB8.out⟩
      case measure => have:=H3.out; simp [intOf]; omega
     ·have t1 : (p.1 == key) = false:=by simp [he]
      rw [if_neg he,List.append_nil] at HTK
      clear he
      go_wp2_with fail
      go_roundw
      case rel => exact ⟨k + 1,I,H3.out,by omega,by go_num,HOI.out,(show I = valsF key (r.take (k + 1)) by rw [HTK.out]; exact HIE.out),HB2.out⟩
      case measure => have:=H3.out; simp [intOf]; omega
    ·have jj1 : ¬ (k : Int) < (r.length : Int):=by omega
     have HEI:=Lib.hid (show I = valsF key r by rw [HIE.out,List.take_of_length_le (by omega)])
     clear h3
     go_wp2_with fail
     go_roundw
     case rel => exact ⟨i + 1,HI.out,by go_num,by rw [HT.out,← HEI.out]; exact HOI.out,HB2.out⟩
     case measure => have:=HI.out; simp [intOf]; omega
  ·have kk1 : ¬ (i : Int) < (rows.length : Int):=by omega
   have HE:=Lib.hid (show valsF key (rows.take i).flatten = valsF key rows.flatten by rw [List.take_of_length_le (by omega)])
   clear h0
   go_wp2_with fail
   go_ret
   exact ⟨⟨_,rfl,by rw [← HE.out]; exact HO.out⟩,HB.out⟩
end Go.Proofs.YtehllcbnheicoaaGreatDoor
namespace Go.Proofs.YtehllcbnheicoaaGreatDoor
open Go.RowKit Oct
attribute [local go_sem] Oper.semAt_some
theorem add_block (a : Addr) (i : Nat) : (a.add i).block = a.block:=by unfold Addr.add; split <;> rfl
theorem RP.move {w w' : World} {a : Option Addr} {n c : Nat} {l : List PR} (h : RP w (.slice a n c) l) (hk : ∀ ad,a = some ad → w'.heap[ad.block]? = w.heap[ad.block]?) : RP w' (.slice a n c) l:=by
 obtain ⟨⟨a',cap,hv,hn,hc⟩,h2⟩:=h
 injection hv with e1 e2 e3
 subst e1 e3
 refine ⟨⟨a,c,by rw [e2],hn,fun j u hj => ?_⟩,h2⟩
 obtain ⟨b,off,ha,hu⟩:=hc j u hj
 have e : w'.cell? ⟨b,off + j,none⟩ = w.cell? ⟨b,off + j,none⟩:=World.cell?_of_block (w:=w) (a:=⟨b,off + j,none⟩) (hk ⟨b,off,none⟩ ha)
 exact ⟨b,off,ha,e.trans hu⟩
theorem RP.cutRunB {w : World} {a : Option Addr} {cap : Nat} {l : List PR} (h : RP w (.slice a l.length cap) l) (k : Nat) (hk : k ≤ l.length) :
  ∃ A C,(∀ wx,(Instr.slice 37 (.slice a l.length cap) (some (.int .i64 (k : Int))) none none).run Tryz.prog wx = .ok (.slice A (l.length - k) C) wx) ∧ RP w (.slice A (l.length - k) C) (l.drop k) ∧ (∀ ad,A = some ad → ∃ ad0,a = some ad0 ∧ ad.block = ad0.block):=by
 refine ⟨_,_,fun wx => ?_,h.cut k hk,?_⟩
 ·rw [run_slice_l wx 37 a l.length cap (by kernel_rfl) .i64 k (by omega) (by omega)]
  have he : (sizeOf (Tryz.prog.elem 37)).run Tryz.prog wx = .ok 2 wx:=by kernel_rfl
  rw [he]
  simp [Result.andThen,sliced]
 ·intro ad hA
  split at hA
  ·exact ⟨ad,hA,rfl⟩
  ·obtain ⟨ad0,h1,h2⟩:=Option.map_eq_some_iff.1 hA
   exact ⟨ad0,h1,by rw [← h2,add_block]⟩
theorem RP.fullRun {w : World} {a : Option Addr} {cap : Nat} {l : List PR} (h : RP w (.slice a l.length cap) l) (k : Nat) (h1 : 1 ≤ k) (hk : k ≤ l.length) :
  ∃ A,(∀ wx,(Instr.slice 37 (.slice a l.length cap) none (some (.int .i64 (k : Int))) (some (.int .i64 (k : Int)))).run Tryz.prog wx = .ok (.slice A k k) wx) ∧ RP w (.slice A k k) (l.take k) ∧ (∀ ad,A = some ad → ∃ ad0,a = some ad0 ∧ ad.block = ad0.block):=by
 have hx:=RP.head h k hk
 obtain ⟨_,a',cap',hv,hle⟩:=id h
 injection hv with _ _ h3
 subst h3
 refine ⟨a.map (·.add (0 * 2)),fun wx => ?_,?_,fun ad hA => by obtain ⟨ad0,h1,h2⟩:=Option.map_eq_some_iff.1 hA; exact ⟨ad0,h1,by rw [← h2,add_block]⟩⟩
 ·rw [run_slice_hm wx 37 a l.length cap (by kernel_rfl) .i64 .i64 k k (by omega) (by omega) (by omega)]
  have he : (sizeOf (Tryz.prog.elem 37)).run Tryz.prog wx = .ok 2 wx:=by kernel_rfl
  rw [he]
  simp [Result.andThen,sliced,show k ≠ 0 by omega]
 ·have hlen : (l.take k).length = k:=by simp; omega
  unfold sliced at hx
  rw [if_neg (by omega)] at hx
  obtain ⟨⟨a1,c1,hv1,hn1,hc1⟩,_⟩:=hx
  injection hv1 with e1 e2 e3
  refine ⟨⟨_,k,by rw [hlen],?_,?_⟩,_,k,by rw [hlen],by rw [hlen]; exact Nat.le_refl _⟩
  ·intro hnone
   rw [e1] at hnone
   have:=hn1 hnone
   omega
  ·rw [e1]; exact hc1
def ElP (Yr : Nat → Prop) (x : List PR) (vs : Array Value) (U : World) : Prop:=∃ A C,vs = #[.slice A x.length C] ∧ RP U (.slice A x.length C) x ∧ ∀ ad,A = some ad → Yr ad.block
def mlen : Option Value → Nat
 | some (.slice _ n _) => n
 | _ => 0
theorem one_in (q : List PR) : Hid (∀ j (hj : j < 1) (h : j < q.length),q[j].1 = q[0].1):=by
 intro j hj h
 obtain rfl : j = 0:=by omega
 rfl
theorem grp_rel {B k n : Nat} {q r : List PR} {dn : List (List PR)} {Yr : Nat → Prop} {J : List (List PR) → World → Prop} {W6 W7 : World} {Ac : Option Addr} {Cc : Nat} (hc : Chg (fun k => ¬ (k = B ∨ Yr k)) W6 W7)
  (hB : W6.heap[B]? = some (.cells #[.slice Ac (q.length - k) Cc] 37 (0,0))) (hR : RP W6 (.slice Ac (q.length - k) Cc) (q.drop k)) (hb : ∀ ad,Ac = some ad → Yr ad.block) (hG : grp r = (dn ++ [q.take k]) ++ grp (q.drop k)) (hJ : J (dn ++ [q.take k]) W7) (hq : q.length ≤ n) (hk : k ≤ q.length) :
  ∃ (q : List PR) (A : Option Addr) (C : Nat) (dn : List (List PR)),q.length ≤ n ∧ Hid (W7.heap[B]? = some (.cells #[.slice A q.length C] 37 (0,0))) ∧ Hid (RP W7 (.slice A q.length C) q) ∧ Hid (∀ ad,A = some ad → Yr ad.block) ∧ Hid (grp r = dn ++ grp q) ∧ Hid (J dn W7):=by
 have hl : (q.drop k).length = q.length - k:=by simp
 refine ⟨q.drop k,Ac,Cc,dn ++ [q.take k],by omega,?_,?_,hb,hG,hJ⟩
 ·rw [hl]; exact hc.at hB fun h => h (.inl rfl)
 ·rw [hl]
  by_cases h0 : (q.drop k).length = 0
  ·obtain ⟨⟨a',cap,hv,hn,hcc⟩,h2⟩:=hR
   refine ⟨⟨a',cap,hv,hn,fun j u hj => ?_⟩,h2⟩
   have : q.drop k = []:=List.eq_nil_of_length_eq_zero h0
   rw [this] at hj
   simp [pcells] at hj
  ·refine hR.move fun ad had => ?_
   rw [← hl] at hR
   obtain ⟨a',cap',hv,_,hcc⟩:=hR.open
   injection hv with e1 _ _
   subst e1
   obtain ⟨b,off,hab,hu,_⟩:=hcc 0 (by omega)
   rw [had] at hab
   cases hab
   exact hc.block b (lt_of_cell hu) fun h => h (.inr (hb _ had))
theorem grp_left {B m : Nat} {Yr : Nat → Prop} {W6 W7 : World} {Ac : Option Addr} {Cc : Nat} (hc : Chg (fun k => ¬ (k = B ∨ Yr k)) W6 W7) (hB : W6.heap[B]? = some (.cells #[.slice Ac m Cc] 37 (0,0))) : mlen (W7.cell? ⟨B,0,none⟩) = m:=by
 rw [cell_of_one (hc.at hB fun h => h (.inl rfl))]; rfl
theorem take_len {α : Type} {q : List α} {k : Nat} (h : k ≤ q.length) : (q.take k).length = k:=by simp [Nat.min_eq_left h]
theorem grp_at6 {B k nq : Nat} {q r : List PR} {dn : List (List PR)} {Yr : Nat → Prop} {W0 wr : World} {A Ac Af : Option Addr} {C Cc : Nat} (hB : W0.heap[B]? = some (.cells #[.slice A q.length C] 37 (0,0))) (hbel : Below W0.heap.size W0 wr)
  (hRF : RP W0 (.slice Af k k) (q.take k)) (hRC : RP W0 (.slice Ac (q.length - k) Cc) (q.drop k)) (hbF : ∀ ad,Af = some ad → Yr ad.block) (hbC : ∀ ad,Ac = some ad → Yr ad.block) (hYB : ¬ Yr B) (hG : grp r = dn ++ grp q) (hk : k = head1 q) (h0 : 0 < q.length) :
  ((wr.drewN nq).setCell ⟨B,0,none⟩ (.slice Ac (q.length - k) Cc)).heap[B]? = some (.cells #[.slice Ac (q.length - k) Cc] 37 (0,0)) ∧ Chg (fun k => k = B) W0 ((wr.drewN nq).setCell ⟨B,0,none⟩ (.slice Ac (q.length - k) Cc)) ∧
   RP ((wr.drewN nq).setCell ⟨B,0,none⟩ (.slice Ac (q.length - k) Cc)) (.slice Af k k) (q.take k) ∧ RP ((wr.drewN nq).setCell ⟨B,0,none⟩ (.slice Ac (q.length - k) Cc)) (.slice Ac (q.length - k) Cc) (q.drop k) ∧
   (dn ++ [q.take k] <+: grp r) ∧ grp r = (dn ++ [q.take k]) ++ grp (q.drop k):=by
 have hlt:=(Array.getElem?_eq_some_iff.1 hB).1
 have hc : Chg (fun k => k = B) W0 ((wr.drewN nq).setCell ⟨B,0,none⟩ (.slice Ac (q.length - k) Cc)) :=
  (Chg.of_below (bt hbel (Below.drewN' wr nq))).trans (Chg.setCell _ _ _ rfl)
 have hg : grp r = (dn ++ [q.take k]) ++ grp (q.drop k):=by rw [hG,grp_step q h0,← hk]; simp
 have mv : ∀ {a : Option Addr} {n c : Nat} {l : List PR},RP W0 (.slice a n c) l → (∀ ad,a = some ad → Yr ad.block) → RP ((wr.drewN nq).setCell ⟨B,0,none⟩ (.slice Ac (q.length - k) Cc)) (.slice a n c) l:=by
  intro a n c l h hb
  by_cases hl : l.length = 0
  ·obtain ⟨⟨a',cap,hv,hn,hcc⟩,h2⟩:=h
   refine ⟨⟨a',cap,hv,hn,fun j u hj => ?_⟩,h2⟩
   have : l = []:=List.eq_nil_of_length_eq_zero hl
   subst this
   simp [pcells] at hj
  ·refine h.move fun ad had => ?_
   obtain ⟨a',cap',hv,_,hcc⟩:=h.open
   injection hv with e1 _ _
   subst e1
   obtain ⟨b,off,hab,hu,_⟩:=hcc 0 (by omega)
   rw [had] at hab
   cases hab
   exact hc.block b (lt_of_cell hu) fun e => hYB (by rw [← e]; exact hb _ had)
 exact ⟨one_setCell (v:=.slice A q.length C) ((hbel.block B hlt).trans hB),hc,mv hRF hbF,mv hRC hbC,⟨_,hg.symm⟩,hg⟩
theorem groups_iter0 (n B : Nat) (r : List PR) (Yr : Nat → Prop) (A0 : Option Addr) (C0 : Nat) (W : World) (hB : W.heap[B]? = some (.cells #[.slice A0 r.length C0] 37 (0,0))) (hr : RP W (.slice A0 r.length C0) r) (hblk : ∀ ad,A0 = some ad → Yr ad.block) (hYB : ¬ Yr B) (hl : r.length ≤ 4398046511104) :
  IterC Fence.wide n Tryz.prog 156 #[.pointer (some ⟨B,0,none⟩)] (fun k => k = B) (fun k => k = B ∨ Yr k) (ElP Yr) (grp r) W:=by
 intro l J Jx hJ hJx hY hJ0
 refine callsIn_wide.2 ?_
 have HJ:=Lib.hid hJ
 have HJx:=Lib.hid hJx
 have HY:=Lib.hid hY
 have HB:=Lib.hid hB
 have HBlk:=Lib.hid hblk
 clear hJ hJx hY hB hblk
 go_enter Tryz.func156,Tryz.ntmps156
 go_wp2
 go_loopw [3] (fun _ wr => ∃ (q : List PR) (A : Option Addr) (C : Nat) (dn : List (List PR)),q.length ≤ 4398046511104 ∧ Hid (wr.heap[B]? = some (.cells #[.slice A q.length C] 37 (0,0))) ∧ Hid (RP wr (.slice A q.length C) q) ∧ Hid (∀ ad,A = some ad → Yr ad.block) ∧ Hid (grp r = dn ++ grp q) ∧ Hid (J dn wr)) (fun _ wr => mlen (wr.cell? ⟨B,0,none⟩))
 case atStart => exact ⟨r,A0,C0,[],hl,HB,hr,HBlk,rfl,hJ0⟩
 case round =>
  clear hr hJ0 HB HBlk
  obtain ⟨q,A,C,dn,hql,hB,hR,hblk,hG,hJd⟩:=hrel
  have c1:=cell_of_one hB.out
  have f1:=free_of_one hB.out
  by_cases h0 : 0 < q.length
  ·have m0 : (0 : Int) < (q.length : Int):=by omega
   obtain ⟨_,_,hv,_,hcell⟩:=hR.out.open
   injection hv with e1 _ e3
   subst e1 e3
   obtain ⟨b,off,hA,d0,_⟩:=hcell 0 h0
   rw [Nat.zero_mul,Nat.add_zero] at d0
   subst hA
   have HC:=Lib.hid hcell
   clear hcell
   obtain ⟨W0,hW0⟩ : ∃ W0,W0 = wr:=⟨_,rfl⟩
   subst hW0
   go_wp2
   go_loopw [3] (fun kk wx => ∃ k : Nat,1 ≤ k ∧ k ≤ q.length ∧ kk = .int .i64 k ∧ Hid (∀ j (hj : j < k) (h : j < q.length),q[j].1 = q[0].1) ∧ Hid (Below W0.heap.size W0 wx)) (fun kk _ => q.length - (intOf kk).toNat)
   case atStart => exact ⟨1,by omega,by omega,rfl,one_in q,Below.refl _ _⟩
   case round =>
    obtain ⟨k,hk1,hk2,rfl,hin,hbel⟩:=hrel
    have c2:=Below.keeps hbel.out c1
    have d2:=Below.keeps hbel.out d0
    have ki0 : (0 : Int) ≤ (k : Int):=by omega
    by_cases hkq : k < q.length
    ·have ki1 : (k : Int) < (q.length : Int):=by omega
     obtain ⟨_,_,e1,dk,_⟩:=HC.out k hkq
     cases e1
     replace dk:=Below.keeps hbel.out dk
     by_cases he : q[k].1 = q[0].1
     ·have he2 : (q[k].1 == q[0].1) = true:=by simpa using he
      have HE:=Lib.hid he
      clear he
      go_wp2
      go_quiet (fail)
      go_wp2
      go_roundw
      case rel =>
       refine ⟨k + 1,by omega,by omega,by go_num,?_,bt hbel.out (Below.drewN' _ _)⟩
       intro j hj h
       by_cases hjk : j = k
       ·subst hjk; exact HE.out
       ·exact hin.out j (by omega) h
      case measure => simp [intOf]; omega
     ·have he2 : (q[k].1 == q[0].1) = false:=by simpa using he
      have hhead : k = head1 q:=head1_eq q h0 k hk1 hk2 (fun j hj => hin.out j hj (by omega)) (fun _ => he)
      clear he
      (obtain ⟨Af,hrunF,hRF,hblkF⟩:=RP.fullRun hR.out k (by omega) (by omega); obtain ⟨Ac,Cc,hrunC,hRC,hblkC⟩:=RP.cutRunB hR.out k (by omega); have f2 : wr.frozen? ⟨B,0,none⟩ = false:=(hbel.out.frozen (p:=⟨B,0,none⟩) (lt_of_cell c1)).trans f1; have H6:=fun nq => Lib.hid (grp_at6 (nq:=nq) hB.out hbel.out hRF hRC (fun ad h => by obtain ⟨ad0,e1,e2⟩:=hblkF ad h; rw [e2]; exact hblk.out _ e1) (fun ad h => by obtain ⟨ad0,e1,e2⟩:=hblkC ad h; rw [e2]; exact hblk.out _ e1) hYB hG.out hhead h0); have HBF:=Lib.hid (show ∀ ad,Af = some ad → Yr ad.block from fun ad h => by obtain ⟨ad0,e1,e2⟩:=hblkF ad h; rw [e2]; exact hblk.out _ e1); have HBC:=Lib.hid (show ∀ ad,Ac = some ad → Yr ad.block from fun ad h => by obtain ⟨ad0,e1,e2⟩:=hblkC ad h; rw [e2]; exact hblk.out _ e1); have hk0 : (0 : Int) < (k : Int):=(by omega); have HH:=Lib.hid hhead; clear hhead hRF hRC hblkF hblkC)
      go_wp2
      go_quiet (fail)
      go_upto_region 6 with (fail)
      (obtain ⟨W6,hW6⟩ : ∃ W6,W6 = ((wr.drewN nq).setCell ⟨B,0,none⟩ (.slice Ac (q.length - k) Cc)):=⟨_,rfl⟩; have h6:=(H6 nq).out; rw [← hW6] at h6 ⊢; clear hW6 H6; obtain ⟨hB6,hc6,hRF6,hRC6,hp6,hG6⟩:=h6; have hJ6:=HJ.out _ _ _ hJd.out hc6; obtain ⟨fn,tm,asg,bod,hy,hRd⟩:=HY.out dn (q.take k) #[.slice Af k k] W6 hJ6 ⟨Af,k,by rw [take_len hk2],by rw [take_len hk2]; exact hRF6,HBF.out⟩ hp6; have HP6:=Lib.hid hRC6; have HG6:=Lib.hid hG6; have HQ6:=Lib.hid hp6; have HB6:=Lib.hid hB6; clear hRC6 hG6 hp6 hB6 hJ6 hc6 hRF6)
      (refine (wpIn_wide (n:=n)).1 ?_; gi_wp2; refine ⟨fun h => (by cases h),?_⟩; refine hRd.mono ?_; rintro e W7 (⟨rfl,hJ7,hc7⟩ | ⟨rfl,hJx7⟩); (gi_wp2; go_wp2; go_roundw; (case rel => exact grp_rel hc7 HB6.out HP6.out HBC.out HG6.out hJ7 hql hk2); (case measure => rw [grp_left hc7 HB6.out,c1]; show q.length - k < q.length; omega)); (gi_wp2; go_wp2; refine bodyPost_ret (results_none rfl _ _ _) rfl ?_; exact ⟨⟨_,rfl⟩,.inr ⟨_,HQ6.out,hJx7⟩⟩))
    ·have hhead : k = head1 q:=head1_eq q h0 k hk1 hk2 (fun j hj => hin.out j hj (by omega)) (fun h => absurd h hkq)
     (obtain ⟨Af,hrunF,hRF,hblkF⟩:=RP.fullRun hR.out k (by omega) (by omega); obtain ⟨Ac,Cc,hrunC,hRC,hblkC⟩:=RP.cutRunB hR.out k (by omega); have f2 : wr.frozen? ⟨B,0,none⟩ = false:=(hbel.out.frozen (p:=⟨B,0,none⟩) (lt_of_cell c1)).trans f1; have H6:=fun nq => Lib.hid (grp_at6 (nq:=nq) hB.out hbel.out hRF hRC (fun ad h => by obtain ⟨ad0,e1,e2⟩:=hblkF ad h; rw [e2]; exact hblk.out _ e1) (fun ad h => by obtain ⟨ad0,e1,e2⟩:=hblkC ad h; rw [e2]; exact hblk.out _ e1) hYB hG.out hhead h0); have HBF:=Lib.hid (show ∀ ad,Af = some ad → Yr ad.block from fun ad h => by obtain ⟨ad0,e1,e2⟩:=hblkF ad h; rw [e2]; exact hblk.out _ e1); have HBC:=Lib.hid (show ∀ ad,Ac = some ad → Yr ad.block from fun ad h => by obtain ⟨ad0,e1,e2⟩:=hblkC ad h; rw [e2]; exact hblk.out _ e1); have hk0 : (0 : Int) < (k : Int):=(by omega); have HH:=Lib.hid hhead; clear hhead hRF hRC hblkF hblkC)
     go_wp2
     go_quiet (fail)
     go_upto_region 6 with (fail)
     (obtain ⟨W6,hW6⟩ : ∃ W6,W6 = ((wr.drewN nq).setCell ⟨B,0,none⟩ (.slice Ac (q.length - k) Cc)):=⟨_,rfl⟩; have h6:=(H6 nq).out; rw [← hW6] at h6 ⊢; clear hW6 H6; obtain ⟨hB6,hc6,hRF6,hRC6,hp6,hG6⟩:=h6; have hJ6:=HJ.out _ _ _ hJd.out hc6; obtain ⟨fn,tm,asg,bod,hy,hRd⟩:=HY.out dn (q.take k) #[.slice Af k k] W6 hJ6 ⟨Af,k,by rw [take_len hk2],by rw [take_len hk2]; exact hRF6,HBF.out⟩ hp6; have HP6:=Lib.hid hRC6; have HG6:=Lib.hid hG6; have HQ6:=Lib.hid hp6; have HB6:=Lib.hid hB6; clear hRC6 hG6 hp6 hB6 hJ6 hc6 hRF6)
     (refine (wpIn_wide (n:=n)).1 ?_; gi_wp2; refine ⟨fun h => (by cases h),?_⟩; refine hRd.mono ?_; rintro e W7 (⟨rfl,hJ7,hc7⟩ | ⟨rfl,hJx7⟩); (gi_wp2; go_wp2; go_roundw; (case rel => exact grp_rel hc7 HB6.out HP6.out HBC.out HG6.out hJ7 hql hk2); (case measure => rw [grp_left hc7 HB6.out,c1]; show q.length - k < q.length; omega)); (gi_wp2; go_wp2; refine bodyPost_ret (results_none rfl _ _ _) rfl ?_; exact ⟨⟨_,rfl⟩,.inr ⟨_,HQ6.out,hJx7⟩⟩))
  ·obtain rfl : q = []:=List.eq_nil_of_length_eq_zero (by omega)
   have hfin : grp r = dn:=by have:=hG.out; rw [grp_nil,List.append_nil] at this; exact this
   have HF:=Lib.hid hfin
   clear hfin
   have c2 : wr.cell? ⟨B,0,none⟩ = some (.slice A 0 C):=c1
   clear c1
   go_wp2
   go_end0
   exact ⟨⟨_,rfl⟩,.inl (by rw [HF.out]; exact hJd.out)⟩
theorem groups_iter (n B : Nat) (r : List PR) (A0 : Option Addr) (C0 : Nat) (W : World) (hB : W.heap[B]? = some (.cells #[.slice A0 r.length C0] 37 (0,0))) (hr : RP W (.slice A0 r.length C0) r) (hblk : ∀ ad,A0 = some ad → ad.block < B) (hl : r.length ≤ 4398046511104) :
  IterC Fence.wide n Tryz.prog 156 #[.pointer (some ⟨B,0,none⟩)] (fun k => k = B) (fun k => k ≤ B) (ElP fun k => k < B) (grp r) W:=by
 have h:=groups_iter0 n B r (fun k => k < B) A0 C0 W hB hr hblk (Nat.lt_irrefl B) hl
 have e : (fun k => k = B ∨ k < B) = fun k => k ≤ B:=by funext k; simp only [eq_iff_iff]; omega
 rwa [e] at h
end Go.Proofs.YtehllcbnheicoaaGreatDoor
