/- Lemmas for FoldTells, part 32: walks of the functions that it reaches, and the plain laws behind them. -/
import Derived.Test.YtehllcbnheicoaaGreatDoorFoldTellsK31
set_option linter.unusedSimpArgs false
set_option linter.unusedVariables false
set_option maxRecDepth 100000
set_option maxHeartbeats 16000000
namespace Go.Proofs.YtehllcbnheicoaaGreatDoor
open Go.RowKit Oct Go.WideMaps Go.Maps
attribute [local irreducible] wpG
def doesAt (w : World) : Prop:=∀ k,1 ≤ k → k ≤ 23 → w.cell? ⟨0,k,none⟩ = some (.func (.func (doesL.getD k 0)) #[] #[])
theorem doesAt.below {w w' : World} (h : doesAt w) (hB : Below w.heap.size w w') : doesAt w':=fun k h1 h2 => Below.keeps hB (h k h1 h2)
theorem bne_t {a b : Nat} (h : a ≠ b) : ((a : Int) != (b : Int)) = true:=by rw [bne_iff_ne]; omega
theorem bne_f {a b : Nat} (h : a = b) : ((a : Int) != (b : Int)) = false:=by subst h; simp
theorem ends_in {texts : List (List UInt8)} {code : List VI} {role : UInt8} (h : (throughV texts code role).2.1 = 0) (hc : code.length ≤ 5000) : (throughV texts code role).2.2.ends.length = code.length ∧ ∀ j,j < code.length → 0 ≤ (throughV texts code role).2.2.ends.getD j 0 ∧ (throughV texts code role).2.2.ends.getD j 0 ≤ 5000:=by
 have hg:=(goodM_of (texts:=texts) (code:=code) (role:=role) h (ins:=List.replicate (inputsV role) []) (by simp) (fun s hs => by rw [(List.mem_replicate.1 hs).2]; simp)).1
 refine ⟨ends_len hg,fun j hj => ?_⟩
 have hE : (throughV texts code role).2.2.ends = (stV texts.length (inputsV role) role code code.length).ends:=hg.ends
 have hr:=(hg.run (Nat.le_refl _)).inv.en j hj
 rw [hE]
 rcases hr with ⟨h0,-⟩ | ⟨-,-,h1,h2,-⟩
 ·have h0 : (stV texts.length (inputsV role) role code code.length).ends.getD j 0 = 0:=h0
  omega
 ·have h1 : (j : Int) < (stV texts.length (inputsV role) role code code.length).ends.getD j 0:=h1
  have h2 : (stV texts.length (inputsV role) role code code.length).ends.getD j 0 < (code.length : Int):=h2
  omega
theorem sep_start {base : Nat} {w : World} {G M : Nat} {cs : List Value} {t : TypeId} {n : Nat} {c : Int → Nat} (hG : base ≤ G) (hM : base ≤ M) (hne : G ≠ M) (hb : Blk w G t cs) (hm : mapI w M n c) :
  Sep base w [blkPt G hG t cs,ownPt recMV (.slice none 0 0) [],ownPt recEa (.slice none 0 0) [],boxPt [],ownPt recKv (.slice none 0 0) [],ownPt recJ (.slice none 0 0) [],mapPq M n c]:=by
 refine ⟨fun p hp => ?_,?_⟩
 ·simp only [List.mem_cons,List.not_mem_nil,or_false] at hp
  rcases hp with rfl | rfl | rfl | rfl | rfl | rfl | rfl
  ·exact hb
  ·exact Rec.Own.nil _ _
  ·exact Rec.Own.nil _ _
  ·exact ⟨fun e he => absurd he (List.not_mem_nil),List.Pairwise.nil⟩
  ·exact Rec.Own.nil _ _
  ·exact Rec.Own.nil _ _
  ·exact ⟨hM,hm⟩
 ·have hn : ∀ {α : Type} (R : Rec α) (k : Nat),¬ (ownPt (base:=base) R (.slice none 0 0) []).fp k:=fun R k hk => by cases hk
  have hx : ∀ k,¬ (boxPt (base:=base) []).fp k:=fun k hk => by obtain ⟨e,he,_⟩:=hk; cases he
  refine List.Pairwise.cons (fun q hq k hk hk' => ?_) (List.Pairwise.cons (fun q _ k hk => absurd hk (hn _ k)) (List.Pairwise.cons (fun q _ k hk => absurd hk (hn _ k)) (List.Pairwise.cons (fun q _ k hk => absurd hk (hx k)) (List.Pairwise.cons (fun q _ k hk => absurd hk (hn _ k)) (List.Pairwise.cons (fun q _ k hk => absurd hk (hn _ k)) (List.pairwise_singleton _ _))))))
  simp only [List.mem_cons,List.not_mem_nil,or_false] at hq
  rcases hq with rfl | rfl | rfl | rfl | rfl | rfl
  ·exact hn _ k hk'
  ·exact hn _ k hk'
  ·exact hx k hk'
  ·exact hn _ k hk'
  ·exact hn _ k hk'
  ·exact hne ((show k = G from hk).symm.trans hk')
theorem askRun_false {texts : List (List UInt8)} {code : List VI} {role : UInt8} {ins : List (List UInt8)} {fuel : Int} (h : ¬ ((throughV texts code role).2.1 = 0 ∧ ins.length = inputsV role ∧ 0 ≤ fuel ∧ fuel ≤ 65536 ∧ ∀ s ∈ ins,s.length ≤ 1024)) : askRun texts code role ins fuel = false:=by
 cases h2 : askRun texts code role ins fuel with
 | false => rfl
 | true => exact absurd (askRun_ok h2) h
theorem made_any (tv cv iv : Value) (texts : List (List UInt8)) (code : List VI) (role : UInt8) (ins : List (List UInt8)) (fuel : Int) (w : World) (hA : AskV w tv cv texts code) (hi : recS.Row w iv ins) (hil : ins.length ≤ 10) (hcl : code.length ≤ 5000)
  (his : ∀ s ∈ ins,s.length ≤ 140737488355328) (hf0 : -9223372036854775808 ≤ fuel) (hf1 : fuel ≤ 9223372036854775807) (hGl : GlobV w) (hdo : doesAt w) :
  Calls Tryz.prog 148 #[.agg #[tv,cv],.int .u8 (role.toNat : Int),iv,.int .i64 fuel] w fun e w' =>
   ((askRun texts code role ins fuel = false ∧ e = .returned (.tuple #[.pointer none,.int .i64 2])) ∨
    (askRun texts code role ins fuel = true ∧ ∃ base G M ev,e = .returned (.tuple #[.pointer (some ⟨G,0,none⟩),.int .i64 0]) ∧ w.heap.size ≤ base ∧ MS base w' G M ⟨texts,code,ins,(throughV texts code role).2.2.ends⟩ tv cv iv ev [] 0 [] (List.replicate 8 (0,[])) [] [] ∧
     ∀ w'',Below base w' w'' → EnvV w'' ⟨texts,code,ins,(throughV texts code role).2.2.ends⟩ tv cv iv ev)) ∧ Below w.heap.size w w':=by
 obtain ⟨at_,ct,rfl,-,-⟩:=recS_open hA.t
 obtain ⟨ac,cc,rfl,-,-⟩:=recIns_open hA.c
 obtain ⟨ai,ci,rfl,-,-⟩:=recS_open hi
 have HEN:=Lib.hid (fun w' (hB : Below w.heap.size w w') => Ends_any _ _ texts code role w' (hA.below hB))
 have HI:=Lib.hid hi
 have HA:=Lib.hid hA
 have HG:=Lib.hid hGl
 have HD:=Lib.hid hdo
 have HIS:=Lib.hid his
 obtain ⟨W1,hW1⟩ : ∃ W1,W1 = w.alloc (.cells #[.slice at_ texts.length ct,.slice ac code.length cc] 25):=⟨_,rfl⟩
 have hb1 : Below w.heap.size w W1:=by rw [hW1]; exact b_alloc _ _
 have hx : Blk W1 w.heap.size 25 [.slice at_ texts.length ct,.slice ac code.length cc]:=by rw [hW1]; exact Blk.new w _ _
 have x0:=hx.cell (k:=0) rfl
 have x1:=hx.cell (k:=1) rfl
 have HB1:=Lib.hid hb1
 have HX:=Lib.hid hx
 obtain ⟨B4,hB4⟩ : ∃ B4,B4 = w.heap.size:=⟨_,rfl⟩
 clear hA hi hGl hdo his hb1 hx
 go_enter Tryz.func148,Tryz.ntmps148
 go_upto_region 1 with fail
 rw [← hW1,← hB4]
 rw [← hB4] at x0 x1
 have HB4:=Lib.hid hB4
 clear hW1 hB4
 go_upto_if 25 with (go_at_call 179; refine (HEN.out _ HB1.out).mono ?_; rintro e w2 ⟨⟨ev,rfl,hev⟩,hB2⟩)
 obtain ⟨e0,he0⟩ : ∃ e0,e0 = (throughV texts code role).2.1:=⟨_,rfl⟩
 have HE0:=Lib.hid he0
 rw [← he0] at hev ⊢
 have HJ:=Lib.hid hev
 have HB2:=Lib.hid hB2
 obtain ⟨N,hN⟩ : ∃ N,N = inputsV role:=⟨_,rfl⟩
 have HN:=Lib.hid hN
 clear hev hB2 he0 hN
 go_cut [12] (fun t wx => t = .int .i64 (N : Int) ∧ wx = w2)
 case first =>
  by_cases hr : role = 1
  ·have t1 : ((role.toNat : Int) == 1) = true:=by rw [hr]; rfl
   have HN2:=Lib.hid (show N = 1 by rw [HN.out,hr]; rfl)
   clear hr
   go_wp2_with fail
   go_meet
   case rel => exact ⟨by rw [HN2.out]; rfl,rfl⟩
  ·have t1 : ((role.toNat : Int) == 1) = false:=by
    rw [beq_eq_false_iff_ne]
    intro h
    exact hr (UInt8.toNat_inj.1 (by show role.toNat = 1; omega))
   have HN2:=Lib.hid (show N = 2 by rw [HN.out]; unfold inputsV; rw [if_neg hr])
   clear hr
   go_wp2_with fail
   go_meet
   case rel => exact ⟨by rw [HN2.out]; rfl,rfl⟩
 case rest =>
  obtain ⟨rfl,rfl⟩:=hcut
  have hb2:=Lib.hid (bt HB1.out HB2.out)
  by_cases k1 : e0 = 0
  ·have t1 : ((e0 : Int) != 0) = false:=by rw [k1]; rfl
   by_cases k2 : ins.length = N
   ·have t2 : ((ins.length : Int) != (N : Int)) = false:=bne_f k2
    by_cases k3 : fuel < 0
    ·have HF:=Lib.hid (askRun_false (texts:=texts) (code:=code) (role:=role) (ins:=ins) (fuel:=fuel) (fun h => by omega))
     clear k1 k2
     go_wp2_with fail
     go_ret2
     exact ⟨.inl ⟨HF.out,rfl⟩,hb2.out⟩
    ·by_cases k4 : 65536 < fuel
     ·have HF:=Lib.hid (askRun_false (texts:=texts) (code:=code) (role:=role) (ins:=ins) (fuel:=fuel) (fun h => by omega))
      clear k1 k2
      go_wp2_with fail
      go_ret2
      exact ⟨.inl ⟨HF.out,rfl⟩,hb2.out⟩
     ·have K1:=Lib.hid k1
      have K2:=Lib.hid k2
      have K3:=Lib.hid k3
      have K4:=Lib.hid k4
      have hJ2:=HJ.out
      rw [if_pos k1] at hJ2
      obtain ⟨ends,hends⟩ : ∃ x,x = (throughV texts code role).2.2.ends:=⟨_,rfl⟩
      rw [← hends] at hJ2
      obtain ⟨hel,hein⟩:=ends_in (texts:=texts) (code:=code) (role:=role) (by rw [← HE0.out]; exact k1) hcl
      rw [← hends] at hel hein
      have HIN:=Lib.hid hein
      obtain ⟨ae,ce,rfl,hec⟩:=recJ_openM hJ2
      rw [hel] at hJ2 ⊢
      have HJ2:=Lib.hid hJ2
      have HEC:=Lib.hid hec
      have HEL:=Lib.hid hel
      have HEN2:=Lib.hid hends
      clear hJ2 hec hel hends hein
      have j1 : (ins.length : Int) ≤ 10:=by omega
      clear k1 k2
      go_wp2_with fail
      go_loopw [44] (fun t wr => ∃ k : Nat,k ≤ ins.length ∧ t = .int .i64 k ∧ wr = wc ∧ Hid (∀ j (hj : j < ins.length),j < k → ins[j].length ≤ 1024)) (fun t _ => ins.length - (intOf t).toNat)
      case atStart => exact ⟨0,by omega,rfl,rfl,fun j _ h => by omega⟩
      case round =>
       obtain ⟨k,hk,rfl,rfl,HH⟩:=hrel
       by_cases h0 : k < ins.length
       ·obtain ⟨ai',ci',hiv,-,hic⟩:=recS_open (HI.out.below hb2.out)
        obtain ⟨b,off,rfl,d0⟩:=hic k h0
        injection hiv with e1 e2 e3
        subst e1 e3
        have i0 : (0 : Int) ≤ (k : Int):=by omega
        have i1 : (k : Int) < (ins.length : Int):=by omega
        have hsl:=HIS.out _ (List.getElem_mem h0)
        obtain ⟨s,hs⟩ : ∃ s,s = ins[k]:=⟨_,rfl⟩
        rw [← hs] at d0 hsl
        have HS:=Lib.hid hs
        have hsl' : (s.length : Int) ≤ 140737488355328:=by omega
        clear hic hs
        by_cases hl : 1024 < s.length
        ·have t5 : (1024 : Int) < (s.length : Int):=by omega
         have HF:=Lib.hid (askRun_false (texts:=texts) (code:=code) (role:=role) (ins:=ins) (fuel:=fuel) (fun h => by have:=h.2.2.2.2 _ (List.getElem_mem h0); rw [← HS.out] at this; omega))
         go_wp2_with fail
         go_ret2
         exact ⟨.inl ⟨HF.out,rfl⟩,hb2.out⟩
        ·have t5 : ¬ (1024 : Int) < (s.length : Int):=by omega
         have HL:=Lib.hid hl
         clear hl
         go_wp2_with fail
         go_roundw
         case rel => exact ⟨k + 1,by omega,by go_num,by trivial,fun j hj hjk => by
          by_cases hjk2 : j < k
          ·exact HH.out j hj hjk2
          ·obtain rfl : j = k:=by omega
           rw [← HS.out]; have:=HL.out; omega⟩
         case measure => simp [intOf]; omega
       ·obtain ⟨V,hV⟩ : ∃ V,V = wr:=⟨_,rfl⟩
        subst hV
        have HAL:=Lib.hid (fun s (hs : s ∈ ins) => show s.length ≤ 1024 by
         obtain ⟨j,hj,rfl⟩:=List.getElem_of_mem hs
         exact HH.out j hj (by omega))
        have HF:=Lib.hid (askRun_of (texts:=texts) (code:=code) (role:=role) (ins:=ins) (fuel:=fuel) (by rw [← HE0.out]; exact K1.out) (by rw [← HN.out]; exact K2.out) (by have:=K3.out; omega) (by have:=K4.out; omega) HAL.out)
        have i1 : ¬ (k : Int) < (ins.length : Int):=by omega
        have x0:=Below.keeps (bt HB2.out (Below.refl _ _)) x0
        have x1:=Below.keeps (bt HB2.out (Below.refl _ _)) x1
        have hmm:=@run_makeMap Tryz.prog
        go_upto_region 14 with fail
        obtain ⟨M,hMq⟩ : ∃ M,M = V.heap.size:=⟨_,rfl⟩
        obtain ⟨cs,hcs⟩ : ∃ cs : List Value,cs = [.slice at_ texts.length ct,.slice ac code.length cc,.slice ai ins.length ci,.slice ae code.length ce,.map (some V.heap.size),.int .i64 0,.slice none 0 0,.int .i64 0,.string ⟨#[]⟩,.int .i64 0,.string ⟨#[]⟩,.int .i64 0,.string ⟨#[]⟩,.int .i64 0,.string ⟨#[]⟩,.int .i64 0,.string ⟨#[]⟩,.int .i64 0,.string ⟨#[]⟩,.int .i64 0,.string ⟨#[]⟩,.int .i64 0,.string ⟨#[]⟩,.slice none 0 0,.slice none 0 0,.string ⟨#[]⟩,.int .i64 0,.slice none 0 0]:=⟨_,rfl⟩
        obtain ⟨W3,hW3⟩ : ∃ W3,W3 = (V.alloc (.map #[] 0)).alloc (.cells cs.toArray 227):=⟨_,rfl⟩
        have hm0 : mapI (V.alloc (.map #[] 0)) M 0 (cntEnd code ends 0):=by rw [hMq]; exact ⟨_,World.ownsMap_made _ _ _ _,fun i => rfl⟩
        have hm3 : mapI W3 M 0 (cntEnd code ends 0):=hm0.block (by rw [hW3]; exact Below.heap_alloc _ _ _ hm0.lt)
        have hsz : (V.alloc (.map #[] 0)).heap.size = M + 1:=by rw [hMq]; exact size_alV _ _
        have hG3 : Blk W3 (M + 1) 227 cs:=by rw [hW3,← hsz]; exact Blk.new _ _ _
        have hb3 : Below V.heap.size V W3:=by rw [hW3]; exact bt (b_alloc _ _) (b_alloc _ _)
        have hcm : cs = mCells ⟨.slice at_ texts.length ct,.slice ac code.length cc,.slice ai ins.length ci,.slice ae code.length ce,.map (some M),[],0⟩ 0 (.slice none 0 0) (List.replicate 8 (0,[])) (.slice none 0 0) (.slice none 0 0) [] 0 (.slice none 0 0):=by rw [hcs,hMq]; rfl
        have hg3 : (((V.alloc (.map #[] 0)).alloc (.cells #[.slice at_ texts.length ct,.slice ac code.length cc,.slice ai ins.length ci,.slice ae code.length ce,.map (some V.heap.size),.int .i64 0,.slice none 0 0,.int .i64 0,.string ⟨#[]⟩,.int .i64 0,.string ⟨#[]⟩,.int .i64 0,.string ⟨#[]⟩,.int .i64 0,.string ⟨#[]⟩,.int .i64 0,.string ⟨#[]⟩,.int .i64 0,.string ⟨#[]⟩,.int .i64 0,.string ⟨#[]⟩,.int .i64 0,.string ⟨#[]⟩,.slice none 0 0,.slice none 0 0,.string ⟨#[]⟩,.int .i64 0,.slice none 0 0] 227))) = W3:=by rw [hW3,hcs]
        rw [hg3]
        have HM3:=Lib.hid hm3
        have HG3:=Lib.hid hG3
        have HB3:=Lib.hid hb3
        have HCM:=Lib.hid hcm
        rw [← hMq]
        have HMQ:=Lib.hid hMq
        have x1':=Below.keeps HB3.out x1
        have j5 : (code.length : Int) ≤ 5000:=by omega
        clear hm0 hm3 hsz hG3 hb3 hcm hg3 hW3 hcs hMq x0 x1
        go_wp2_with fail
        go_loopw [61] (fun t wr => ∃ k : Nat,k ≤ code.length ∧ t = .int .i64 k ∧ Hid (mapI wr M k (cntEnd code ends k)) ∧ Hid (Chg (fun b => b = M) W3 wr)) (fun t _ => code.length - (intOf t).toNat)
        case atStart => exact ⟨0,by omega,rfl,HM3.out,Chg.refl _ _⟩
        case round =>
         obtain ⟨q,hq,rfl,HMU,HCU⟩:=hrel
         have hBU : Below M W3 wr:=HCU.out.below (fun k hk => by rw [show k = M from hk]; exact Nat.le_refl _) (by have:=HB3.out.size; rw [← HMQ.out] at this; exact this)
         have hBw : Below w.heap.size w wr:=(bt hb2.out HB3.out).trans (hBU.mono (by rw [HMQ.out]; exact hb2.out.size))
         have HBU:=Lib.hid hBU
         have HBW:=Lib.hid hBw
         clear hBU hBw
         by_cases h1 : q < code.length
         ·obtain ⟨ac',cc',hcv,-,hcc⟩:=recIns_open (HA.out.c.below HBW.out)
          obtain ⟨b,off,rfl,d0,d1⟩:=hcc q h1
          injection hcv with e1 e2 e3
          subst e1 e3
          have i0 : (0 : Int) ≤ (q : Int):=by omega
          have i1 : (q : Int) < (code.length : Int):=by omega
          have hgd : code.getD q (0,0) = code[q]:=by rw [List.getD_eq_getElem?_getD,List.getElem?_eq_getElem h1]; rfl
          have HSU:=Lib.hid (fun i => cntEnd_succ code ends q i)
          obtain ⟨op,hop⟩ : ∃ op,op = code[q].1:=⟨_,rfl⟩
          obtain ⟨y,hy⟩ : ∃ y,y = code[q].2:=⟨_,rfl⟩
          rw [← hop] at d0
          rw [← hy] at d1
          rw [hgd,← hop] at HSU
          have hbl : b < wr.heap.size:=lt_of_cell d0
          clear hcc hgd hop hy
          by_cases h22 : op = 22
          ·have t5 : ((op.toNat : Int) == 22) = true:=by rw [h22]; rfl
           have H22:=Lib.hid h22
           clear h22
           go_upto_region 18 with fail
           obtain ⟨U,hU⟩ : ∃ U,U = wr.alloc (.cells #[.int .u8 (op.toNat : Int),.int .u8 (y.toNat : Int)] 97):=⟨_,rfl⟩
           have hbU : Below wr.heap.size wr U:=by rw [hU]; exact b_alloc _ _
           rw [← hU]
           have hBV : Below V.heap.size V wr:=HB3.out.trans (by rw [← HMQ.out]; exact HBU.out)
           have g0:=(HG3.out.chg HCU.out (by omega)).cell (k:=4) (v:=.map (some M)) (by rw [HCM.out]; rfl)
           have g0:=Below.keeps hbU g0
           have hqe : q < ends.length:=by rw [HEL.out]; exact h1
           obtain ⟨be,oe,rfl,g1⟩:=HEC.out q hqe
           have g1:=Below.keeps (bt hBV hbU) g1
           have hge : ends.getD q 0 = ends[q]:=by rw [List.getD_eq_getElem?_getD,List.getElem?_eq_getElem hqe]; rfl
           have hein:=HIN.out q h1
           obtain ⟨v,hv⟩ : ∃ v,v = ends[q]:=⟨_,rfl⟩
           rw [← hv] at g1 hge
           rw [hge] at HSU hein
           have hmU:=HMU.out.block (hbU.block M HMU.out.lt)
           have hcl2:=cntEnd_le code ends q v
           obtain ⟨c,hc⟩ : ∃ c,c = cntEnd code ends q v:=⟨_,rfl⟩
           rw [← hc] at hcl2
           have HC:=Lib.hid hc
           have hlk : ∀ w',Below U.heap.size U w' → (Instr.lookup 220 (.map (some M)) (.int .i64 v) false).run Tryz.prog w' = .ok (.int .i64 (c : Int)) w':=fun w' hB => by
            have:=(hmU.block (hB.block M hmU.lt)).look (i:=v) (by omega) (by omega)
            rw [HC.out]
            exact this
           have HLK:=Lib.hid hlk
           have HMU2:=Lib.hid hmU
           have HBU2:=Lib.hid hbU
           have h2a : (c : Int) ≤ 5000:=by omega
           clear hv hge hc hlk hmU hBV hbU hU
           refine region_tail 10 [(3,.exact Bel (.map (some M))),(7,.exact Bel (.int .i64 v)),(8,.exact Bel (.int .i64 (c : Int)))] (by kernel_rfl) (by kernel_rfl) ?_
           simp only [List.take_succ_cons,List.take_zero,List.drop_succ_cons,List.drop_zero]
           (repeat (first | (refine wpG_skip (by kernel_rfl) (fun K hK => ?_); go_big_quiet_skip; refine wpQuiet_nil (hK _ ?_); clear hK K) | (refine wpG_quiet (by rfl) (by rfl) (fun K hK => ?_); go_big_quiet_want; go_big_quiet_op; go_big_quiet_on; refine wpQuiet_nil (hK _ ?_); clear hK K) | (refine wpG_nilOk rfl rfl rfl (by kernel_rfl) (fun K hK => ?_); go_simp; refine hK _ ?_; clear hK K)))
           refine wpG_exact rfl (by kernel_rfl) (fun w' G hB hS hG => ?_) (fun K hK => ?_)
           ·have cc:=Below.keeps hB g0
            go_simp
            exact hG _ (Bel.refl _)
           go_simp; refine hK _ ?_; clear hK K; (repeat (first | (refine wpG_skip (by kernel_rfl) (fun K hK => ?_); go_big_quiet_skip; refine wpQuiet_nil (hK _ ?_); clear hK K) | (refine wpG_quiet (by rfl) (by rfl) (fun K hK => ?_); go_big_quiet_want; go_big_quiet_op; go_big_quiet_on; refine wpQuiet_nil (hK _ ?_); clear hK K) | (refine wpG_nilOk rfl rfl rfl (by kernel_rfl) (fun K hK => ?_); go_simp; refine hK _ ?_; clear hK K)))
           refine wpG_exact rfl (by kernel_rfl) (fun w' G hB hS hG => ?_) (fun K hK => ?_)
           ·have cc:=Below.keeps hB g1
            go_simp
            exact hG _ (Bel.refl _)
           go_simp; refine hK _ ?_; clear hK K; (repeat (first | (refine wpG_skip (by kernel_rfl) (fun K hK => ?_); go_big_quiet_skip; refine wpQuiet_nil (hK _ ?_); clear hK K) | (refine wpG_quiet (by rfl) (by rfl) (fun K hK => ?_); go_big_quiet_want; go_big_quiet_op; go_big_quiet_on; refine wpQuiet_nil (hK _ ?_); clear hK K) | (refine wpG_nilOk rfl rfl rfl (by kernel_rfl) (fun K hK => ?_); go_simp; refine hK _ ?_; clear hK K)))
           refine wpG_exact rfl (by kernel_rfl) (fun w' G hB hS hG => ?_) (fun K hK => ?_)
           ·have cc:=HLK.out _ hB
            go_simp
            exact hG _ (Bel.refl _)
           go_simp; refine hK _ ?_; clear hK K; (repeat (first | (refine wpG_skip (by kernel_rfl) (fun K hK => ?_); go_big_quiet_skip; refine wpQuiet_nil (hK _ ?_); clear hK K) | (refine wpG_quiet (by rfl) (by rfl) (fun K hK => ?_); go_big_quiet_want; go_big_quiet_op; go_big_quiet_on; refine wpQuiet_nil (hK _ ?_); clear hK K) | (refine wpG_nilOk rfl rfl rfl (by kernel_rfl) (fun K hK => ?_); go_simp; refine hK _ ?_; clear hK K)))
           refine wpG_nilM7 ?_
           (intro w' hB hA; simp only [Facts.all_some,Facts.all_none,and_true] at hA)
           have hown:=HMU2.out.block (hB.block M HMU2.out.lt)
           obtain ⟨D,hown,hat⟩:=hown
           have HAT:=Lib.hid hat
           have hkey:=keyI (n:=v) (by omega) (by omega)
           have hkm : q < maxLen:=by unfold maxLen; omega
           have HBF:=Lib.hid (bt HBU2.out hB)
           clear hat hB hA
           go_wp2_with (at_mapUpdate; refine wpList_mapUpdate_own _ rfl _ _ _ 220 rfl 3 3 lawI Tryz.underlying220 _ M q _ rfl hown hkm _ _ _ rfl rfl hkey _ [] (plainElem_int Tryz.underlying3 (WalkArith.wf_i64 (by omega))) ?_; intro w1 hown1 hgrow1)
           refine ⟨⟨q + 1,by omega,by go_num,⟨_,hown1,fun i => ?_⟩,(HCU.out.trans (Chg.of_below HBF.out)).trans ⟨hgrow1.os,hgrow1.tape,hgrow1.output,hgrow1.size,fun b hb hn => hgrow1.block b hb (fun e => hn (Option.some.inj e))⟩⟩,by simp [intOf]; omega⟩
           rw [HSU.out i]
           by_cases hvi : v = i
           ·subst hvi
            rw [if_pos ⟨H22.out,rfl⟩,atKey_put_same hown.isMap (by trivial),← HC.out]
            rfl
           ·rw [if_neg (fun h => hvi h.2),atKey_put_other (by intro e; injection e with _ e; exact hvi e.symm),HAT.out i]
            rfl
          ·have t5 : ((op.toNat : Int) == 22) = false:=by
            rw [beq_eq_false_iff_ne]
            intro h
            exact h22 (UInt8.toNat_inj.1 (by show op.toNat = 22; omega))
           have HFN:=Lib.hid (funext fun i => by rw [HSU.out i,if_neg (fun h => h22 h.1)]; rfl : cntEnd code ends (q + 1) = cntEnd code ends q)
           clear h22
           have hba:=b_alloc wr (.cells #[.int .u8 (op.toNat : Int),.int .u8 (y.toNat : Int)] 97)
           have HBA:=Lib.hid hba
           clear hba
           go_wp2_with fail
           exact ⟨⟨q + 1,by omega,by go_num,by rw [HFN.out]; exact (HMU.out.block (HBA.out.block M HMU.out.lt)).mono (Nat.le_succ _),HCU.out.trans (Chg.of_below HBA.out)⟩,by simp [intOf]; omega⟩
         ·obtain rfl : q = code.length:=by omega
          go_wp2_with fail
          go_ret2
          refine ⟨.inr ⟨by rw [← HE0.out] at *; exact HF.out,M,M + 1,M,.slice ae code.length ce,rfl,by rw [HMQ.out]; exact hb2.out.size,?_,?_⟩,HBW.out⟩
          ·rw [← HEN2.out]
           refine ⟨[],_,_,_,_,⟨Nat.le_succ _,rfl,sep_start (t:=227) (n:=code.length) (c:=cntEnd code ends code.length) (Nat.le_succ _) (Nat.le_refl _) (by omega) (by rw [← HCM.out]; exact HG3.out.chg HCU.out (by omega)) HMU.out⟩,rfl,fun e he => absurd he (List.not_mem_nil)⟩
          ·intro w'' hB
           have hb9 : Below w.heap.size w w'':=HBW.out.trans (hB.mono (by rw [HMQ.out]; exact hb2.out.size))
           have hbM : Below V.heap.size V w'':=(HB3.out.trans (by rw [← HMQ.out]; exact HBU.out)).trans (by rw [← HMQ.out]; exact hB)
           rw [← HEN2.out]
           exact ⟨HA.out.t.below hb9,HA.out.c.below hb9,HI.out.below hb9,HJ2.out.below hbM,HG.out.below hb9,HD.out.below hb9⟩
   ·have t2 : ((ins.length : Int) != (N : Int)) = true:=bne_t k2
    have HF:=Lib.hid (askRun_false (texts:=texts) (code:=code) (role:=role) (ins:=ins) (fuel:=fuel) (fun h => k2 (by rw [HN.out]; exact h.2.1)))
    clear k1 k2
    go_wp2_with fail
    go_ret2
    exact ⟨.inl ⟨HF.out,rfl⟩,hb2.out⟩
  ·have t1 : ((e0 : Int) != 0) = true:=by rw [bne_iff_ne]; omega
   have HF:=Lib.hid (askRun_false (texts:=texts) (code:=code) (role:=role) (ins:=ins) (fuel:=fuel) (fun h => k1 (by rw [HE0.out]; exact h.1)))
   clear k1
   go_wp2_with fail
   go_ret2
   exact ⟨.inl ⟨HF.out,rfl⟩,hb2.out⟩
end Go.Proofs.YtehllcbnheicoaaGreatDoor
