/- Lemmas for FoldTells, part 14: walks of the functions that it reaches, and the plain laws behind them. -/
import Derived.BigRegion
import Derived.Test.YtehllcbnheicoaaGreatDoorFoldTellsK13
set_option linter.unusedSimpArgs false
set_option linter.unusedVariables false
set_option maxRecDepth 100000
set_option maxHeartbeats 16000000
namespace Go.Proofs.YtehllcbnheicoaaGreatDoor
open Go.RowKit Oct
attribute [local irreducible] wpG
theorem cells_replicate (n : Nat) : recJ.cells (List.replicate n 0) = List.replicate n (.int .i64 0):=by
 induction n with
 | zero => rfl
 | succ n ih => rw [List.replicate_succ,List.replicate_succ,← ih]; rfl
theorem mk_ends (n : Nat) (hn : n ≤ 1000000) (w : World) : (Instr.makeSlice 168 (.int .i64 (n : Int)) (.int .i64 (n : Int))).run Tryz.prog w = .ok (.slice (some ⟨w.heap.size,0,none⟩) n n) (w.alloc (.cells (recJ.cells (List.replicate n 0)).toArray 3)):=by
 have h:=make_one (P:=Tryz.prog) 168 3 (.int .i64 0) 8 Tryz.underlying168 (by kernel_rfl) rfl n (by omega) (by omega) w
 rw [h,cells_replicate]
theorem size_alV (w : World) (o : Obj) : (w.alloc o).heap.size = w.heap.size + 1:=Array.size_push ..
theorem made_own (w : World) (n base : Nat) (hn : n ≤ 1000000) (hb : base ≤ w.heap.size) : recJ.Own (w.alloc (.cells (recJ.cells (List.replicate n 0)).toArray 3)) base (.slice (some ⟨w.heap.size,0,none⟩) n n) (List.replicate n 0):=by
 have h1 : (List.replicate n (0 : Int)).length = n:=List.length_replicate ..
 have h2 : recJ.cells (List.replicate n 0) = List.replicate n (.int .i64 0):=cells_replicate n
 have h3 : (1000000 : Nat) ≤ maxLen:=by decide
 have h4 : n ≤ maxLen:=by omega
 show (w.alloc (.cells (recJ.cells (List.replicate n 0)).toArray 3)).ownsRow base recJ.e recJ.n (.slice (some ⟨w.heap.size,0,none⟩) n n) (List.replicate n (0 : Int)).length (recJ.cells (List.replicate n 0))
 rw [h1,h2]
 refine ⟨by rw [List.length_replicate]; show n = n * 1; omega,.inr ⟨w.heap.size,n,(List.replicate n (.int .i64 0)).toArray,rfl,hb,?_,Nat.le_refl _,h4,?_,?_⟩⟩
 ·show (w.heap.push _)[w.heap.size]? = _
  rw [Array.getElem?_push_size]
  rfl
 ·rw [List.size_toArray,List.length_replicate]; show n = n * 1; omega
 ·show (List.replicate n (Value.int .i64 0)).take (n * 1) = _
  rw [Nat.mul_one,List.take_of_length_le (by rw [List.length_replicate]; exact Nat.le_refl _)]
section
variable {w : World} {base G : Nat} {tv cv bv sv ev : Value} {ip : Nat} {role : UInt8} {s : Vs}
theorem VG.setInp (h : VG w base G tv cv ip role s bv sv ev) (n : Nat) : VG (w.setCell ⟨G,2,none⟩ (.int .i64 (n : Int))) base G tv cv n role s bv sv ev ∧ Below base w (w.setCell ⟨G,2,none⟩ (.int .i64 (n : Int))):=by
 have hc : Chg (fun x => x = G) w (w.setCell ⟨G,2,none⟩ (.int .i64 (n : Int))):=Chg.setCell _ _ _ rfl
 have key : ∀ {β : Type} (R : Rec β) (x : Value) (l : List β),R.Own w base x l → (∀ b,x.ownBlock = some b → b ≠ G) → R.Own (w.setCell ⟨G,2,none⟩ (.int .i64 (n : Int))) base x l:=fun R x l ho hn => by
  obtain ⟨h1,h2⟩:=ho
  refine ⟨h1,?_⟩
  rcases h2 with h2 | ⟨g,cap,cur,rfl,hg,hh,r⟩
  ·exact .inl h2
  ·exact .inr ⟨g,cap,cur,rfl,hg,hc.at hh (hn g rfl),r⟩
 have hb:=h.blk.set 2 (.int .i64 (n : Int))
 exact ⟨⟨hb,key _ _ _ h.ob (fun b hb => (h.a1 b hb).1),key _ _ _ h.os (fun b hb => (h.a2 b hb).1),key _ _ _ h.oe h.a3,h.gb,h.a1,h.a2,h.a3⟩,hc.below (fun x hx => by have:=h.gb; omega) (Nat.le_trans h.gb (Nat.le_of_lt h.blk.lt))⟩
end
theorem start_VG (w : World) (tv cv : Value) (n base : Nat) (role : UInt8) (hn : n ≤ 1000000) (hb : base ≤ w.heap.size) (w1 w2 : World) (h1 : w1 = w.alloc (.cells (recJ.cells (List.replicate n 0)).toArray 3))
  (h2 : w2 = w1.alloc (.cells #[tv,cv,.int .i64 2,.int .u8 (role.toNat : Int),.string ⟨#[]⟩,.slice none 0 0,.slice none 0 0,.slice (some ⟨w.heap.size,0,none⟩) n n,.int .i64 0] 215)) :
  VG w2 base (w.heap.size + 1) tv cv 2 role (startV n) (.slice none 0 0) (.slice none 0 0) (.slice (some ⟨w.heap.size,0,none⟩) n n):=by
 have hs : w1.heap.size = w.heap.size + 1:=by rw [h1,size_alV]
 refine ⟨?_,Rec.Own.nil _ _,Rec.Own.nil _ _,?_,by omega,?_,?_,?_⟩
 ·rw [← hs,h2]
  exact Blk.new w1 ([tv,cv,.int .i64 2,.int .u8 (role.toNat : Int),.string ⟨#[]⟩,.slice none 0 0,.slice none 0 0,.slice (some ⟨w.heap.size,0,none⟩) n n,.int .i64 0] : List Value) _
 ·have ho:=made_own w n base hn hb
  rw [← h1] at ho
  rw [h2]
  exact ho.below (b_alloc _ _)
 ·intro b hb; cases hb
 ·intro b hb; cases hb
 ·intro b hb
  injection hb with hb
  show b ≠ _
  have : w.heap.size = b:=hb
  omega
def ThR (w w' : World) (tv cv : Value) (role : UInt8) (T : Nat × Nat × Vs) (e : Ending) : Prop :=
 ∃ G base inp bv sv ev,e = .returned (.tuple #[.pointer (some ⟨G,0,none⟩),.int .i64 (T.1 : Int),.int .i64 (T.2.1 : Int)]) ∧ VG w' base G tv cv inp role T.2.2 bv sv ev ∧ Below w.heap.size w w'
theorem throughV_no {texts : List (List UInt8)} {code : List VI} {role : UInt8} (h : (mayV texts code && roleOk role) = false) : throughV texts code role = (0,2,startV code.length):=by unfold throughV; rw [if_neg (by rw [h]; simp)]
theorem throughV_bad {texts : List (List UInt8)} {code : List VI} {role : UInt8} (h : (mayV texts code && roleOk role) = true) {r : Nat × Nat × Vs} (hr : runV texts.length (inputsV role) role 0 code (startV code.length) = r) (h0 : r.2.1 ≠ 0) : throughV texts code role = r:=by unfold throughV; rw [if_pos h,if_neg (by rw [hr]; exact h0),hr]
theorem throughV_good {texts : List (List UInt8)} {code : List VI} {role : UInt8} (h : (mayV texts code && roleOk role) = true) {r : Nat × Nat × Vs} (hr : runV texts.length (inputsV role) role 0 code (startV code.length) = r) (h0 : r.2.1 = 0) : throughV texts code role = (0,0,r.2.2):=by unfold throughV; rw [if_pos h,if_pos (by rw [hr]; exact h0),hr]
theorem start_inv (n : Nat) (hn : n ≤ 256) : InvV 0 (startV n):=⟨by simp [startV],by simp [startV],fun b hb => by simp [startV] at hb,by simp [startV]; exact hn,by simp [startV],by simp [startV]⟩
theorem ins_24 {texts : List (List UInt8)} {code : List VI} (h : mayV texts code = true) : texts.length ≤ 16 ∧ code.length ≤ 256 ∧ ∀ k (hk : k < code.length),code[k].1.toNat < 24:=by
 unfold mayV at h
 simp only [Bool.and_eq_true,decide_eq_true_eq,List.all_eq_true] at h
 obtain ⟨⟨⟨h1,h2⟩,h3⟩,h4⟩:=h
 refine ⟨h1,h2,fun k hk => ?_⟩
 have:=h4 _ (List.getElem_mem hk)
 unfold insOk at this
 simp only [Bool.and_eq_true,decide_eq_true_eq] at this
 omega
theorem through_any (tv cv : Value) (texts : List (List UInt8)) (code : List VI) (role : UInt8) (w : World) (ht : recS.Row w tv texts) (hc : recIns.Row w cv code) (hlt : texts.length ≤ 1000) (hlc : code.length ≤ 5000) (hm : ∀ s ∈ texts,s.length ≤ 140737488355328) (hE : EffM w) (hg : 1 < w.heap.size) :
  Calls Tryz.prog 107 #[.agg #[tv,cv],.int .u8 (role.toNat : Int)] w fun e w' => ThR w w' tv cv role (throughV texts code role) e:=by
 have HCK:=Lib.hid (fun w' (hB : Below w.heap.size w w') => CCheck_any tv cv texts code w' (ht.below hB) (hc.below hB) (by omega) (by omega) hm)
 have HEF:=Lib.hid (fun w' (hB : Below w.heap.size w w') => hE.below hB hg)
 have HG:=Lib.hid hg
 obtain ⟨at_,ct,rfl,-,-⟩:=recS_open ht
 obtain ⟨ac,cc,rfl,-,hci⟩:=recIns_open hc
 have HCI:=Lib.hid hci
 clear ht hc hci hm hE hg
 obtain ⟨W1,hW1⟩ : ∃ W1,W1 = w.alloc (.cells #[.slice at_ texts.length ct,.slice ac code.length cc] 25):=⟨_,rfl⟩
 have hb1 : Below w.heap.size w W1:=by rw [hW1]; exact b_alloc _ _
 have hs1 : W1.heap.size = w.heap.size + 1:=by rw [hW1,size_alV]
 have hx : Blk W1 w.heap.size 25 [.slice at_ texts.length ct,.slice ac code.length cc]:=by rw [hW1]; exact Blk.new w _ _
 have x0:=hx.cell (k:=0) rfl
 have x1:=hx.cell (k:=1) rfl
 have HB1:=Lib.hid hb1
 have HX1:=Lib.hid x1
 have HS1:=Lib.hid hs1
 have HG1:=Lib.hid (show 1 < W1.heap.size by have:=HG.out; omega)
 have hl1 : w.heap.size < W1.heap.size:=by omega
 have hmk:=mk_ends code.length (by omega)
 obtain ⟨E0,hE0⟩ : ∃ E0,E0 = (recJ.cells (List.replicate code.length 0)).toArray:=⟨_,rfl⟩
 rw [← hE0] at hmk
 have HE0:=Lib.hid hE0
 clear hb1 hE0 hs1 hx
 go_enter Tryz.func107,Tryz.ntmps107
 go_upto_region 1 with fail
 rw [← hW1]
 clear hW1
 go_region
 clear hmk
 go_simp
 obtain ⟨w2,hw2⟩ : ∃ w2,w2 = ((W1.alloc (.cells E0 3)).alloc (.cells #[.slice at_ texts.length ct,.slice ac code.length cc,.int .i64 2,.int .u8 (role.toNat : Int),.string ⟨#[]⟩,.slice none 0 0,.slice none 0 0,.slice (some ⟨W1.heap.size,0,none⟩) code.length code.length,.int .i64 0] 215)).drew:=⟨_,rfl⟩
 have hv2 : VG w2 W1.heap.size (W1.heap.size + 1) (.slice at_ texts.length ct) (.slice ac code.length cc) 2 role (startV code.length) (.slice none 0 0) (.slice none 0 0) (.slice (some ⟨W1.heap.size,0,none⟩) code.length code.length):=by
  have h:=start_VG W1 (.slice at_ texts.length ct) (.slice ac code.length cc) code.length W1.heap.size role (by omega) (Nat.le_refl _) _ _ rfl rfl
  rw [← HE0.out] at h
  rw [hw2]
  exact h.below (b_drew _)
 have hb2 : Below W1.heap.size W1 w2:=by rw [hw2]; exact bt (b_alloc _ _) (bt (b_alloc _ _) (b_drew _))
 rw [← hw2]
 clear hw2 HE0
 have x0:=Below.keeps hb2 x0
 have x1:=Below.keeps hb2 x1
 have HB2:=Lib.hid hb2
 have hgw:=hv2.blk.lt
 obtain ⟨G,hG⟩ : ∃ G,G = W1.heap.size + 1:=⟨_,rfl⟩
 rw [← hG] at hv2 hgw ⊢
 have hG1 : w.heap.size < G:=by omega
 have H2:=Lib.hid hv2
 have HX0:=Lib.hid x0
 obtain ⟨ev,hev⟩ : ∃ ev : Value,ev = .slice (some ⟨W1.heap.size,0,none⟩) code.length code.length:=⟨_,rfl⟩
 rw [← hev] at H2
 have x1b:=HX1.out
 clear hv2 hb2 HS1 hl1 hG hev x1b
 by_cases hmv : mayV texts code = true
 ·rw [if_pos hmv] at HCK
  obtain ⟨h16,h256,hni⟩:=ins_24 hmv
  have HNI:=Lib.hid hni
  clear hni
  by_cases r1 : 1 ≤ role.toNat
  ·have q1 : ¬ (role.toNat : Int) < 1:=by omega
   by_cases r2 : role.toNat ≤ 3
   ·have q2 : ¬ (3 : Int) < (role.toNat : Int):=by omega
    have HOK:=Lib.hid (show (mayV texts code && roleOk role) = true by unfold roleOk; simp [hmv,r1,r2])
    clear hmv r1 r2
    obtain ⟨inp,hinp⟩ : ∃ inp,inp = inputsV role:=⟨_,rfl⟩
    by_cases r3 : role = 1
    ·have hi1 : inp = 1:=by rw [hinp,inputsV,if_pos r3]
     have q3 : ((role.toNat : Int) == 1) = true:=by rw [r3]; rfl
     have HIN:=Lib.hid hinp
     have hinp2 : inp ≤ 1000:=by omega
     clear r3 hinp
     go_wp2_with fail
     refine (HCK.out _ (bt HB1.out HB2.out)).mono ?_
     rintro e w4 ⟨rfl,hB4⟩
     have x0:=Below.keeps hB4 x0
     have x1:=Below.keeps hB4 x1
     have HB4:=Lib.hid (bt HB2.out hB4)
     have H4:=Lib.hid (H2.out.below hB4)
     have hgw:=Nat.lt_of_lt_of_le hgw hB4.size
     clear hB4 H2 HB2
     have f4:=H4.out.free (k:=2) (by omega)
     have c4:=H4.out.cell (k:=2) rfl
     go_upto_region 6 with fail
     have h5:=H4.out.setInp 1
     obtain ⟨w5,hw5⟩ : ∃ w5,w5 = w4.setCell ⟨G,2,none⟩ (.int .i64 1):=⟨_,rfl⟩
     have hx5 : w5.cell? ⟨w.heap.size,1,none⟩ = some (.slice ac code.length cc):=by rw [hw5]; exact (World.cell?_setCell_other _ _ _ _ (by intro h; injection h with h _ _; omega)).trans x1
     rw [show (Value.int .i64 ((1 : Nat) : Int)) = .int .i64 1 from rfl,← hw5] at h5
     rw [← hw5]
     have hb5:=HB4.out.trans h5.2
     clear hw5 x0 x1 f4 c4
     have x1:=hx5
     rw [← hi1] at h5
     have H5:=Lib.hid h5.1
     have HB5:=Lib.hid hb5
     clear h5 hb5 H4 HB4 hi1 q1 q2 q3 hx5
     go_wp2_with fail
     go_loopw [4,39] (fun v4 t wr => ∃ (i : Nat) (s : Vs) (bv sv : Value),v4 = .pointer (some ⟨G,0,none⟩) ∧ t = .int .i64 (i : Int) ∧ i ≤ code.length ∧ Hid (runV texts.length inp role i (code.drop i) s = runV texts.length inp role 0 code (startV code.length)) ∧ Hid (VG wr W1.heap.size G (.slice at_ texts.length ct) (.slice ac code.length cc) inp role s bv sv ev) ∧ Hid (InvV i s) ∧ Hid (s.ends.length = code.length) ∧ Hid (Below W1.heap.size W1 wr)) (fun _ t _ => code.length - (intOf t).toNat)
     case atStart => exact ⟨0,startV _,_,_,rfl,rfl,Nat.zero_le _,rfl,H5.out,start_inv _ h256,by simp [startV,Hid],HB5.out⟩
     case round =>
      obtain ⟨i,s,bv,sv,rfl,rfl,hi,HR,HV,HIV,HEL,HB⟩:=hrel
      by_cases h0 : i < code.length
      ·obtain ⟨b,off,rfl,d0,d1⟩:=HCI.out i h0
       have hBw:=bt HB1.out HB.out
       have e0:=Below.keeps hBw d0
       have e1:=Below.keeps hBw d1
       have HBW:=Lib.hid hBw
       have kk0 : (0 : Int) ≤ (i : Int):=by omega
       have kk1 : (i : Int) < (code.length : Int):=by omega
       have HP:=Lib.hid (HNI.out i h0)
       clear d0 d1 hBw
       have HA:=Lib.hid (b_alloc wr (.cells #[.int .u8 (code[i].1.toNat : Int),.int .u8 (code[i].2.toNat : Int)] 97))
       have HDR:=Lib.hid (List.drop_eq_getElem_cons h0)
       go_wp2_with fail
       refine (one_any (HV.out.below HA.out) (HEF.out _ (bt HBW.out HA.out)) HG1.out code[i].1 code[i].2 i HP.out HIV.out (by omega) (by omega) (by first | omega | exact hinp2) (by omega)).mono ?_
       rintro e w6 ⟨rfl,⟨bv',sv',hv6⟩,hB6⟩
       have HB6:=Lib.hid ((bt HB.out HA.out).trans hB6)
       have HONE:=Lib.hid (fun (hz0 : (oneV texts.length inp role i code[i] s).1 = 0) => InvV.one (nt:=texts.length) (inp:=inp) (role:=role) (x:=code[i]) HIV.out (by rw [HEL.out]; exact h0) hz0)
       obtain ⟨r,hr⟩ : ∃ r,r = oneV texts.length inp role i (code[i].1,code[i].2) s:=⟨_,rfl⟩
       rw [← hr] at hv6 ⊢
       rw [show oneV texts.length inp role i code[i] s = r from hr.symm] at HONE
       have HRR:=Lib.hid (show oneV texts.length inp role i code[i] s = r from hr.symm)
       have H6:=Lib.hid hv6
       clear hr hv6 hB6 HA
       by_cases hz : r.1 = 0
       ·have t1 : ((r.1 : Int) != 0) = false:=by rw [bne_eq_false_iff_eq]; omega
        obtain ⟨hi1,hi2⟩:=HONE.out hz
        have HI1:=Lib.hid hi1
        have HE1:=Lib.hid (hi2.trans HEL.out)
        have HR1:=Lib.hid (show runV texts.length inp role (i + 1) (code.drop (i + 1)) r.2 = runV texts.length inp role 0 code (startV code.length) by rw [← HR.out,HDR.out,runV_ok (by rw [HRR.out]; exact hz),HRR.out])
        clear hz hi1 hi2 HONE HRR HR HDR
        go_wp2_with fail
        go_roundw
        case rel => exact ⟨i + 1,r.2,bv',sv',rfl,by go_num,by omega,HR1.out,H6.out,HI1.out,HE1.out,HB6.out⟩
        case measure => simp [intOf]; omega
       ·have t1 : ((r.1 : Int) != 0) = true:=by rw [bne_iff_ne]; omega
        have HE:=Lib.hid (throughV_bad HOK.out (r:=(i,r.1,r.2)) (by rw [← HIN.out,← HR.out,HDR.out,runV_bad (by rw [HRR.out]; exact hz),HRR.out]) hz)
        clear hz HONE HRR HR HDR
        go_wp2_with fail
        go_ret3
        exact ⟨G,_,_,_,_,_,by rw [HE.out]; rfl,by rw [HE.out]; exact H6.out,bt HB1.out HB6.out⟩
      ·obtain rfl : i = code.length:=by omega
       have HR1:=Lib.hid (show runV texts.length inp role 0 code (startV code.length) = (code.length,overV role s,s) by rw [← HR.out,List.drop_length,runV_nil])
       have HOV:=Lib.hid (over_any HV.out (by have:=HIV.out.bl; omega) (by have:=HIV.out.kl; omega))
       have x1:=Below.keeps HB.out HX1.out
       obtain ⟨o,ho⟩ : ∃ o,o = overV role s:=⟨_,rfl⟩
       rw [← ho] at HR1 HOV
       clear ho HR
       go_wp2_with fail
       refine HOV.out.mono ?_
       rintro e w6 ⟨rfl,rfl⟩
       by_cases hz : o = 0
       ·have t1 : ((o : Int) != 0) = false:=by rw [bne_eq_false_iff_eq]; omega
        have HE:=Lib.hid (throughV_good HOK.out (r:=(code.length,o,s)) (by rw [← HIN.out,HR1.out]) hz)
        clear hz
        go_wp2_with fail
        go_ret3
        exact ⟨G,_,_,_,_,_,by rw [HE.out]; rfl,by rw [HE.out]; exact HV.out,bt HB1.out HB.out⟩
       ·have t1 : ((o : Int) != 0) = true:=by rw [bne_iff_ne]; omega
        have HE:=Lib.hid (throughV_bad HOK.out (r:=(code.length,o,s)) (by rw [← HIN.out,HR1.out]) hz)
        clear hz
        go_wp2_with fail
        go_region
        go_wp2_with fail
        go_ret3
        exact ⟨G,_,_,_,_,_,by rw [HE.out]; rfl,by rw [HE.out]; exact HV.out.below (b_drew _),bt HB1.out (bt HB.out (b_drew _))⟩
    ·have hi1 : inp = 2:=by rw [hinp,inputsV,if_neg r3]
     have q3 : ((role.toNat : Int) == 1) = false:=u8_ne (by decide) r3
     have HIN:=Lib.hid hinp
     have hinp2 : inp ≤ 1000:=by omega
     clear r3 hinp
     go_wp2_with fail
     refine (HCK.out _ (bt HB1.out HB2.out)).mono ?_
     rintro e w4 ⟨rfl,hB4⟩
     have x0:=Below.keeps hB4 x0
     have x1:=Below.keeps hB4 x1
     have HB4:=Lib.hid (bt HB2.out hB4)
     have H4:=Lib.hid (H2.out.below hB4)
     have hgw:=Nat.lt_of_lt_of_le hgw hB4.size
     clear hB4 H2 HB2
     have H5:=Lib.hid (show VG w4 W1.heap.size G (.slice at_ texts.length ct) (.slice ac code.length cc) inp role (startV code.length) (.slice none 0 0) (.slice none 0 0) ev by rw [hi1]; exact H4.out)
     have HB5:=HB4
     clear H4 HB4 hi1 x0
     go_wp2_with fail
     go_loopw [4,39] (fun v4 t wr => ∃ (i : Nat) (s : Vs) (bv sv : Value),v4 = .pointer (some ⟨G,0,none⟩) ∧ t = .int .i64 (i : Int) ∧ i ≤ code.length ∧ Hid (runV texts.length inp role i (code.drop i) s = runV texts.length inp role 0 code (startV code.length)) ∧ Hid (VG wr W1.heap.size G (.slice at_ texts.length ct) (.slice ac code.length cc) inp role s bv sv ev) ∧ Hid (InvV i s) ∧ Hid (s.ends.length = code.length) ∧ Hid (Below W1.heap.size W1 wr)) (fun _ t _ => code.length - (intOf t).toNat)
     case atStart => exact ⟨0,startV _,_,_,rfl,rfl,Nat.zero_le _,rfl,H5.out,start_inv _ h256,by simp [startV,Hid],HB5.out⟩
     case round =>
      obtain ⟨i,s,bv,sv,rfl,rfl,hi,HR,HV,HIV,HEL,HB⟩:=hrel
      by_cases h0 : i < code.length
      ·obtain ⟨b,off,rfl,d0,d1⟩:=HCI.out i h0
       have hBw:=bt HB1.out HB.out
       have e0:=Below.keeps hBw d0
       have e1:=Below.keeps hBw d1
       have HBW:=Lib.hid hBw
       have kk0 : (0 : Int) ≤ (i : Int):=by omega
       have kk1 : (i : Int) < (code.length : Int):=by omega
       have HP:=Lib.hid (HNI.out i h0)
       clear d0 d1 hBw
       have HA:=Lib.hid (b_alloc wr (.cells #[.int .u8 (code[i].1.toNat : Int),.int .u8 (code[i].2.toNat : Int)] 97))
       have HDR:=Lib.hid (List.drop_eq_getElem_cons h0)
       go_wp2_with fail
       refine (one_any (HV.out.below HA.out) (HEF.out _ (bt HBW.out HA.out)) HG1.out code[i].1 code[i].2 i HP.out HIV.out (by omega) (by omega) (by first | omega | exact hinp2) (by omega)).mono ?_
       rintro e w6 ⟨rfl,⟨bv',sv',hv6⟩,hB6⟩
       have HB6:=Lib.hid ((bt HB.out HA.out).trans hB6)
       have HONE:=Lib.hid (fun (hz0 : (oneV texts.length inp role i code[i] s).1 = 0) => InvV.one (nt:=texts.length) (inp:=inp) (role:=role) (x:=code[i]) HIV.out (by rw [HEL.out]; exact h0) hz0)
       obtain ⟨r,hr⟩ : ∃ r,r = oneV texts.length inp role i (code[i].1,code[i].2) s:=⟨_,rfl⟩
       rw [← hr] at hv6 ⊢
       rw [show oneV texts.length inp role i code[i] s = r from hr.symm] at HONE
       have HRR:=Lib.hid (show oneV texts.length inp role i code[i] s = r from hr.symm)
       have H6:=Lib.hid hv6
       clear hr hv6 hB6 HA
       by_cases hz : r.1 = 0
       ·have t1 : ((r.1 : Int) != 0) = false:=by rw [bne_eq_false_iff_eq]; omega
        obtain ⟨hi1,hi2⟩:=HONE.out hz
        have HI1:=Lib.hid hi1
        have HE1:=Lib.hid (hi2.trans HEL.out)
        have HR1:=Lib.hid (show runV texts.length inp role (i + 1) (code.drop (i + 1)) r.2 = runV texts.length inp role 0 code (startV code.length) by rw [← HR.out,HDR.out,runV_ok (by rw [HRR.out]; exact hz),HRR.out])
        clear hz hi1 hi2 HONE HRR HR HDR
        go_wp2_with fail
        go_roundw
        case rel => exact ⟨i + 1,r.2,bv',sv',rfl,by go_num,by omega,HR1.out,H6.out,HI1.out,HE1.out,HB6.out⟩
        case measure => simp [intOf]; omega
       ·have t1 : ((r.1 : Int) != 0) = true:=by rw [bne_iff_ne]; omega
        have HE:=Lib.hid (throughV_bad HOK.out (r:=(i,r.1,r.2)) (by rw [← HIN.out,← HR.out,HDR.out,runV_bad (by rw [HRR.out]; exact hz),HRR.out]) hz)
        clear hz HONE HRR HR HDR
        go_wp2_with fail
        go_ret3
        exact ⟨G,_,_,_,_,_,by rw [HE.out]; rfl,by rw [HE.out]; exact H6.out,bt HB1.out HB6.out⟩
      ·obtain rfl : i = code.length:=by omega
       have HR1:=Lib.hid (show runV texts.length inp role 0 code (startV code.length) = (code.length,overV role s,s) by rw [← HR.out,List.drop_length,runV_nil])
       have HOV:=Lib.hid (over_any HV.out (by have:=HIV.out.bl; omega) (by have:=HIV.out.kl; omega))
       have x1:=Below.keeps HB.out HX1.out
       obtain ⟨o,ho⟩ : ∃ o,o = overV role s:=⟨_,rfl⟩
       rw [← ho] at HR1 HOV
       clear ho HR
       go_wp2_with fail
       refine HOV.out.mono ?_
       rintro e w6 ⟨rfl,rfl⟩
       by_cases hz : o = 0
       ·have t1 : ((o : Int) != 0) = false:=by rw [bne_eq_false_iff_eq]; omega
        have HE:=Lib.hid (throughV_good HOK.out (r:=(code.length,o,s)) (by rw [← HIN.out,HR1.out]) hz)
        clear hz
        go_wp2_with fail
        go_ret3
        exact ⟨G,_,_,_,_,_,by rw [HE.out]; rfl,by rw [HE.out]; exact HV.out,bt HB1.out HB.out⟩
       ·have t1 : ((o : Int) != 0) = true:=by rw [bne_iff_ne]; omega
        have HE:=Lib.hid (throughV_bad HOK.out (r:=(code.length,o,s)) (by rw [← HIN.out,HR1.out]) hz)
        clear hz
        go_wp2_with fail
        go_region
        go_wp2_with fail
        go_ret3
        exact ⟨G,_,_,_,_,_,by rw [HE.out]; rfl,by rw [HE.out]; exact HV.out.below (b_drew _),bt HB1.out (bt HB.out (b_drew _))⟩
   ·have q2 : (3 : Int) < (role.toNat : Int):=by omega
    have HE:=Lib.hid (throughV_no (texts:=texts) (code:=code) (role:=role) (by unfold roleOk; simp [r2]))
    go_wp2_with fail
    refine (HCK.out _ (bt HB1.out HB2.out)).mono ?_
    rintro e w4 ⟨rfl,hB4⟩
    have x0:=Below.keeps hB4 x0
    have x1:=Below.keeps hB4 x1
    have HB4:=Lib.hid (bt HB2.out hB4)
    have H4:=Lib.hid (H2.out.below hB4)
    have hgw:=Nat.lt_of_lt_of_le hgw hB4.size
    clear hB4 H2 HB2
    go_wp2_with fail
    go_ret3
    exact ⟨G,_,_,_,_,_,by rw [HE.out]; rfl,by rw [HE.out]; exact H4.out,bt HB1.out HB4.out⟩
  ·have q1 : (role.toNat : Int) < 1:=by omega
   have HE:=Lib.hid (throughV_no (texts:=texts) (code:=code) (role:=role) (by unfold roleOk; simp [r1]))
   go_wp2_with fail
   refine (HCK.out _ (bt HB1.out HB2.out)).mono ?_
   rintro e w4 ⟨rfl,hB4⟩
   have x0:=Below.keeps hB4 x0
   have x1:=Below.keeps hB4 x1
   have HB4:=Lib.hid (bt HB2.out hB4)
   have H4:=Lib.hid (H2.out.below hB4)
   have hgw:=Nat.lt_of_lt_of_le hgw hB4.size
   clear hB4 H2 HB2
   go_wp2_with fail
   go_ret3
   exact ⟨G,_,_,_,_,_,by rw [HE.out]; rfl,by rw [HE.out]; exact H4.out,bt HB1.out HB4.out⟩
 ·rw [if_neg hmv] at HCK
  have HE:=Lib.hid (throughV_no (texts:=texts) (code:=code) (role:=role) (by simp [hmv]))
  go_wp2_with fail
  refine (HCK.out _ (bt HB1.out HB2.out)).mono ?_
  rintro e w4 ⟨rfl,hB4⟩
  have x0:=Below.keeps hB4 x0
  have x1:=Below.keeps hB4 x1
  have HB4:=Lib.hid (bt HB2.out hB4)
  have H4:=Lib.hid (H2.out.below hB4)
  have hgw:=Nat.lt_of_lt_of_le hgw hB4.size
  clear hB4 H2 HB2
  go_wp2_with fail
  go_ret3
  exact ⟨G,_,_,_,_,_,by rw [HE.out]; rfl,by rw [HE.out]; exact H4.out,bt HB1.out HB4.out⟩
end Go.Proofs.YtehllcbnheicoaaGreatDoor
namespace Go.Proofs.YtehllcbnheicoaaGreatDoor
open Go.RowKit Oct
attribute [local irreducible] wpG
structure AskV (w : World) (tv cv : Value) (texts : List (List UInt8)) (code : List VI) : Prop where
 t : recS.Row w tv texts
 c : recIns.Row w cv code
 lt : texts.length ≤ 1000
 lc : code.length ≤ 5000
 m : ∀ s ∈ texts,s.length ≤ 140737488355328
 e : EffM w
 g : 1 < w.heap.size
theorem AskV.below {w w' : World} {tv cv : Value} {texts : List (List UInt8)} {code : List VI} (h : AskV w tv cv texts code) (hB : Below w.heap.size w w') : AskV w' tv cv texts code :=
 ⟨h.t.below hB,h.c.below hB,h.lt,h.lc,h.m,h.e.below hB h.g,Nat.lt_of_lt_of_le h.g hB.size⟩
theorem Check13_any (tv cv : Value) (texts : List (List UInt8)) (code : List VI) (role : UInt8) (w : World) (hA : AskV w tv cv texts code) :
  Calls Tryz.prog 65 #[.agg #[tv,cv],.int .u8 (role.toNat : Int)] w fun e w' => e = .returned (.tuple #[.int .i64 ((throughV texts code role).1 : Int),.int .i64 ((throughV texts code role).2.1 : Int)]) ∧ Below w.heap.size w w':=by
 obtain ⟨at_,ct,rfl,-,-⟩:=recS_open hA.t
 obtain ⟨ac,cc,rfl,-,-⟩:=recIns_open hA.c
 have HT:=Lib.hid (fun w' (hB : Below w.heap.size w w') => through_any _ _ texts code role w' (hA.below hB).t (hA.below hB).c hA.lt hA.lc hA.m (hA.below hB).e (hA.below hB).g)
 obtain ⟨W1,hW1⟩ : ∃ W1,W1 = w.alloc (.cells #[.slice at_ texts.length ct,.slice ac code.length cc] 25):=⟨_,rfl⟩
 have hb1 : Below w.heap.size w W1:=by rw [hW1]; exact b_alloc _ _
 have hx : Blk W1 w.heap.size 25 [.slice at_ texts.length ct,.slice ac code.length cc]:=by rw [hW1]; exact Blk.new w _ _
 have x0:=hx.cell (k:=0) rfl
 have x1:=hx.cell (k:=1) rfl
 have HB1:=Lib.hid hb1
 obtain ⟨T,hT⟩ : ∃ T,T = throughV texts code role:=⟨_,rfl⟩
 rw [← hT] at HT ⊢
 clear hb1 hx hA hT
 go_enter Tryz.func65,Tryz.ntmps65
 go_upto_region 1 with fail
 rw [← hW1]
 clear hW1
 go_wp2_with fail
 refine (HT.out _ HB1.out).mono ?_
 rintro e w2 ⟨G,base,inp,bv,sv,ev,rfl,hv,hb⟩
 have HB2:=Lib.hid (bt HB1.out hb)
 clear hb x0 x1 HB1 HT
 clear hv
 go_wp2_with fail
 go_ret2
 exact ⟨rfl,HB2.out⟩
theorem Ends_any (tv cv : Value) (texts : List (List UInt8)) (code : List VI) (role : UInt8) (w : World) (hA : AskV w tv cv texts code) :
  Calls Tryz.prog 179 #[.agg #[tv,cv],.int .u8 (role.toNat : Int)] w fun e w' => (∃ v,e = .returned (.tuple #[v,.int .i64 ((throughV texts code role).2.1 : Int)]) ∧ recJ.Row w' v (if (throughV texts code role).2.1 = 0 then (throughV texts code role).2.2.ends else [])) ∧ Below w.heap.size w w':=by
 obtain ⟨at_,ct,rfl,-,-⟩:=recS_open hA.t
 obtain ⟨ac,cc,rfl,-,-⟩:=recIns_open hA.c
 have HT:=Lib.hid (fun w' (hB : Below w.heap.size w w') => through_any _ _ texts code role w' (hA.below hB).t (hA.below hB).c hA.lt hA.lc hA.m (hA.below hB).e (hA.below hB).g)
 obtain ⟨W1,hW1⟩ : ∃ W1,W1 = w.alloc (.cells #[.slice at_ texts.length ct,.slice ac code.length cc] 25):=⟨_,rfl⟩
 have hb1 : Below w.heap.size w W1:=by rw [hW1]; exact b_alloc _ _
 have hx : Blk W1 w.heap.size 25 [.slice at_ texts.length ct,.slice ac code.length cc]:=by rw [hW1]; exact Blk.new w _ _
 have x0:=hx.cell (k:=0) rfl
 have x1:=hx.cell (k:=1) rfl
 have HB1:=Lib.hid hb1
 obtain ⟨T,hT⟩ : ∃ T,T = throughV texts code role:=⟨_,rfl⟩
 rw [← hT] at HT ⊢
 clear hb1 hx hA hT
 go_enter Tryz.func179,Tryz.ntmps179
 go_upto_region 1 with fail
 rw [← hW1]
 clear hW1
 go_wp2_with fail
 refine (HT.out _ HB1.out).mono ?_
 rintro e w2 ⟨G,base,inp,bv,sv,ev,rfl,hv,hb⟩
 have HB2:=Lib.hid (bt HB1.out hb)
 clear hb x0 x1 HB1 HT
 by_cases hz : T.2.1 = 0
 ·have t1 : ((T.2.1 : Int) != 0) = false:=by rw [bne_eq_false_iff_eq]; omega
  have c:=hv.cell (k:=7) rfl
  have HV:=Lib.hid hv
  have HZ:=Lib.hid hz
  clear hv hz
  go_wp2_with fail
  go_ret2
  exact ⟨⟨_,rfl,HV.out.oe.row⟩,HB2.out⟩
 ·have t1 : ((T.2.1 : Int) != 0) = true:=by rw [bne_iff_ne]; omega
  have HZ:=Lib.hid hz
  clear hv hz
  go_wp2_with fail
  go_ret2
  exact ⟨⟨_,rfl,(Rec.Own.nil _ 0).row⟩,HB2.out⟩

def sizeV (texts : List (List UInt8)) (code : List VI) : Nat:=code.length + ((texts.take 50).map List.length).sum
def largeV (texts : List (List UInt8)) (code : List VI) : Bool:=decide (40 < texts.length) || decide (4000 < sizeV texts code)
theorem sum_takeV : ∀ (l : List (List UInt8)) (i : Nat) (h : i < l.length),((l.take (i + 1)).map List.length).sum = ((l.take i).map List.length).sum + l[i].length
 | x :: l,0,_ => by simp
 | x :: l,i + 1,h => by
  have:=sum_takeV l i (by simpa using h)
  simp only [List.take_succ_cons,List.map_cons,List.sum_cons,List.getElem_cons_succ,this]
  omega
theorem mem_le_sumV : ∀ {l : List Nat} {x : Nat},x ∈ l → x ≤ l.sum
 | y :: l,x,h => by
  rw [List.sum_cons]
  rcases List.mem_cons.1 h with rfl | h
  ·omega
  ·have:=mem_le_sumV h; omega
theorem largeV_no {texts : List (List UInt8)} {code : List VI} (h : largeV texts code = false) : texts.length ≤ 40 ∧ code.length ≤ 4000 ∧ ∀ s ∈ texts,s.length ≤ 4000:=by
 unfold largeV at h
 simp only [Bool.or_eq_false_iff,decide_eq_false_iff_not] at h
 obtain ⟨h1,h2⟩:=h
 unfold sizeV at h2
 rw [List.take_of_length_le (by omega)] at h2
 refine ⟨by omega,by omega,fun s hs => ?_⟩
 have:=mem_le_sumV (List.mem_map_of_mem (f:=List.length) hs)
 omega
theorem Large_any (tv cv : Value) (texts : List (List UInt8)) (code : List VI) (w : World) (ht : recS.Row w tv texts) (hcr : recIns.Row w cv code) (hl : texts.length ≤ 140737488355328) (hlc : code.length ≤ 140737488355328) (hm : ∀ s ∈ texts,s.length ≤ 140737488355328) :
  Calls Tryz.prog 32 #[.agg #[tv,cv]] w fun e w' => e = .returned (.bool (largeV texts code)) ∧ Below w.heap.size w w':=by
 obtain ⟨at_,ct,rfl,-,hct⟩:=recS_open ht
 obtain ⟨ac,cc,rfl,-,-⟩:=recIns_open hcr
 have HM:=Lib.hid hm
 obtain ⟨W1,hW1⟩ : ∃ W1,W1 = w.alloc (.cells #[.slice at_ texts.length ct,.slice ac code.length cc] 25):=⟨_,rfl⟩
 have hb1 : Below w.heap.size w W1:=by rw [hW1]; exact b_alloc _ _
 have hx : Blk W1 w.heap.size 25 [.slice at_ texts.length ct,.slice ac code.length cc]:=by rw [hW1]; exact Blk.new w _ _
 have x0:=hx.cell (k:=0) rfl
 have x1:=hx.cell (k:=1) rfl
 have HC:=Lib.hid hct
 have HB1:=Lib.hid hb1
 have lc1 : (code.length : Int) ≤ 140737488355328:=by omega
 clear hb1 hx ht hcr hm hct
 go_enter Tryz.func32,Tryz.ntmps32
 go_upto_region 1 with fail
 rw [← hW1]
 clear hW1
 go_wp2_with fail
 go_loop [3,4] (fun vn vi => ∃ i n : Nat,vn = .int .i64 (n : Int) ∧ vi = .int .i64 (i : Int) ∧ i ≤ texts.length ∧ i ≤ 50 ∧ n ≤ (i + 1) * 140737488355328 ∧ Hid (n = code.length + ((texts.take i).map List.length).sum)) (fun _ vi => 50 - (intOf vi).toNat)
 case atStart => exact ⟨0,code.length,rfl,rfl,by omega,by omega,by omega,by simp [Hid]⟩
 case round =>
  obtain ⟨i,n,rfl,rfl,hi,h50,hn,HN⟩:=hrel
  by_cases h0 : i < texts.length ∧ i < 50
  ·obtain ⟨b,off,rfl,c1⟩:=HC.out i h0.1
   have c1:=Below.keeps HB1.out c1
   have hs:=HM.out texts[i] (List.getElem_mem h0.1)
   have HSM:=Lib.hid (sum_takeV texts i h0.1)
   have i0 : (0 : Int) ≤ (i : Int):=by omega
   have i1 : (i : Int) < (texts.length : Int):=by omega
   have i2 : (i : Int) < 50:=by omega
   have i3 : (n : Int) ≤ 14073748835532800:=by omega
   have i4 : (0 : Int) ≤ (n : Int):=by omega
   have i5 : (texts[i].length : Int) ≤ 140737488355328:=by omega
   go_wp2
   go_round
   case rel => exact ⟨i + 1,n + texts[i].length,by go_num,by go_num,by omega,by omega,by omega,by unfold Hid; rw [HSM.out,HN.out]; omega⟩
   case measure => simp [intOf]; omega
  ·have hfin : n = sizeV texts code:=by
    rw [HN.out]; unfold sizeV
    by_cases h : i = 50
    ·rw [h]
    ·have : i = texts.length:=by omega
     subst this
     rw [List.take_length,List.take_of_length_le (by omega)]
   have HF:=Lib.hid hfin
   clear hfin
   have i3 : (n : Int) ≤ 14073748835532800:=by omega
   by_cases h1 : i < texts.length
   ·have i1 : (i : Int) < (texts.length : Int):=by omega
    have i2 : ¬ (i : Int) < 50:=by omega
    have i4 : (40 : Int) < (texts.length : Int):=by omega
    have HL:=Lib.hid (show largeV texts code = true by unfold largeV; rw [decide_eq_true (by omega : 40 < texts.length)]; rfl)
    clear h0
    go_wp2
    go_ret
    exact ⟨by rw [HL.out]; rfl,HB1.out⟩
   ·have i1 : ¬ (i : Int) < (texts.length : Int):=by omega
    by_cases h2 : 40 < texts.length
    ·have i4 : (40 : Int) < (texts.length : Int):=by omega
     have HL:=Lib.hid (show largeV texts code = true by unfold largeV; rw [decide_eq_true h2]; rfl)
     clear h0
     go_wp2
     go_ret
     exact ⟨by rw [HL.out]; rfl,HB1.out⟩
    ·have i4 : ¬ (40 : Int) < (texts.length : Int):=by omega
     by_cases h3 : 4000 < n
     ·have i5 : (4000 : Int) < (n : Int):=by omega
      have HL:=Lib.hid (show largeV texts code = true by unfold largeV; rw [← HF.out,decide_eq_true h3]; simp)
      clear h0
      go_wp2
      go_ret
      exact ⟨by rw [HL.out]; rfl,HB1.out⟩
     ·have i5 : ¬ (4000 : Int) < (n : Int):=by omega
      have HL:=Lib.hid (show largeV texts code = false by unfold largeV; rw [← HF.out,decide_eq_false h3,decide_eq_false h2]; rfl)
      clear h0
      go_wp2
      go_ret
      exact ⟨by rw [HL.out]; rfl,HB1.out⟩
theorem recJ_open {w : World} {v : Value} {l : List Int} (h : recJ.Row w v l) : ∃ a cap,v = .slice a l.length cap ∧ l.length ≤ cap ∧ ∀ k (hk : k < l.length),∃ b off,a = some ⟨b,off,none⟩ ∧ w.cell? ⟨b,off + k,none⟩ = some (.int .i64 l[k]):=by
 obtain ⟨a,cap,hv,hle,hc⟩:=h.open
 refine ⟨a,cap,hv,hle,fun k hk => ?_⟩
 obtain ⟨b,off,ha,hu⟩:=hc k hk
 have:=hu 0 _ rfl
 rw [show recJ.n = 1 from rfl,Nat.mul_one,Nat.add_zero] at this
 exact ⟨b,off,ha,this⟩
end Go.Proofs.YtehllcbnheicoaaGreatDoor
