/- Lemmas for FoldTells, part 34: walks of the functions that it reaches, and the plain laws behind them. -/
import Derived.Test.YtehllcbnheicoaaGreatDoorFoldTellsK7
import Derived.Test.YtehllcbnheicoaaGreatDoorFoldTellsK33
set_option linter.unusedSimpArgs false
set_option linter.unusedVariables false
set_option maxRecDepth 100000
set_option maxHeartbeats 16000000
namespace Go.Proofs.YtehllcbnheicoaaGreatDoor
open Go.RowKit Oct
attribute [local irreducible] wpG
theorem mayR_long {texts : List (List UInt8)} {code : List VI} (h : 16 < texts.length) : mayV texts code = false:=by unfold mayV; rw [decide_eq_false (by omega)]; simp
theorem mayR_code {texts : List (List UInt8)} {code : List VI} (h : 256 < code.length) : mayV texts code = false:=by unfold mayV; rw [decide_eq_false (show ¬ code.length ≤ 256 by omega)]; simp
theorem mayR_text {texts : List (List UInt8)} {code : List VI} (k : Nat) (h : k < texts.length) (h1 : 64 < texts[k].length) : mayV texts code = false:=by
 have : texts.all (fun s => decide (s.length ≤ 64)) = false:=all_false k h (decide_eq_false (by omega))
 unfold mayV; rw [this]; simp
theorem mayR_ins {texts : List (List UInt8)} {code : List VI} (k : Nat) (h : k < code.length) (h1 : insOk code[k] = false) : mayV texts code = false:=by
 have : code.all insOk = false:=all_false k h h1
 unfold mayV; rw [this]; simp
theorem mayR_ok {texts : List (List UInt8)} {code : List VI} (h1 : texts.length ≤ 16) (h2 : code.length ≤ 256) (h3 : ∀ k (h : k < texts.length),texts[k].length ≤ 64) (h4 : ∀ k (h : k < code.length),insOk code[k] = true) : mayV texts code = true:=by
 have e3 : texts.all (fun s => decide (s.length ≤ 64)) = true:=all_true (fun k h => decide_eq_true (h3 k h))
 have e4 : code.all insOk = true:=all_true h4
 unfold mayV; rw [e3,e4,decide_eq_true h1,decide_eq_true h2]; rfl
theorem rMay12_any (tv cv : Value) (texts : List (List UInt8)) (code : List VI) (w : World) (ht : recS.Row w tv texts) (hc : recIns.Row w cv code) (hlt : texts.length ≤ 140737488355328) (hlc : code.length ≤ 140737488355328) (hm : ∀ s ∈ texts,s.length ≤ 140737488355328) :
  Calls Tryz.prog 137 #[.agg #[tv,cv]] w fun e w' => e = .returned (.bool (mayV texts code)) ∧ Below w.heap.size w w':=by
 obtain ⟨at_,ct,rfl,-,hct⟩:=recS_open ht
 obtain ⟨ac,cc,rfl,-,hcc⟩:=recIns_open hc
 have HM:=Lib.hid hm
 have HCT:=Lib.hid hct
 have HCC:=Lib.hid hcc
 obtain ⟨W1,hW1⟩ : ∃ W1,W1 = w.alloc (.cells #[.slice at_ texts.length ct,.slice ac code.length cc] 25):=⟨_,rfl⟩
 have hb1 : Below w.heap.size w W1:=by rw [hW1]; exact b_alloc _ _
 have hx : Blk W1 w.heap.size 25 [.slice at_ texts.length ct,.slice ac code.length cc]:=by rw [hW1]; exact Blk.new w _ _
 have x0:=hx.cell (k:=0) rfl
 have x1:=hx.cell (k:=1) rfl
 have HB1:=Lib.hid hb1
 have HX:=Lib.hid hx
 obtain ⟨mv,hmv⟩ : ∃ mv,mv = mayV texts code:=⟨_,rfl⟩
 have HMV:=Lib.hid hmv
 have lt1 : (texts.length : Int) ≤ 140737488355328:=by omega
 have lc1 : (code.length : Int) ≤ 140737488355328:=by omega
 rw [← hmv]
 clear ht hc hct hcc hm hb1 hx hmv
 by_cases h16 : 16 < texts.length
 ·have t1 : (16 : Int) < (texts.length : Int):=by omega
  have HV:=Lib.hid (HMV.out.trans (mayR_long h16))
  clear h16
  go_enter Tryz.func137,Tryz.ntmps137
  go_upto_region 1 with fail
  rw [← hW1]
  clear hW1
  go_wp2_with fail
  go_ret
  exact ⟨by rw [HV.out]; rfl,HB1.out⟩
 ·have t1 : ¬ (16 : Int) < (texts.length : Int):=by omega
  by_cases h256 : 256 < code.length
  ·have t2 : (256 : Int) < (code.length : Int):=by omega
   have HV:=Lib.hid (HMV.out.trans (mayR_code h256))
   clear h16 h256
   go_enter Tryz.func137,Tryz.ntmps137
   go_upto_region 1 with fail
   rw [← hW1]
   clear hW1
   go_wp2_with fail
   go_ret
   exact ⟨by rw [HV.out]; rfl,HB1.out⟩
  ·have t2 : ¬ (256 : Int) < (code.length : Int):=by omega
   have hOK:=mayR_ok (texts:=texts) (code:=code) (by omega) (by omega)
   have HOK:=Lib.hid hOK
   clear hOK
   go_enter Tryz.func137,Tryz.ntmps137
   go_upto_region 1 with fail
   rw [← hW1]
   clear hW1
   go_wp2_with fail
   go_loop [3] (fun v => ∃ i : Nat,v = .int .i64 (i : Int) ∧ i ≤ texts.length ∧ Hid (∀ k (h : k < texts.length),k < i → texts[k].length ≤ 64)) (fun v => texts.length - (intOf v).toNat)
   case atStart => exact ⟨0,rfl,Nat.zero_le _,fun k _ h => absurd h (by omega)⟩
   case round =>
    obtain ⟨i,rfl,hi,HTI⟩:=hrel
    by_cases h0 : i < texts.length
    ·obtain ⟨b,off,rfl,d0⟩:=HCT.out i h0
     have d0:=Below.keeps HB1.out d0
     have ii0 : (0 : Int) ≤ (i : Int):=by omega
     have ii1 : (i : Int) < (texts.length : Int):=by omega
     have hsl:=HM.out texts[i] (List.getElem_mem h0)
     by_cases h64 : 64 < texts[i].length
     ·have t3 : (64 : Int) < (texts[i].length : Int):=by omega
      have HV:=Lib.hid (HMV.out.trans (mayR_text i h0 h64))
      clear h64
      go_wp2_with fail
      go_ret
      exact ⟨by rw [HV.out]; rfl,HB1.out⟩
     ·have t3 : ¬ (64 : Int) < (texts[i].length : Int):=by omega
      have HN:=Lib.hid (show ∀ k (h : k < texts.length),k < i + 1 → texts[k].length ≤ 64 from fun k h hk => by
       by_cases e : k = i
       ·subst e; omega
       ·exact HTI.out k h (by omega))
      clear h64 HTI
      go_wp2_with fail
      go_round
      case rel => exact ⟨i + 1,by go_num,by omega,HN.out⟩
      case measure => simp [intOf]; omega
    ·obtain rfl : i = texts.length:=by omega
     have e0 : ¬ (texts.length : Int) < (texts.length : Int):=by omega
     clear h0
     go_wp2_with fail
     go_loopw [4] (fun v wr => ∃ i : Nat,v = .int .i64 (i : Int) ∧ i ≤ code.length ∧ Hid (∀ k (h : k < code.length),k < i → insOk code[k] = true) ∧ Hid (Below W1.heap.size W1 wr)) (fun v _ => code.length - (intOf v).toNat)
     case atStart => exact ⟨0,rfl,Nat.zero_le _,fun k _ h => absurd h (by omega),Below.refl _ _⟩
     case round =>
      obtain ⟨i,rfl,hi,HCI,HBr⟩:=hrel
      have x1:=(HX.out.below HBr.out).cell (k:=1) rfl
      by_cases h0 : i < code.length
      ·obtain ⟨b,off,rfl,d0,d1⟩:=HCC.out i h0
       have d0:=Below.keeps (bt HB1.out HBr.out) d0
       have d1:=Below.keeps (bt HB1.out HBr.out) d1
       have ii0 : (0 : Int) ≤ (i : Int):=by omega
       have ii1 : (i : Int) < (code.length : Int):=by omega
       have HIN:=Lib.hid (rIns_any code[i] wr)
       obtain ⟨q,hq⟩ : ∃ q,q = insOk code[i]:=⟨_,rfl⟩
       rw [← hq] at HIN
       have HQ:=Lib.hid hq
       clear hq
       cases q with
       | false =>
        have HV:=Lib.hid (HMV.out.trans (mayR_ins i h0 HQ.out.symm))
        go_wp2_with fail
        refine HIN.out.mono ?_
        rintro e w2 ⟨rfl,hB2⟩
        have HB2:=Lib.hid (bt HBr.out hB2)
        clear hB2
        go_wp2_with fail
        go_ret
        exact ⟨by rw [HV.out]; rfl,bt HB1.out HB2.out⟩
       | true =>
        have HN:=Lib.hid (show ∀ k (h : k < code.length),k < i + 1 → insOk code[k] = true from fun k h hk => by
         by_cases e : k = i
         ·subst e; exact HQ.out.symm
         ·exact HCI.out k h (by omega))
        go_wp2_with fail
        refine HIN.out.mono ?_
        rintro e w2 ⟨rfl,hB2⟩
        have HB2:=Lib.hid (bt HBr.out hB2)
        clear hB2
        go_wp2_with fail
        go_roundw
        case rel => exact ⟨i + 1,by go_num,by omega,HN.out,HB2.out⟩
        case measure => simp [intOf]; omega
      ·obtain rfl : i = code.length:=by omega
       have e1 : ¬ (code.length : Int) < (code.length : Int):=by omega
       have HV:=Lib.hid (HMV.out.trans (HOK.out (fun k h => HTI.out k h h) (fun k h => HCI.out k h h)))
       clear h0
       go_wp2_with fail
       go_ret
       exact ⟨by rw [HV.out]; rfl,bt HB1.out HBr.out⟩
end Go.Proofs.YtehllcbnheicoaaGreatDoor
namespace Go.Proofs.YtehllcbnheicoaaGreatDoor
open Go.RowKit Oct
attribute [local irreducible] wpG
def WD (s : Vs) : Prop:=∀ b ∈ s.blocks,b.did = false → b.want = b.opn
theorem WD.one {nt inp : Nat} {role : UInt8} {i n : Nat} {x : VI} {s : Vs} (h : WD s) (hI : InvV n s) (h0 : (oneV nt inp role i x s).1 = 0) : WD (oneV nt inp role i x s).2:=by
 obtain ⟨hs,-,-⟩:=oneV_step hI.kl h0
 intro b hb hd
 rcases hs with ⟨_,k,_,hbl,_⟩ | ⟨_,r,c,hl,hbl,_⟩ | ⟨_,r,c,hl,_,hbl,_⟩ | ⟨_,hbl,_⟩ <;> rw [hbl] at hb
 ·rcases List.mem_append.1 hb with hb | hb
  ·exact h b hb hd
  ·rw [List.mem_singleton] at hb; subst hb; rfl
 ·rcases List.mem_append.1 hb with hb | hb
  ·exact h b (by rw [hl]; exact List.mem_append.2 (.inl hb)) hd
  ·rw [List.mem_singleton] at hb; subst hb; cases hd
 ·exact h b (by rw [hl]; exact List.mem_append.2 (.inl hb)) hd
 ·exact h b hb hd
section
variable {w w3 : World} {base G : Nat} {tv cv bv sv ev : Value} {role : UInt8} {s : Vs}
theorem RG.start (w : World) (tv cv : Value) (role : UInt8) (base : Nat) (hb : base ≤ w.heap.size) :
  RG (w.alloc (.cells #[tv,cv,.int .u8 (role.toNat : Int),.string ⟨#[]⟩,.slice none 0 0,.slice none 0 0,.slice none 0 0,.int .i64 0] 202)) base w.heap.size tv cv role ⟨[],[],[],[],0⟩ (.slice none 0 0) (.slice none 0 0) (.slice none 0 0) :=
 ⟨Blk.new w ([tv,cv,.int .u8 (role.toNat : Int),.string ⟨#[]⟩,.slice none 0 0,.slice none 0 0,.slice none 0 0,.int .i64 0] : List Value) _,Rec.Own.nil _ _,Rec.Own.nil _ _,Rec.Own.nil _ _,hb,(fun b hb => by cases hb),(fun b hb => by cases hb),(fun b hb => by cases hb)⟩
theorem RG.freshE {b0 : Nat} {ev' : Value} {l : List Int} (h : RG w base G tv cv role s bv sv ev) (hB : Below w.heap.size w w3) (hb0 : w.heap.size ≤ b0) (ho : recJ.Own w3 b0 ev' l) :
  RG (w3.setCell ⟨G,6,none⟩ ev') base G tv cv role { s with ends:=l } bv sv ev' ∧ Below base w (w3.setCell ⟨G,6,none⟩ ev'):=by
 have hGb:=Nat.le_trans h.gb (Nat.le_of_lt h.blk.lt)
 have hlt:=h.blk.lt
 have h3:=h.below hB
 have hs : Chg (fun k => k = G) w3 (w3.setCell ⟨G,6,none⟩ ev'):=Chg.setCell _ _ _ rfl
 have nb : ∀ b,ev'.ownBlock = some b → w.heap.size ≤ b:=fun b hb => Nat.le_trans hb0 (Rec.Own.ltV ho b hb).1
 refine ⟨⟨h3.blk.set 6 ev',h3.ob.chgV hs (fun k hk => (h.a1 k hk).1),h3.os.chgV hs (fun k hk => (h.a2 k hk).1),(ho.chgV hs (fun k hk => by have:=nb k hk; omega)).baseLe (Nat.le_trans hGb hb0),h.gb,?_,?_,?_⟩,?_⟩
 ·intro b hb
  refine ⟨(h.a1 b hb).1,(h.a1 b hb).2.1,fun e => ?_⟩
  have:=nb b e
  have:=(h.ob.ltV b hb).2
  omega
 ·intro b hb
  refine ⟨(h.a2 b hb).1,fun e => ?_⟩
  have:=nb b e
  have:=(h.os.ltV b hb).2
  omega
 ·intro b hb
  have:=nb b hb
  omega
 ·exact (hB.mono hGb).trans (hs.below (fun k hk => by have:=h.gb; omega) (Nat.le_trans hGb hB.size))
theorem InvV.mid {n : Nat} {x : VI} (h : InvV n s) : InvV (n + 1) { s with seen:=s.seen ++ [s.kinds],kinds:=(valuesV s.kinds x).2 } :=
 ⟨h.bl,(valuesV_len (x:=x) h.kl).1,h.bs,h.el,by show (s.seen ++ [s.kinds]).length ≤ n + 1; have:=h.sl; simp; omega,h.dl⟩
end
def GoR (w' : World) (tv cv : Value) (role : UInt8) (T : Nat × Nat × Vs) (e : Ending) : Prop :=
 ∃ G base bv sv ev,e = .returned (.tuple #[.pointer (some ⟨G,0,none⟩),.int .i64 (T.1 : Int),.int .i64 (T.2.1 : Int)]) ∧ (T.2.1 = 0 → RG w' base G tv cv role T.2.2 bv sv ev)
theorem rGo_any (tv cv : Value) (texts : List (List UInt8)) (code : List VI) (role : UInt8) (w : World) (ht : recS.Row w tv texts) (hc : recIns.Row w cv code) (hlt : texts.length ≤ 1000) (hlc : code.length ≤ 5000) (hm : ∀ s ∈ texts,s.length ≤ 140737488355328) :
  Calls Tryz.prog 102 #[.agg #[tv,cv],.int .u8 (role.toNat : Int)] w fun e w' => GoR w' tv cv role (throughV texts code role) e ∧ Below w.heap.size w w':=by
 have HMY:=Lib.hid (fun w' (hB : Below w.heap.size w w') => rMay12_any tv cv texts code w' (ht.below hB) (hc.below hB) (by omega) (by omega) hm)
 obtain ⟨at_,ct,rfl,-,-⟩:=recS_open ht
 obtain ⟨ac,cc,rfl,-,hci⟩:=recIns_open hc
 have HCI:=Lib.hid hci
 clear ht hc hci hm
 obtain ⟨W1,hW1⟩ : ∃ W1,W1 = w.alloc (.cells #[.slice at_ texts.length ct,.slice ac code.length cc] 25):=⟨_,rfl⟩
 have hb1 : Below w.heap.size w W1:=by rw [hW1]; exact b_alloc _ _
 have hx : Blk W1 w.heap.size 25 [.slice at_ texts.length ct,.slice ac code.length cc]:=by rw [hW1]; exact Blk.new w _ _
 obtain ⟨W2,hW2⟩ : ∃ W2,W2 = W1.alloc (.cells #[.slice at_ texts.length ct,.slice ac code.length cc,.int .u8 (role.toNat : Int),.string ⟨#[]⟩,.slice none 0 0,.slice none 0 0,.slice none 0 0,.int .i64 0] 202):=⟨_,rfl⟩
 obtain ⟨G,hG⟩ : ∃ G,G = W1.heap.size:=⟨_,rfl⟩
 have hv2 : RG W2 W1.heap.size G (.slice at_ texts.length ct) (.slice ac code.length cc) role ⟨[],[],[],[],0⟩ (.slice none 0 0) (.slice none 0 0) (.slice none 0 0):=by rw [hW2,hG]; exact RG.start W1 _ _ role _ (Nat.le_refl _)
 have hb2 : Below W1.heap.size W1 W2:=by rw [hW2]; exact b_alloc _ _
 have HX:=Lib.hid hx
 have x0:=hx.cell (k:=0) rfl
 have x1:=hx.cell (k:=1) rfl
 have HB1:=Lib.hid hb1
 have HB2:=Lib.hid hb2
 have H2:=Lib.hid hv2
 have hGx : w.heap.size < G:=by rw [hG]; exact lt_of_cell x0
 have hmk:=mk_ends code.length (by omega)
 obtain ⟨E0,hE0⟩ : ∃ E0,E0 = (recJ.cells (List.replicate code.length 0)).toArray:=⟨_,rfl⟩
 rw [← hE0] at hmk
 have HE0:=Lib.hid hE0
 clear hE0
 clear hb1 hb2 hv2 hx
 obtain ⟨T,hT⟩ : ∃ T,T = throughV texts code role:=⟨_,rfl⟩
 rw [← hT]
 have HT:=Lib.hid hT
 have HRO:=Lib.hid (rRole_any role)
 clear hT
 go_enter Tryz.func102,Tryz.ntmps102
 go_upto_region 1 with fail
 rw [← hW1]
 clear hW1
 go_upto_region 2 with fail
 rw [← hW2,← hG]
 have HGE:=Lib.hid hG
 clear hW2 hG
 have x0:=Below.keeps HB2.out x0
 have x1:=Below.keeps HB2.out x1
 by_cases hmv : mayV texts code = true
 ·rw [hmv] at HMY
  by_cases hro : roleOk role = true
  ·rw [hro] at HRO
   have HOK:=Lib.hid (show (mayV texts code && roleOk role) = true by rw [hmv,hro]; rfl)
   obtain ⟨h16,h256,hni⟩:=ins_24 hmv
   have HNI:=Lib.hid hni
   clear hmv hro hni
   go_upto_region 4 with (first | (go_at_call 137; refine (HMY.out _ (bt HB1.out HB2.out)).mono ?_; rintro e w3 ⟨rfl,hB3⟩; have H3:=Lib.hid (H2.out.below hB3); have HX3:=Lib.hid ((HX.out.below HB2.out).below hB3); have HB3:=Lib.hid (bt HB2.out hB3); clear hB3) | (go_at_call 138; refine (HRO.out _).mono ?_; rintro e w4 ⟨rfl,rfl⟩))
   have hk4:=H3.out.below (b_alloc w4 (.cells E0 3))
   have c6:=hk4.cell (k:=6) rfl
   have f6:=hk4.free (k:=6) (by decide)
   have x1:=HX3.out.cell (k:=1) rfl
   have x4:=(HX3.out.below (b_alloc w4 (.cells E0 3))).cell (k:=1) rfl
   have hw5:=H3.out.freshE (b_alloc w4 (.cells E0 3)) (Nat.le_refl _) (by have:=made_own w4 code.length w4.heap.size (by omega) (Nat.le_refl _); rw [← HE0.out] at this; exact this)
   have hc5 : Chg (fun x => x = G) w4 ((w4.alloc (.cells E0 3)).setCell ⟨G,6,none⟩ (.slice (some ⟨w4.heap.size,0,none⟩) code.length code.length)):=(Chg.alloc _ _ _).trans Chg.set1R
   have hx5:=HX3.out.chg hc5 (by show ¬ (w.heap.size = G); omega)
   go_upto_region 5 with fail
   obtain ⟨w5,hW5⟩ : ∃ w5,w5 = (w4.alloc (.cells E0 3)).setCell ⟨G,6,none⟩ (.slice (some ⟨w4.heap.size,0,none⟩) code.length code.length):=⟨_,rfl⟩
   obtain ⟨ev,hev⟩ : ∃ ev : Value,ev = .slice (some ⟨w4.heap.size,0,none⟩) code.length code.length:=⟨_,rfl⟩
   rw [← hW5] at hw5 hx5 ⊢
   rw [← hev] at hw5
   have H5:=Lib.hid hw5.1
   have HB5:=Lib.hid (HB3.out.trans hw5.2)
   have HX5:=Lib.hid hx5
   clear hk4 c6 f6 x0 x1 x4 hw5 hc5 hx5 hW5 hev hmk H3 HX3 HB3 H2 HB2 HMY HRO
   go_wp2_with fail
   go_loopw [8] (fun t wr => ∃ (i : Nat) (s : Vs) (bv sv : Value),t = .int .i64 (i : Int) ∧ i ≤ code.length ∧ Hid (runV texts.length (inputsV role) role i (code.drop i) s = runV texts.length (inputsV role) role 0 code (startV code.length)) ∧ Hid (RG wr W1.heap.size G (.slice at_ texts.length ct) (.slice ac code.length cc) role s bv sv ev) ∧ Hid (InvV i s) ∧ Hid (WD s) ∧ Hid (s.ends.length = code.length) ∧ Hid (Below W1.heap.size W1 wr)) (fun t _ => code.length - (intOf t).toNat)
   case atStart => exact ⟨0,startV _,_,_,rfl,Nat.zero_le _,rfl,H5.out,start_inv _ h256,(fun b hb => by simp [startV] at hb),by simp [startV,Hid],HB5.out⟩
   case round =>
    obtain ⟨i,s,bv,sv,rfl,hi,HR,HV,HIV,HWD,HEL,HB⟩:=hrel
    have x1:=(HX.out.below HB.out).cell (k:=1) rfl
    by_cases h0 : i < code.length
    ·obtain ⟨⟨ab,cb,hbv⟩,⟨a3,cs,hsv⟩,_⟩:=HV.out.slices
     subst hbv hsv
     obtain ⟨b,off,rfl,d0,d1⟩:=HCI.out i h0
     have kk0 : (0 : Int) ≤ (i : Int):=by omega
     have kk1 : (i : Int) < (code.length : Int):=by omega
     have HP:=Lib.hid (HNI.out i h0)
     have HD0:=Lib.hid d0
     have HD1:=Lib.hid d1
     have HDR:=Lib.hid (List.drop_eq_getElem_cons h0)
     have hvd:=HV.out.below (b_drew wr)
     have hgb : W1.heap.size ≤ wr.drew.heap.size:=Nat.le_trans HB.out.size (b_drew wr).size
     have hby : (s.seen.length + 1) * 16 ≤ 140737488355328:=by have:=HIV.out.sl; omega
     have hod:=hvd.os
     have hGw : G < wr.heap.size:=HV.out.blk.lt
     have c5:=HV.out.cell (k:=5) rfl
     have c3:=HV.out.cell (k:=3) rfl
     have HVD:=Lib.hid hvd
     clear hvd d0 d1
     go_upto_region 8 with fail
     go_cut [] (fun wx => ∃ sv',Hid (RG wx W1.heap.size G (.slice at_ texts.length ct) (.slice (some ⟨b,off,none⟩) code.length cc) role { s with seen:=s.seen ++ [s.kinds] } (.slice ab s.blocks.length cb) sv' ev) ∧ Hid (Below W1.heap.size W1 wx))
     case first =>
      go_region_law (refine recS.step_append1V wr.drew s.kinds rfl _ _ 22 rfl Tryz.underlying22 W1.heap.size (.slice a3 s.seen.length cs) s.seen rfl hod _ rfl _ rfl _ rfl hby hgb ?_; intro g gc w3 hown3 hc3 hg3; have hn3:=HVD.out.newS (sv':=.slice (some ⟨g,0,none⟩) (s.seen.length + 1) gc) hc3 (fun k hk => by cases hk; exact hg3) hown3; have hb3 : Blk w3 G 202 _:=HVD.out.blk.chg hc3 (fun e => (HVD.out.a2 G e).1 rfl); have f5:=hb3.free (k:=5) (by simp); have c5':=hb3.cell (k:=5) rfl; have HN:=Lib.hid hn3; clear hn3 hb3 hown3 hc3 hg3)
      all_goals
       go_wp2_with fail
       go_meet
       case rel => exact ⟨_,HN.out.1,((HB.out.trans ((b_drew wr).mono HB.out.size))).trans HN.out.2⟩
     case rest =>
      obtain ⟨sv',HG,HBA⟩:=hcut
      clear c5 c3 hod hgb hby
      have hbw:=bt HB1.out HBA.out
      have e0:=Below.keeps hbw HD0.out
      have e1:=Below.keeps hbw HD1.out
      have x1:=(HX.out.below HBA.out).cell (k:=1) rfl
      have hbl8:=HIV.out.bl
      obtain ⟨q,hq⟩ : ∃ q,q = thereV texts.length (inputsV role) role s.blocks code[i]:=⟨_,rfl⟩
      have HAH:=Lib.hid (rAhead_any code[i] texts.length ct at_ HG.out (by show s.blocks.length ≤ 1000; omega) (by omega))
      rw [show thereV texts.length (inputsV role) role ({ s with seen:=s.seen ++ [s.kinds] } : Vs).blocks code[i] = q from hq.symm] at HAH
      have HQ:=Lib.hid hq
      clear hq hbw
      go_wp2_with fail
      refine HAH.out.mono ?_
      rintro e w2 ⟨rfl,hB2⟩
      have e0:=Below.keeps hB2 e0
      have e1:=Below.keeps hB2 e1
      have x1:=Below.keeps hB2 x1
      have H2:=Lib.hid (HG.out.below hB2)
      have HB2:=Lib.hid (bt HBA.out hB2)
      clear hB2 HAH
      by_cases hq0 : q = 0
      ·have q1 : ((q : Int) == 0) = true:=by rw [hq0]; rfl
       have HT0:=Lib.hid (show thereV texts.length (inputsV role) role s.blocks code[i] = 0 by rw [← HQ.out,hq0])
       clear hq0
       obtain ⟨x,hx⟩ : ∃ x,x = valuesV s.kinds code[i]:=⟨_,rfl⟩
       have HVV:=Lib.hid (rValues_any code[i] HP.out H2.out (by show s.kinds.length ≤ 1000; have:=HIV.out.kl; omega))
       rw [show valuesV ({ s with seen:=s.seen ++ [s.kinds] } : Vs).kinds code[i] = x from hx.symm] at HVV
       have HX2:=Lib.hid hx
       clear hx
       go_wp2_with fail
       refine HVV.out.mono ?_
       rintro e w3 ⟨rfl,hv3,hB3⟩
       have HB3:=Lib.hid (HB2.out.trans hB3)
       have hbw:=HB1.out.trans (HB3.out.mono HB1.out.size)
       have e0:=Below.keeps hbw HD0.out
       have e1:=Below.keeps hbw HD1.out
       have x1:=(HX.out.below HB3.out).cell (k:=1) rfl
       have H3:=Lib.hid hv3
       clear hv3 hB3 hbw HVV
       by_cases hx0 : x.1 = 0
       ·have q2 : ((x.1 : Int) == 0) = true:=by rw [hx0]; rfl
        have HV0:=Lib.hid (show (valuesV s.kinds code[i]).1 = 0 by rw [← HX2.out,hx0])
        have HTB:=Lib.hid (thereV_blocks HT0.out)
        have HMID:=Lib.hid (HIV.out.mid (x:=code[i]))
        rw [← HX2.out] at HMID
        obtain ⟨r,hr⟩ : ∃ r,r = turnsV i code[i] { s with seen:=s.seen ++ [s.kinds],kinds:=x.2 }:=⟨_,rfl⟩
        have HTU:=Lib.hid (rEnds_any i code[i] (H3.out hx0) HMID.out (by omega) HWD.out HTB.out.1)
        rw [← hr] at HTU
        have HON:=Lib.hid (show oneV texts.length (inputsV role) role i code[i] s = (r.1,{ r.2 with deep:=max s.deep r.2.kinds.length }) by
         unfold oneV
         rw [HT0.out,HV0.out,← HX2.out,← hr]
         rfl)
        have HRD:=Lib.hid (show r.2.deep = s.deep by rw [hr,turnsV_deep])
        have hkr : r.2.kinds.length ≤ 17:=by rw [hr]; exact turnsV_kinds (fun b hb => (HIV.out.bs b hb).2) (by show x.2.length ≤ 16; exact HMID.out.kl)
        clear hr hx0
        go_wp2_with fail
        refine HTU.out.mono ?_
        rintro e w4 ⟨rfl,hv4,hB4⟩
        have HB4:=Lib.hid (HB3.out.trans hB4)
        clear hB4 HTU e0 e1 x1
        by_cases hr0 : r.1 = 0
        ·have q3 : ((r.1 : Int) != 0) = false:=by rw [hr0]; rfl
         obtain ⟨bv4,hv4⟩:=hv4 hr0
         have c7:=hv4.cell (k:=7) rfl
         have c3:=hv4.cell (k:=3) rfl
         have H4:=Lib.hid hv4
         have HONE:=Lib.hid (InvV.one (nt:=texts.length) (inp:=inputsV role) (role:=role) (x:=code[i]) HIV.out (by rw [HEL.out]; exact h0) (by rw [HON.out]; exact hr0))
         have HWD1:=Lib.hid (HWD.out.one (nt:=texts.length) (inp:=inputsV role) (role:=role) (i:=i) (x:=code[i]) HIV.out (by rw [HON.out]; exact hr0))
         rw [HON.out] at HONE HWD1
         have HR1:=Lib.hid (show runV texts.length (inputsV role) role (i + 1) (code.drop (i + 1)) { r.2 with deep:=max s.deep r.2.kinds.length } = runV texts.length (inputsV role) role 0 code (startV code.length) by rw [← HR.out,HDR.out,runV_ok (by rw [HON.out]; exact hr0),HON.out])
         have d1 : (s.deep : Int) ≤ 16:=by have:=HIV.out.dl; omega
         have d2 : (r.2.kinds.length : Int) ≤ 17:=by omega
         rw [HRD.out] at c7
         clear hv4 hr0 hkr HR HDR
         go_upto_region 16 with fail
         refine region_tail 13 [(4,.exact _ (.int .i64 (s.deep : Int))),(8,.exact _ (.string (bs r.2.kinds)))] (by kernel_rfl) (by kernel_rfl) ?_
         simp only [List.take_succ_cons,List.take_zero,List.drop_succ_cons,List.drop_zero]
         (repeat (first | (refine wpG_skip (by kernel_rfl) (fun K hK => ?_); go_big_quiet_skip; refine wpQuiet_nil (hK _ ?_); clear hK K) | (refine wpG_quiet (by rfl) (by rfl) (fun K hK => ?_); go_big_quiet_want; go_big_quiet_op; go_big_quiet_on; refine wpQuiet_nil (hK _ ?_); clear hK K) | (refine wpG_nilOk rfl rfl rfl (by kernel_rfl) (fun K hK => ?_); go_simp; refine hK _ ?_; clear hK K)))
         repeat (refine wpG_exact rfl (by kernel_rfl) (fun w' G hB hS hG => ?_) (fun K hK => ?_); (have v0:=Below.keeps hB c7; have v1:=Below.keeps hB c3; go_simp; exact hG _ (Bel.refl _)); go_simp; refine hK _ ?_; clear hK K; (repeat (first | (refine wpG_skip (by kernel_rfl) (fun K hK => ?_); go_big_quiet_skip; refine wpQuiet_nil (hK _ ?_); clear hK K) | (refine wpG_quiet (by rfl) (by rfl) (fun K hK => ?_); go_big_quiet_want; go_big_quiet_op; go_big_quiet_on; refine wpQuiet_nil (hK _ ?_); clear hK K) | (refine wpG_nilOk rfl rfl rfl (by kernel_rfl) (fun K hK => ?_); go_simp; refine hK _ ?_; clear hK K))))
         refine wpG_nilVT ?_
         intro w5 hB5 hA5
         have h5:=H4.out.below hB5
         have f7:=h5.free (k:=7) (by decide)
         have c7':=h5.cell (k:=7) rfl
         have hd5:=h5.deep (max s.deep r.2.kinds.length)
         have HD5:=Lib.hid hd5
         have HB5:=Lib.hid (HB4.out.trans (hB5.mono HB4.out.size))
         clear h5 hd5 hB5 hA5 c7 c3
         rw [show (max (s.deep : Int) (r.2.kinds.length : Int)) = ((max s.deep r.2.kinds.length : Nat) : Int) by omega]
         go_wp2_with fail
         go_roundw
         case rel => exact ⟨i + 1,_,_,_,by go_num,by omega,HR1.out,HD5.out.1,HONE.out.1,HWD1.out,HONE.out.2.trans HEL.out,HB5.out.trans HD5.out.2⟩
         case measure => simp [intOf]; omega
        ·have q3 : ((r.1 : Int) != 0) = true:=by rw [bne_iff_ne]; omega
         have HE:=Lib.hid (HT.out.trans (throughV_bad HOK.out (r:=(i,r.1,{ r.2 with deep:=max s.deep r.2.kinds.length })) (by rw [← HR.out,HDR.out,runV_bad (by rw [HON.out]; exact hr0),HON.out]) hr0))
         have HR0:=Lib.hid hr0
         clear hr0 hv4 hkr HR HDR
         go_wp2_with fail
         go_ret3
         exact ⟨⟨G,0,.slice none 0 0,.slice none 0 0,.slice none 0 0,by rw [HE.out]; rfl,(fun e => by rw [HE.out] at e; exact absurd e HR0.out)⟩,HB1.out.trans (HB4.out.mono HB1.out.size)⟩
       ·have q2 : ((x.1 : Int) == 0) = false:=by rw [beq_eq_false_iff_ne]; omega
        have q3 : ((x.1 : Int) != 0) = true:=by rw [bne_iff_ne]; omega
        have HON:=Lib.hid (show oneV texts.length (inputsV role) role i code[i] s = (x.1,{ s with seen:=s.seen ++ [s.kinds] }) by unfold oneV; rw [HT0.out,← HX2.out,if_neg (by simp),if_pos hx0])
        have HE:=Lib.hid (HT.out.trans (throughV_bad HOK.out (r:=(i,x.1,{ s with seen:=s.seen ++ [s.kinds] })) (by rw [← HR.out,HDR.out,runV_bad (by rw [HON.out]; exact hx0),HON.out]) hx0))
        have HR0:=Lib.hid hx0
        clear hx0 HR HDR
        go_wp2_with fail
        go_ret3
        exact ⟨⟨G,0,.slice none 0 0,.slice none 0 0,.slice none 0 0,by rw [HE.out]; rfl,(fun e => by rw [HE.out] at e; exact absurd e HR0.out)⟩,HB1.out.trans (HB3.out.mono HB1.out.size)⟩
      ·have q1 : ((q : Int) == 0) = false:=by rw [beq_eq_false_iff_ne]; omega
       have q3 : ((q : Int) != 0) = true:=by rw [bne_iff_ne]; omega
       have HON:=Lib.hid (show oneV texts.length (inputsV role) role i code[i] s = (q,{ s with seen:=s.seen ++ [s.kinds] }) by unfold oneV; rw [← HQ.out,if_pos hq0])
       have HE:=Lib.hid (HT.out.trans (throughV_bad HOK.out (r:=(i,q,{ s with seen:=s.seen ++ [s.kinds] })) (by rw [← HR.out,HDR.out,runV_bad (by rw [HON.out]; exact hq0),HON.out]) hq0))
       have HR0:=Lib.hid hq0
       clear hq0 HR HDR
       go_wp2_with fail
       go_ret3
       exact ⟨⟨G,0,.slice none 0 0,.slice none 0 0,.slice none 0 0,by rw [HE.out]; rfl,(fun e => by rw [HE.out] at e; exact absurd e HR0.out)⟩,HB1.out.trans (HB2.out.mono HB1.out.size)⟩
    ·obtain rfl : i = code.length:=by omega
     have HR1:=Lib.hid (show runV texts.length (inputsV role) role 0 code (startV code.length) = (code.length,overV role s,s) by rw [← HR.out,List.drop_length,runV_nil])
     obtain ⟨⟨ab,cb,hbv⟩,_,_⟩:=HV.out.slices
     subst hbv
     have c4:=HV.out.cell (k:=4) rfl
     have c3:=HV.out.cell (k:=3) rfl
     have k16 : (s.kinds.length : Int) ≤ 16:=by have:=HIV.out.kl; omega
     have b8 : (s.blocks.length : Int) ≤ 8:=by have:=HIV.out.bl; omega
     have n0 : ¬ (code.length : Int) < (code.length : Int):=by omega
     clear h0 HR
     by_cases hr : role = 1
     ·have u1 : ((role.toNat : Int) == 1) = true:=by rw [hr]; rfl
      by_cases hb : 0 < s.blocks.length
      ·have v1 : (0 : Int) < (s.blocks.length : Int):=by omega
       have HO:=Lib.hid (show overV role s = 132 by unfold overV; rw [if_pos hb])
       have HE:=Lib.hid (HT.out.trans (throughV_bad HOK.out (r:=(code.length,132,s)) (by rw [HR1.out,HO.out]) (fun e => by cases e)))
       clear hr hb
       go_wp2_with fail
       go_ret3
       exact ⟨⟨G,0,.slice none 0 0,.slice none 0 0,.slice none 0 0,by rw [HE.out]; rfl,(fun e => by rw [HE.out] at e; cases e)⟩,bt HB1.out HB.out⟩
      ·have v1 : ¬ (0 : Int) < (s.blocks.length : Int):=by omega
       by_cases hk : s.kinds.length = 0
       ·have v2 : ((s.kinds.length : Int) != 0) = false:=by rw [hk]; rfl
        have hke : s.kinds = []:=List.eq_nil_of_length_eq_zero hk
        have HO:=Lib.hid (show overV role s = 0 by unfold overV wantV; rw [if_neg hb,if_pos hr,hke]; simp)
        have HE:=Lib.hid (HT.out.trans (throughV_good HOK.out (r:=(code.length,0,s)) (by rw [HR1.out,HO.out]) rfl))
        clear hr hb hk hke
        go_wp2_with fail
        go_ret3
        exact ⟨⟨G,_,_,_,_,by rw [HE.out]; rfl,(fun _ => by rw [HE.out]; exact HV.out)⟩,bt HB1.out HB.out⟩
       ·have v2 : ((s.kinds.length : Int) != 0) = true:=by rw [bne_iff_ne]; omega
        have HO:=Lib.hid (show overV role s = 130 by unfold overV wantV; rw [if_neg hb,if_pos hr,if_pos (by simpa using hk)])
        have HE:=Lib.hid (HT.out.trans (throughV_bad HOK.out (r:=(code.length,130,s)) (by rw [HR1.out,HO.out]) (fun e => by cases e)))
        clear hr hb hk
        go_wp2_with fail
        go_ret3
        exact ⟨⟨G,0,.slice none 0 0,.slice none 0 0,.slice none 0 0,by rw [HE.out]; rfl,(fun e => by rw [HE.out] at e; cases e)⟩,bt HB1.out HB.out⟩
     ·have u1 : ((role.toNat : Int) == 1) = false:=u8_ne (by decide) hr
      by_cases hb : 0 < s.blocks.length
      ·have v1 : (0 : Int) < (s.blocks.length : Int):=by omega
       have HO:=Lib.hid (show overV role s = 132 by unfold overV; rw [if_pos hb])
       have HE:=Lib.hid (HT.out.trans (throughV_bad HOK.out (r:=(code.length,132,s)) (by rw [HR1.out,HO.out]) (fun e => by cases e)))
       clear hr hb
       go_wp2_with fail
       go_ret3
       exact ⟨⟨G,0,.slice none 0 0,.slice none 0 0,.slice none 0 0,by rw [HE.out]; rfl,(fun e => by rw [HE.out] at e; cases e)⟩,bt HB1.out HB.out⟩
      ·have v1 : ¬ (0 : Int) < (s.blocks.length : Int):=by omega
       by_cases hk : s.kinds.length = 1
       ·have v2 : ((s.kinds.length : Int) != 1) = false:=by rw [hk]; rfl
        by_cases hke : s.kinds = [84]
        ·have v3 : (s.kinds != [84]) = false:=by rw [hke]; rfl
         have v4 : (s.kinds == [84]) = true:=by rw [hke]; rfl
         have HO:=Lib.hid (show overV role s = 0 by unfold overV wantV; rw [if_neg hb,if_neg hr,if_neg (by rw [hk]; decide),if_neg (by rw [hke]; simp)])
         have HE:=Lib.hid (HT.out.trans (throughV_good HOK.out (r:=(code.length,0,s)) (by rw [HR1.out,HO.out]) rfl))
         clear hr hb hk hke
         go_wp2_with fail
         go_ret3
         exact ⟨⟨G,_,_,_,_,by rw [HE.out]; rfl,(fun _ => by rw [HE.out]; exact HV.out)⟩,bt HB1.out HB.out⟩
        ·have v3 : (s.kinds != [84]) = true:=by simpa using hke
         have v4 : (s.kinds == [84]) = false:=by simpa using hke
         have HO:=Lib.hid (show overV role s = 131 by unfold overV wantV; rw [if_neg hb,if_neg hr,if_neg (by rw [hk]; decide),if_pos hke])
         have HE:=Lib.hid (HT.out.trans (throughV_bad HOK.out (r:=(code.length,131,s)) (by rw [HR1.out,HO.out]) (fun e => by cases e)))
         clear hr hb hk hke
         go_wp2_with fail
         go_ret3
         exact ⟨⟨G,0,.slice none 0 0,.slice none 0 0,.slice none 0 0,by rw [HE.out]; rfl,(fun e => by rw [HE.out] at e; cases e)⟩,bt HB1.out HB.out⟩
       ·have v2 : ((s.kinds.length : Int) != 1) = true:=by rw [bne_iff_ne]; omega
        have HO:=Lib.hid (show overV role s = 130 by unfold overV wantV; rw [if_neg hb,if_neg hr,if_pos (by simpa using hk)])
        have HE:=Lib.hid (HT.out.trans (throughV_bad HOK.out (r:=(code.length,130,s)) (by rw [HR1.out,HO.out]) (fun e => by cases e)))
        clear hr hb hk
        go_wp2_with fail
        go_ret3
        exact ⟨⟨G,0,.slice none 0 0,.slice none 0 0,.slice none 0 0,by rw [HE.out]; rfl,(fun e => by rw [HE.out] at e; cases e)⟩,bt HB1.out HB.out⟩
  ·have HE:=Lib.hid (HT.out.trans (throughV_no (texts:=texts) (code:=code) (role:=role) (by simp [hro])))
   have hrf : roleOk role = false:=by simpa using hro
   rw [hrf] at HRO
   clear hmv hro hrf
   go_wp2_with (first | (go_at_call 137; refine (HMY.out _ (bt HB1.out HB2.out)).mono ?_; rintro e w3 ⟨rfl,hB3⟩; have HB3:=Lib.hid (bt HB2.out hB3); clear hB3) | (go_at_call 138; refine (HRO.out _).mono ?_; rintro e w4 ⟨rfl,rfl⟩))
   go_ret3
   exact ⟨⟨G,0,.slice none 0 0,.slice none 0 0,.slice none 0 0,by rw [HE.out]; rfl,(fun e => by rw [HE.out] at e; cases e)⟩,bt HB1.out HB3.out⟩
 ·have HE:=Lib.hid (HT.out.trans (throughV_no (texts:=texts) (code:=code) (role:=role) (by simp [hmv])))
  have hmf : mayV texts code = false:=by simpa using hmv
  rw [hmf] at HMY
  clear hmv hmf
  go_wp2_with (go_at_call 137; refine (HMY.out _ (bt HB1.out HB2.out)).mono ?_; rintro e w3 ⟨rfl,hB3⟩; have HB3:=Lib.hid (bt HB2.out hB3); clear hB3)
  go_ret3
  exact ⟨⟨G,0,.slice none 0 0,.slice none 0 0,.slice none 0 0,by rw [HE.out]; rfl,(fun e => by rw [HE.out] at e; cases e)⟩,bt HB1.out HB3.out⟩
end Go.Proofs.YtehllcbnheicoaaGreatDoor
