/- Lemmas for FoldTells, part 27: walks of the functions that it reaches, and the plain laws behind them. -/
import Derived.Maps.Own
import Derived.Maps.OwnOps
import Derived.Maps.OwnSet
import Derived.WalkKit
import Derived.Test.YtehllcbnheicoaaGreatDoorFoldTellsK22
import Derived.Test.YtehllcbnheicoaaGreatDoorFoldTellsK23
import Derived.Test.YtehllcbnheicoaaGreatDoorFoldTellsK25
import Derived.Test.YtehllcbnheicoaaGreatDoorFoldTellsK26
set_option linter.unusedSimpArgs false
set_option linter.unusedVariables false
set_option maxRecDepth 100000
set_option maxHeartbeats 16000000
namespace Go.Proofs.YtehllcbnheicoaaGreatDoor
open Go.RowKit Oct
attribute [local irreducible] wpG
abbrev StR:=Int → List RV → List RV → List Lo → List (List UInt8 × List UInt8) → Prop
section
variable {base G : Nat} {w w' : World} {f : Rf} {X : List (Pt base)}
def RS (base : Nat) (w : World) (G : Nat) (f : Rf) (X : List (Pt base)) (φ : StR) : Prop:=∃ at_ st rg los pr sv lv prv,RM base w G f at_ st rg los pr sv lv prv X ∧ φ at_ st rg los pr
def eqS (a : Int) (s r : List RV) (l : List Lo) (p : List (List UInt8 × List UInt8)) : StR:=fun a' s' r' l' p' => a' = a ∧ s' = s ∧ r' = r ∧ l' = l ∧ p' = p
theorem RS.below {φ : StR} (h : RS base w G f X φ) (hB : Below w.heap.size w w') : RS base w' G f X φ:=by
 obtain ⟨a,s,r,l,p,sv,lv,prv,h1,h2⟩:=h
 exact ⟨a,s,r,l,p,sv,lv,prv,h1.below hB,h2⟩
theorem RS.size {φ : StR} (h : RS base w G f X φ) : base ≤ w.heap.size:=by
 obtain ⟨a,s,r,l,p,sv,lv,prv,h1,-⟩:=h
 exact h1.size
theorem RS.blk {φ : StR} {D : Nat} {hD : base ≤ D} {t : TypeId} {cs : List Value} (h : RS base w G f X φ) (hm : blkPt D hD t cs ∈ X) : Blk w D t cs:=by
 obtain ⟨a,s,r,l,p,sv,lv,prv,h1,-⟩:=h
 exact h1.loc (p:=blkPt D hD t cs) hm
def Does (base G : Nat) (f : Rf) (F : FuncId) (n : Nat) (y : UInt8) (w0 : World) (φ ψ : StR) : Prop :=
 ∀ (w1 : World) (X : List (Pt base)),Below base w0 w1 → RS base w1 G f X φ → Calls Tryz.prog F #[.pointer (some ⟨G,0,none⟩),.agg #[.int .u8 (n : Int),.int .u8 (y.toNat : Int)]] w1 fun r w' => r = .returned (.tuple #[]) ∧ RS base w' G f X ψ ∧ Below base w1 w'
theorem rStep_gen (pc n : Nat) (y : UInt8) (c : Nat) {tv iv ev ow cv : Value} {code : List VI} {st rg : List RV} {los : List Lo} {pr : List (List UInt8 × List UInt8)} {sv lv prv : Value} {φ1 φ2 φ3 φ4 : StR} (hm : RM base w G ⟨tv,cv,iv,ev,ow⟩ (pc : Int) st rg los pr sv lv prv X)
  (hcv : recIns.Row w cv code) (hpc : pc < code.length) (hcl : code.length ≤ 1000) (hn : n = code[pc].1.toNat) (hy : y = code[pc].2)
  (HA : Does base G ⟨tv,cv,iv,ev,ow⟩ 180 n y w (eqS (pc : Int) st rg los pr) φ1) (HN : Does base G ⟨tv,cv,iv,ev,ow⟩ 181 n y w φ1 φ2)
  (HT : ∀ (w1 : World) (X : List (Pt base)),Below base w w1 → RS base w1 G ⟨tv,cv,iv,ev,ow⟩ X φ2 → Calls Tryz.prog 182 #[.pointer (some ⟨G,0,none⟩),.agg #[.int .u8 (n : Int),.int .u8 (y.toNat : Int)]] w1 fun r w' => r = .returned (.int .i64 (c : Int)) ∧ (c = 0 → RS base w' G ⟨tv,cv,iv,ev,ow⟩ X φ3) ∧ Below base w1 w')
  (HBk : c = 0 → Does base G ⟨tv,cv,iv,ev,ow⟩ 183 n y w φ3 φ4) (hφ : ∀ a s r l p,φ4 a s r l p → -1 ≤ a ∧ a ≤ 1000) :
  Calls Tryz.prog 153 #[.pointer (some ⟨G,0,none⟩)] w fun r w' => r = .returned (.int .i64 (c : Int)) ∧ (c = 0 → RS base w' G ⟨tv,cv,iv,ev,ow⟩ X (fun a s r l p => φ4 (a - 1) s r l p)) ∧ Below base w w':=by
 obtain ⟨ac,nc,rfl,-,hcc⟩:=recIns_open hcv
 obtain ⟨b,off,rfl,d0,d1⟩:=hcc pc hpc
 rw [← hn] at d0
 rw [← hy] at d1
 have c1 : w.cell? ⟨G,1,none⟩ = some (.slice (some ⟨b,off,none⟩) code.length nc):=hm.cell (k:=1) rfl
 have c5 : w.cell? ⟨G,5,none⟩ = some (.int .i64 (pc : Int)):=hm.cell (k:=5) rfl
 have i0 : (0 : Int) ≤ (pc : Int):=by omega
 have i1 : (pc : Int) < (code.length : Int):=by omega
 have i2 : (code.length : Int) ≤ 1000:=by omega
 have hGl : G < w.heap.size:=hm.blk.lt
 have hbl : b < w.heap.size:=lt_of_cell d0
 have HM:=Lib.hid hm
 have HA:=Lib.hid HA
 have HN:=Lib.hid HN
 have HT:=Lib.hid HT
 have HK:=Lib.hid HBk
 have HF:=Lib.hid hφ
 clear hm hcv hcc hn hy HBk hφ
 go_enter Tryz.func153,Tryz.ntmps153
 go_wp2_with fail
 go_region
 obtain ⟨T,hT⟩ : ∃ T,T = w.heap.size:=⟨_,rfl⟩
 have hTb : base ≤ T:=by rw [hT]; exact HM.out.size
 obtain ⟨W1,hW1⟩ : ∃ W1,W1 = (w.alloc (.cells #[.int .u8 (n : Int),.int .u8 (y.toNat : Int)] 97)).drew:=⟨_,rfl⟩
 have hb1 : Below w.heap.size w W1:=by rw [hW1]; exact bt (b_alloc _ _) (b_drew _)
 have hm1 : RS base W1 G ⟨tv,.slice (some ⟨b,off,none⟩) code.length nc,iv,ev,ow⟩ (X ++ [blkPt T hTb 97 [.int .u8 (n : Int),.int .u8 (y.toNat : Int)]]) (eqS (pc : Int) st rg los pr):=by
  subst hT
  rw [hW1]
  exact ⟨_,_,_,_,_,_,_,_,(HM.out.add [.int .u8 (n : Int),.int .u8 (y.toNat : Int)] 97).below (b_drew _),rfl,rfl,rfl,rfl,rfl⟩
 have HB1:=Lib.hid (hb1.mono HM.out.size)
 rw [← hW1,← hT]
 have hx:=hm1.blk (D:=T) (hD:=hTb) (t:=97) (cs:=[.int .u8 (n : Int),.int .u8 (y.toNat : Int)]) (by simp)
 have x0:=hx.cell (k:=0) rfl
 have x1:=hx.cell (k:=1) rfl
 have HM1:=Lib.hid hm1
 clear hW1 hT hb1 hm1 hx d0 d1 c1 c5 hGl hbl
 go_upto_region 3 with (go_at_call 180; refine (HA.out _ _ HB1.out HM1.out).mono ?_; rintro r w2 ⟨rfl,hm,hB⟩; have HM2:=Lib.hid hm; have HB2:=Lib.hid (HB1.out.trans hB); clear hm hB)
 clear x0 x1
 have hx:=HM2.out.blk (D:=T) (hD:=hTb) (t:=97) (cs:=[.int .u8 (n : Int),.int .u8 (y.toNat : Int)]) (by simp)
 have x0:=hx.cell (k:=0) rfl
 have x1:=hx.cell (k:=1) rfl
 clear hx
 go_upto_region 4 with (go_at_call 181; refine (HN.out _ _ HB2.out HM2.out).mono ?_; rintro r w3 ⟨rfl,hm,hB⟩; have HM3:=Lib.hid hm; have HB3:=Lib.hid (HB2.out.trans hB); clear hm hB)
 clear x0 x1
 have hx:=HM3.out.blk (D:=T) (hD:=hTb) (t:=97) (cs:=[.int .u8 (n : Int),.int .u8 (y.toNat : Int)]) (by simp)
 have x0:=hx.cell (k:=0) rfl
 have x1:=hx.cell (k:=1) rfl
 clear hx
 by_cases hc : c = 0
 ·have t1 : ((c : Int) == 0) = true:=by rw [hc]; rfl
  have HK2:=Lib.hid (HK.out hc)
  have HC:=Lib.hid hc
  clear hc
  go_upto_region 6 with (go_at_call 182; refine (HT.out _ _ HB3.out HM3.out).mono ?_; rintro r w4 ⟨rfl,hm,hB⟩; have HM4:=Lib.hid (hm HC.out); have HB4:=Lib.hid (HB3.out.trans hB); clear hm hB)
  clear x0 x1
  have hx:=HM4.out.blk (D:=T) (hD:=hTb) (t:=97) (cs:=[.int .u8 (n : Int),.int .u8 (y.toNat : Int)]) (by simp)
  have x0:=hx.cell (k:=0) rfl
  have x1:=hx.cell (k:=1) rfl
  clear hx
  go_upto_region 7 with (go_at_call 183; refine (HK2.out _ _ HB4.out HM4.out).mono ?_; rintro r w5 ⟨rfl,hm,hB⟩; have HM5:=Lib.hid hm; have HB5:=Lib.hid (HB4.out.trans hB); clear hm hB)
  clear x0 x1
  obtain ⟨a,s,r,l,p,sv5,lv5,pv5,hm5,hf5⟩:=HM5.out
  have c5:=hm5.cell (k:=5) rfl
  have f5:=hm5.free (k:=5) (by decide)
  obtain ⟨a0,a1⟩:=HF.out _ _ _ _ _ hf5
  have HR5:=Lib.hid hm5
  have HF5:=Lib.hid hf5
  clear hm5 hf5
  go_wp2_with fail
  go_ret
  obtain ⟨m6,b6⟩:=HR5.out.setAt (a + 1)
  refine ⟨rfl,fun _ => ⟨_,s,r,l,p,sv5,lv5,pv5,RM.drop (X:=X) m6,?_⟩,HB5.out.trans b6⟩
  show φ4 (a + 1 - 1) s r l p
  rw [show a + 1 - 1 = a by omega]
  exact HF5.out
 ·have t1 : ((c : Int) == 0) = false:=by rw [beq_eq_false_iff_ne]; omega
  have HC:=Lib.hid hc
  clear hc
  go_wp2_with (go_at_call 182; refine (HT.out _ _ HB3.out HM3.out).mono ?_; rintro r w4 ⟨rfl,-,hB⟩; have HB4:=Lib.hid (HB3.out.trans hB); clear hB)
  go_ret
  exact ⟨rfl,fun h => absurd h HC.out,HB4.out⟩
end
end Go.Proofs.YtehllcbnheicoaaGreatDoor
namespace Go.Proofs.YtehllcbnheicoaaGreatDoor
open Go.RowKit Oct
attribute [local irreducible] wpG
section
variable {base G : Nat} {w w' w3 : World} {f : Mf} {at_ : Int} {st rg : List MV} {eos : List Eo} {pr : List (List UInt8 × List UInt8)} {tr : List Int} {stv opv prv trv : Value} {X : List (Pt base)}
theorem parse_ok_in {s : List UInt8} {v : Int} (h : Lib.atoiAll s = .ok v) : -9223372036854775808 ≤ v ∧ v ≤ 9223372036854775807:=by
 rw [← Lib.parseIntB_64] at h
 have:=Lib.parseIntB_bounds h
 simp at this
 omega
theorem pI_is {s : List UInt8} {e : Ending} {v : Int} (h : (∃ v,Lib.atoiAll s = .ok v ∧ e = .returned (.tuple #[.int .i64 v,.nilIface])) ∨ ((∀ v,Lib.atoiAll s ≠ .ok v) ∧ ∃ n tp N,e = .returned (.tuple #[.int .i64 n,.iface tp (.pointer (some ⟨N,0,none⟩))]))) (hv : Lib.atoiAll s = .ok v) : e = .returned (.tuple #[.int .i64 v,.nilIface]):=by
 rcases h with ⟨u,hu,rfl⟩ | ⟨hn,_⟩
 ·rw [hv] at hu; cases hu; rfl
 ·exact absurd hv (hn v)
theorem pI_not {s : List UInt8} {e : Ending} (h : (∃ v,Lib.atoiAll s = .ok v ∧ e = .returned (.tuple #[.int .i64 v,.nilIface])) ∨ ((∀ v,Lib.atoiAll s ≠ .ok v) ∧ ∃ n tp N,e = .returned (.tuple #[.int .i64 n,.iface tp (.pointer (some ⟨N,0,none⟩))]))) (hv : ¬ ∃ v,Lib.atoiAll s = .ok v) : ∃ n tp N,e = .returned (.tuple #[.int .i64 n,.iface tp (.pointer (some ⟨N,0,none⟩))]):=by
 rcases h with ⟨u,hu,_⟩ | ⟨_,h⟩
 ·exact absurd ⟨u,hu⟩ hv
 ·exact h
theorem vparse_any (y : UInt8) (a : MV) (h : MR base w G f at_ (a :: st) rg eos pr tr stv opv prv trv X) (hl : st.length ≤ 900) (ha : vOk a) (hG : ∀ w',Below base w w' → GlobV w') :
  Calls Tryz.prog 276 #[.pointer (some ⟨G,0,none⟩),.int .u8 (y.toNat : Int)] w fun e w' => e = .returned (.int .i64 0) ∧ (∃ stv',MR base w' G f at_ ((parseM a.2,[]) :: st) rg eos pr tr stv' opv prv trv X) ∧ Below base w w':=by
 have HP:=Lib.hid (pop_any a h (by omega))
 have HG:=Lib.hid hG
 have HPI:=Lib.hid (fun w' (hB : Below base w w') => pI_bel a.2 ha.2.2 (HG.out w' hB))
 clear h hG
 by_cases hok : ∃ v,Lib.atoiAll a.2 = .ok v
 ·obtain ⟨v,hv0⟩:=hok
  have hv:=parse_ok_in hv0
  have HPO:=Lib.hid (fun w' (hB : Below base w w') => (HPI.out w' hB).mono fun e w'' h => (⟨pI_is h.1 hv0,h.2⟩ : e = .returned (.tuple #[.int .i64 v,.nilIface]) ∧ Below w'.heap.size w' w''))
  obtain ⟨iv,hivv⟩ : ∃ iv,iv = Lib.itoa v:=⟨_,rfl⟩
  have HFM:=Lib.hid (fun w' (hB : Below base w w') => fmt_bel hv.1 hv.2 (HG.out w' hB).tab)
  rw [← hivv] at HFM
  by_cases hiv : iv = a.2
  ·have HV:=Lib.hid (show parseM a.2 = v by unfold parseM; rw [hv0]; exact if_pos (hivv ▸ hiv))
   have t1 : (iv == a.2) = true:=by rw [hiv]; simp
   have t2 : (iv != a.2) = false:=by rw [hiv]; simp
   clear hiv hv0 HPI hivv
   rw [HV.out]
   go_enter Tryz.func276,Tryz.ntmps276
   go_wp2_with (first | (go_at_call 293; refine (push_any (v,[]) HM4.out (by omega)).mono ?_; rintro e w5 ⟨rfl,⟨sv5,hm⟩,hB⟩; have HM5:=Lib.hid hm; have HB5:=Lib.hid (HB4.out.trans hB); clear hm hB) | (go_at_call 203; refine (HFM.out _ HB3.out).mono ?_; rintro e w4 ⟨rfl,hB⟩; have HM4:=Lib.hid (HM3.out.below hB); have HB4:=Lib.hid (HB3.out.trans (hB.mono HM3.out.size)); clear hB) | (go_at_call 210; refine (HPO.out _ HB.out).mono ?_; rintro e w3 ⟨rfl,hB⟩; have HM3:=Lib.hid (HM.out.below hB); have HB3:=Lib.hid (HB.out.trans (hB.mono HM.out.size)); clear hB) | (go_at_call 150; refine HP.out.mono ?_; rintro e w2 ⟨rfl,⟨sv,hm⟩,hB⟩; unfold mvV; have HM:=Lib.hid hm; have HB:=Lib.hid hB; clear hm hB))
   go_ret
   exact ⟨rfl,⟨_,HM5.out⟩,HB5.out⟩
  ·have HV:=Lib.hid (show parseM a.2 = 0 by unfold parseM; rw [hv0]; exact if_neg (hivv ▸ hiv))
   have t1 : (iv == a.2) = false:=by simpa using hiv
   have t2 : (iv != a.2) = true:=by simpa using hiv
   clear hiv hv0 HPI hivv
   rw [HV.out]
   go_enter Tryz.func276,Tryz.ntmps276
   go_wp2_with (first | (go_at_call 293; refine (push_any (0,[]) HM4.out (by omega)).mono ?_; rintro e w5 ⟨rfl,⟨sv5,hm⟩,hB⟩; have HM5:=Lib.hid hm; have HB5:=Lib.hid (HB4.out.trans hB); clear hm hB) | (go_at_call 203; refine (HFM.out _ HB3.out).mono ?_; rintro e w4 ⟨rfl,hB⟩; have HM4:=Lib.hid (HM3.out.below hB); have HB4:=Lib.hid (HB3.out.trans (hB.mono HM3.out.size)); clear hB) | (go_at_call 210; refine (HPO.out _ HB.out).mono ?_; rintro e w3 ⟨rfl,hB⟩; have HM3:=Lib.hid (HM.out.below hB); have HB3:=Lib.hid (HB.out.trans (hB.mono HM.out.size)); clear hB) | (go_at_call 150; refine HP.out.mono ?_; rintro e w2 ⟨rfl,⟨sv,hm⟩,hB⟩; unfold mvV; have HM:=Lib.hid hm; have HB:=Lib.hid hB; clear hm hB))
   go_ret
   exact ⟨rfl,⟨_,HM5.out⟩,HB5.out⟩
 ·have HV:=Lib.hid (show parseM a.2 = 0 by
   unfold parseM
   cases h : Lib.atoiAll a.2 with
   | ok v => exact absurd ⟨v,h⟩ hok
   | _ => rfl)
  have HPN:=Lib.hid (fun w' (hB : Below base w w') => (HPI.out w' hB).mono fun e w'' h => (⟨pI_not h.1 hok,h.2⟩ : (∃ n tp N,e = .returned (.tuple #[.int .i64 n,.iface tp (.pointer (some ⟨N,0,none⟩))])) ∧ Below w'.heap.size w' w''))
  clear hok HPI
  rw [HV.out]
  go_enter Tryz.func276,Tryz.ntmps276
  go_wp2_with (first | (go_at_call 293; refine (push_any (0,[]) HM3.out (by omega)).mono ?_; rintro e w5 ⟨rfl,⟨sv5,hm⟩,hB⟩; have HM5:=Lib.hid hm; have HB5:=Lib.hid (HB3.out.trans hB); clear hm hB) | (go_at_call 210; refine (HPN.out _ HB.out).mono ?_; rintro e w3 ⟨⟨n3,tp3,N3,rfl⟩,hB⟩; have HM3:=Lib.hid (HM.out.below hB); have HB3:=Lib.hid (HB.out.trans (hB.mono HM.out.size)); clear hB) | (go_at_call 150; refine HP.out.mono ?_; rintro e w2 ⟨rfl,⟨sv,hm⟩,hB⟩; unfold mvV; have HM:=Lib.hid hm; have HB:=Lib.hid hB; clear hm hB))
  go_ret
  exact ⟨rfl,⟨_,HM5.out⟩,HB5.out⟩
end
end Go.Proofs.YtehllcbnheicoaaGreatDoor
namespace Go.Proofs.YtehllcbnheicoaaGreatDoor
open Go.RowKit Oct
attribute [local irreducible] wpG
section
variable {base G : Nat} {w w' w3 : World} {f : Mf} {at_ : Int} {st rg : List MV} {eos : List Eo} {pr : List (List UInt8 × List UInt8)} {tr : List Int} {stv opv prv trv : Value} {X : List (Pt base)}
theorem vpart_any (y : UInt8) (n a t : MV) (h : MR base w G f at_ (n :: a :: t :: st) rg eos pr tr stv opv prv trv X) (hl : st.length ≤ 800) (hn : vOk n) (ha : vOk a) (ht : vOk t) :
  Calls Tryz.prog 275 #[.pointer (some ⟨G,0,none⟩),.int .u8 (y.toNat : Int)] w fun e w' => e = .returned (.int .i64 0) ∧ (∃ stv',MR base w' G f at_ ((0,partM t.2 a.1 n.1) :: st) rg eos pr tr stv' opv prv trv X) ∧ Below base w w':=by
 have HP:=Lib.hid (two_any a n h (by simp; omega))
 have HS:=Lib.hid h.size
 clear h
 go_enter Tryz.func275,Tryz.ntmps275
 go_upto_region 2 with (go_at_call 294; refine HP.out.mono ?_; rintro e w2 ⟨rfl,⟨sv,hm⟩,hB⟩; unfold mvV; have HM:=Lib.hid hm; have HB:=Lib.hid hB; clear hm hB)
 obtain ⟨W3,hW3⟩ : ∃ W3,W3 = (w2.alloc (.cells #[.int .i64 a.1,.string (bs a.2)] 223)).alloc (.cells #[.int .i64 n.1,.string (bs n.2)] 223):=⟨_,rfl⟩
 have hb3 : Below w2.heap.size w2 W3:=by rw [hW3]; exact bt (b_alloc _ _) (b_alloc _ _)
 obtain ⟨D,hD⟩ : ∃ D,D = w2.heap.size:=⟨_,rfl⟩
 have hDb : base ≤ D:=by rw [hD]; exact HM.out.size
 have hDb1 : base ≤ D + 1:=by omega
 have hmx : MR base W3 G f at_ (t :: st) rg eos pr tr sv opv prv trv (X ++ [blkPt D hDb 223 [.int .i64 a.1,.string (bs a.2)]] ++ [blkPt (D + 1) hDb1 223 [.int .i64 n.1,.string (bs n.2)]]):=by rw [hW3]; exact HM.out.add2 _ _ _ D hD hDb hDb1
 have HB3:=Lib.hid (HB.out.trans (hb3.mono HM.out.size))
 have HPP:=Lib.hid (pop_any t hmx (by omega))
 rw [← hD]
 rw [← hW3]
 clear hW3 hD hb3 HM HB hmx
 go_upto_region 3 with (go_at_call 150; refine HPP.out.mono ?_; rintro e w4 ⟨rfl,⟨sv4,hm⟩,hB⟩; unfold mvV; have hd : Blk w4 D 223 [.int .i64 a.1,.string (bs a.2)]:=hm.loc (p:=blkPt D hDb 223 [.int .i64 a.1,.string (bs a.2)]) (by simp); have hd1 : Blk w4 (D + 1) 223 [.int .i64 n.1,.string (bs n.2)]:=hm.loc (p:=blkPt (D + 1) hDb1 223 [.int .i64 n.1,.string (bs n.2)]) (by simp); have x0:=hd.cell (k:=0) rfl; have y0:=hd1.cell (k:=0) rfl; have HM4:=Lib.hid hm; have HB4:=Lib.hid (HB3.out.trans hB); clear hm hB hd hd1)
 obtain ⟨k,hk⟩ : ∃ k,k = clampM a.1 t.2.length:=⟨_,rfl⟩
 have hk1 : min (max a.1 0) (t.2.length : Int) = (k : Int):=by rw [hk]; unfold clampM; omega
 have hk2 : (k : Int) ≤ (t.2.length : Int):=by omega
 have hk3 : (0 : Int) ≤ (k : Int):=by omega
 obtain ⟨u,hu⟩ : ∃ u,u = t.2.drop k:=⟨_,rfl⟩
 obtain ⟨j,hj⟩ : ∃ j,j = clampM n.1 u.length:=⟨_,rfl⟩
 have hj1 : min (max n.1 0) (u.length : Int) = (j : Int):=by rw [hj]; unfold clampM; omega
 have hj2 : (j : Int) ≤ (u.length : Int):=by omega
 have hj3 : (0 : Int) ≤ (j : Int):=by omega
 have hul : (u.length : Int) ≤ 1024:=by have:=ht.2.2; rw [hu,List.length_drop]; omega
 have htl : (t.2.length : Int) ≤ 1024:=by have:=ht.2.2; omega
 have HV:=Lib.hid (show partM t.2 a.1 n.1 = u.take j by unfold partM; rw [← hk,← hu,← hj])
 have hu' : List.drop k t.2 = u:=hu.symm
 have hq : List.take (t.2.length - k) u = u:=List.take_of_length_le (by rw [hu,List.length_drop]; exact Nat.le_refl _)
 clear hk hu hj
 go_upto_region 4 with fail
 go_wp2_with (go_at_call 293; refine (push_any (0,u.take j) HM4.out (by omega)).mono ?_; rintro e w5 ⟨rfl,⟨sv5,hm⟩,hB⟩; have HM5:=Lib.hid hm; have HB5:=Lib.hid (HB4.out.trans hB); clear hm hB)
 go_ret
 rw [HV.out]
 exact ⟨rfl,⟨_,HM5.out.pre (by rw [List.append_assoc]; exact List.prefix_append _ _)⟩,HB5.out⟩
end
end Go.Proofs.YtehllcbnheicoaaGreatDoor
namespace Go.Proofs.YtehllcbnheicoaaGreatDoor
open Go.RowKit Oct
attribute [local irreducible] wpG
section
variable {base G : Nat} {w w' w3 : World} {f : Mf} {at_ : Int} {st rg : List MV} {eos : List Eo} {pr : List (List UInt8 × List UInt8)} {tr : List Int} {tv cv iv ev lv stv opv opv' prv trv trv' : Value} {X : List (Pt base)}
theorem leftE_start (pc : Nat) (N : Nat) (s : List UInt8) (c : UInt8) : leftE ⟨pc,N + 2,N,N + 1,!s.isEmpty,s,c⟩ = piecesM s c:=by
 unfold leftE piecesM
 cases s <;> rfl
theorem MR.addBox {e : Eo} (h : MR base w G f at_ st rg eos pr tr stv opv prv trv X) (hB : Below w.heap.size w w') (hb : boxOk base w' e) (hf : ∀ k,eoIn k e → w.heap.size ≤ k) : MR base w' G f at_ st rg eos pr tr stv opv prv trv (X ++ [boxPt [e]]) :=
 ⟨h.gb,h.rl,h.sep.snoc hB (boxPt [e]) ⟨fun x hx => by rw [List.mem_singleton] at hx; subst hx; exact hb,List.pairwise_singleton _ _⟩ (fun k hk => by
  obtain ⟨x,hx,hk⟩:=hk
  rw [List.mem_singleton] at hx
  subst hx
  exact hf k hk)⟩
theorem MR.turnBox {e e' : Eo} (h : MR base w G f at_ st rg eos pr tr stv opv prv trv (X ++ [boxPt [e]])) (hc : Chg (fun k => k = e.bm ∨ k = e.bt) w w') (hb : boxOk base w' e') (h1 : e'.bm = e.bm) (h2 : e'.bt = e.bt) (h3 : e'.bc = e.bc) :
  MR base w' G f at_ st rg eos pr tr stv opv prv trv (X ++ [boxPt [e']]) ∧ Below base w w':=by
 have h4:=h.updX (i:=X.length) (p:=boxPt [e]) (by simp) hc (fun k hk => ⟨e,by simp,by rcases hk with rfl | rfl; exact .inl rfl; exact .inr (.inl rfl)⟩) (boxPt [e']) ⟨fun x hx => by rw [List.mem_singleton] at hx; subst hx; exact hb,List.pairwise_singleton _ _⟩ (fun k hk => by
  obtain ⟨x,hx,hk⟩:=hk
  rw [List.mem_singleton] at hx
  subst hx
  refine ⟨e,by simp,?_⟩
  unfold eoIn at hk ⊢
  rwa [h1,h2,h3] at hk)
 have hx : (X ++ [boxPt (base:=base) [e]]).set X.length (boxPt (base:=base) [e']) = X ++ [boxPt (base:=base) [e']]:=by rw [List.set_append_right _ _ (Nat.le_refl _),Nat.sub_self]; rfl
 rw [hx] at h4
 exact h4
end
end Go.Proofs.YtehllcbnheicoaaGreatDoor
namespace Go.Proofs.YtehllcbnheicoaaGreatDoor
def opsOf (eos : List Eo) : List (Nat × List (List UInt8)):=eos.reverse.map fun e => (e.at_,leftE e)
theorem opsOf_snoc (eos : List Eo) (e : Eo) : opsOf (eos ++ [e]) = (e.at_,leftE e) :: opsOf eos:=by unfold opsOf; rw [List.reverse_append]; rfl
theorem opsOf_length (eos : List Eo) : (opsOf eos).length = eos.length:=by unfold opsOf; simp
theorem opsOf_cons {eos : List Eo} {a : Nat} {ps : List (List UInt8)} {o : List (Nat × List (List UInt8))} (h : opsOf eos = (a,ps) :: o) : ∃ l e,eos = l ++ [e] ∧ e.at_ = a ∧ leftE e = ps ∧ opsOf l = o:=by
 rcases List.eq_nil_or_concat eos with rfl | ⟨l,e,rfl⟩
 ·cases h
 ·rw [List.concat_eq_append,opsOf_snoc] at h
  injection h with h1 h2
  injection h1 with h3 h4
  exact ⟨l,e,by rw [List.concat_eq_append],h3,h4,h2⟩
end Go.Proofs.YtehllcbnheicoaaGreatDoor
namespace Go.Proofs.YtehllcbnheicoaaGreatDoor
open Go.RowKit Oct Go.WideMaps Go.Maps
def cntEnd (code : List VI) (ends : List Int) (k : Nat) (i : Int) : Nat:=(List.range k).countP fun j => (code.getD j (0,0)).1 == 22 && ends.getD j 0 == i
theorem cntEnd_succ (code : List VI) (ends : List Int) (k : Nat) (i : Int) : cntEnd code ends (k + 1) i = cntEnd code ends k i + (if (code.getD k (0,0)).1 = 22 ∧ ends.getD k 0 = i then 1 else 0):=by
 unfold cntEnd
 rw [List.range_succ,List.countP_append,List.countP_singleton]
 by_cases h1 : (code.getD k (0,0)).1 = 22
 ·by_cases h2 : ends.getD k 0 = i
  ·rw [if_pos (by rw [h1,h2]; simp),if_pos ⟨h1,h2⟩]
  ·rw [if_neg (by rw [h1]; simpa using h2),if_neg (fun h => h2 h.2)]
 ·rw [if_neg (by rw [Bool.and_eq_true,beq_iff_eq]; exact fun h => h1 h.1),if_neg (fun h => h1 h.1)]
theorem cntEnd_le (code : List VI) (ends : List Int) (k : Nat) (i : Int) : cntEnd code ends k i ≤ k:=by
 unfold cntEnd
 exact Nat.le_trans List.countP_le_length (by simp)
theorem cntEnd_zero (E : Me) (i : Nat) : cntEnd E.code E.ends E.code.length (i : Int) = 0 ↔ loopEnd E i = false:=by
 unfold cntEnd loopEnd
 rw [List.countP_eq_zero,List.any_eq_false]
def mapI (w : World) (M : Nat) (n : Nat) (c : Int → Nat) : Prop:=∃ D : DataW Unit,w.ownsMap Tryz.prog 3 (plainElem Tryz.prog 3) M n D ∧ ∀ i,D.atKey (.int .i64 i) (.lit (.int .i64 0)) = .lit (.int .i64 ((c i : Nat) : Int))
theorem mapI.block {w w' : World} {M n : Nat} {c : Int → Nat} (h : mapI w M n c) (hb : w'.heap[M]? = w.heap[M]?) : mapI w' M n c:=by
 obtain ⟨D,⟨es,clock,h1,h2⟩,h3⟩:=h
 exact ⟨D,⟨es,clock,hb.trans h1,h2⟩,h3⟩
theorem mapI.mono {w : World} {M n n' : Nat} {c : Int → Nat} (h : mapI w M n c) (hn : n ≤ n') : mapI w M n' c:=by
 obtain ⟨D,h1,h2⟩:=h
 exact ⟨D,h1.mono hn,h2⟩
theorem mapI.lt {w : World} {M n : Nat} {c : Int → Nat} (h : mapI w M n c) : M < w.heap.size:=by
 obtain ⟨D,h1,_⟩:=h
 exact h1.lt
theorem lawI : Keyed Tryz.prog 3:=int_keyed Tryz.underlying3
theorem zeroI (w : World) : (zeroValue 3).run Tryz.prog w = .ok (.int .i64 0) w:=by kernel_rfl
theorem keyI {n : Int} (h1 : -9223372036854775808 ≤ n) (h2 : n ≤ 9223372036854775807) : keyOf Tryz.prog 3 (.int .i64 n) = some (.int .i64 n):=keyOf_int_mk Tryz.underlying3 (WalkArith.wf_i64 (by omega))
theorem mapI.look {w : World} {M n : Nat} {c : Int → Nat} (h : mapI w M n c) {i : Int} (h1 : -9223372036854775808 ≤ i) (h2 : i ≤ 9223372036854775807) :
  (Instr.lookup 220 (.map (some M)) (.int .i64 i) false).run Tryz.prog w = .ok (.int .i64 ((c i : Nat) : Int)) w:=by
 obtain ⟨D,hown,hat⟩:=h
 obtain ⟨k,hrun,hk,_⟩:=hown.lookup_int lawI Tryz.underlying220 Tryz.underlying3 (zeroI w) (keyI h1 h2)
 have h3:=(hat i).symm.trans hk
 injection h3 with h3
 injection h3 with _ h3
 rw [hrun,h3]
end Go.Proofs.YtehllcbnheicoaaGreatDoor
namespace Go.Proofs.YtehllcbnheicoaaGreatDoor
open Go.RowKit Oct
attribute [local irreducible] wpG
section
variable {base G M : Nat} {w w' w3 : World} {f : Mf} {at_ : Int} {st rg : List MV} {eos l : List Eo} {pr : List (List UInt8 × List UInt8)} {tr : List Int} {tv cv iv ev lv stv opv opv' prv trv trv' : Value} {X : List (Pt base)} {e : Eo}
theorem recEa_next (l : List Eo) (e : Eo) : recEa.cells (l ++ [nextE e]) = recEa.cells (l ++ [e]):=by
 rw [Rec.cells_append,Rec.cells_append]; rfl
theorem MR.turnLast (h : MR base w G f at_ st rg (l ++ [e]) pr tr stv opv prv trv X) (hc : Chg (fun k => k = e.bm ∨ k = e.bt) w w') (hb : boxOk base w' (nextE e)) : MR base w' G f at_ st rg (l ++ [nextE e]) pr tr stv opv prv trv X ∧ Below base w w':=by
 have hX : ∀ k,(k = e.bm ∨ k = e.bt) → (boxPt (base:=base) (l ++ [e])).fp k:=fun k hk => ⟨e,by simp,by rcases hk with rfl | rfl; exact .inl rfl; exact .inr (.inl rfl)⟩
 have hap:=(List.pairwise_append.1 h.ob.2).2.2
 have hP : (boxPt (base:=base) (l ++ [nextE e])).P w':=by
  refine ⟨fun x hx => ?_,?_⟩
  ·rcases List.mem_append.1 hx with hx | hx
   ·obtain ⟨h1,h2,h3,h4⟩:=h.ob.1 x (by simp [hx])
    have hn : ∀ k,eoIn k x → ¬ (k = e.bm ∨ k = e.bt):=fun k hk hk' => hap x hx e (by simp) k hk (by rcases hk' with rfl | rfl; exact .inl rfl; exact .inr (.inl rfl))
    exact ⟨h1.chg hc (hn _ (.inl rfl)),h2.chg hc (hn _ (.inr (.inl rfl))),h3.chg hc (hn _ (.inr (.inr rfl))),h4⟩
   ·rw [List.mem_singleton] at hx
    subst hx
    exact hb
  ·refine List.pairwise_append.2 ⟨(List.pairwise_append.1 h.ob.2).1,List.pairwise_singleton _ _,fun a ha b hb' k hk hk' => ?_⟩
   rw [List.mem_singleton] at hb'
   subst hb'
   exact hap a ha e (by simp) k hk hk'
 have hf : ∀ k,(boxPt (base:=base) (l ++ [nextE e])).fp k → (boxPt (base:=base) (l ++ [e])).fp k:=by
  rintro k ⟨x,hx,hk⟩
  rcases List.mem_append.1 hx with hx | hx
  ·exact ⟨x,by simp [hx],hk⟩
  ·rw [List.mem_singleton] at hx
   subst hx
   exact ⟨e,by simp,hk⟩
 have s1:=h.sep.upd (i:=3) rfl hc hX (boxPt (l ++ [nextE e])) hP (fun k hk => .inl (hf k hk))
 have ho : recEa.Own w' base opv (l ++ [nextE e]):=by
  have:=s1.get (i:=2) (p:=ownPt recEa opv (l ++ [e])) rfl
  have this : recEa.Own w' base opv (l ++ [e]):=this
  unfold Rec.Own at this ⊢
  rw [recEa_next]
  simpa using this
 have s2:=s1.same (i:=2) (p:=ownPt recEa opv (l ++ [e])) rfl (ownPt recEa opv (l ++ [nextE e])) ho (fun k hk => hk)
 exact ⟨⟨h.gb,h.rl,s2⟩,h.sep.updB (i:=3) rfl hc hX h.size⟩
theorem vend_not (y : UInt8) (pc n : Nat) (c : Int → Nat) (h : MR base w G ⟨tv,cv,iv,ev,.map (some M),[],0⟩ (pc : Int) st rg eos pr tr stv opv prv trv X) (hm : mapI w M n c) (hc : c (pc : Int) = 0) (hpc : pc ≤ 1000) :
  Calls Tryz.prog 290 #[.pointer (some ⟨G,0,none⟩),.int .u8 (y.toNat : Int)] w fun e w' => e = .returned (.int .i64 0) ∧ Below w.heap.size w w':=by
 have hlk : ∀ nq,(Instr.lookup 220 (.map (some M)) (.int .i64 (pc : Int)) false).run Tryz.prog (w.drewN nq) = .ok (.int .i64 0) (w.drewN nq):=fun nq => by
  have:=(hm.block (w':=w.drewN nq) rfl).look (i:=(pc : Int)) (by omega) (by omega)
  rw [hc] at this
  exact this
 have c4 : w.cell? ⟨G,4,none⟩ = some (.map (some M)):=h.cell (k:=4) rfl
 have c5 : w.cell? ⟨G,5,none⟩ = some (.int .i64 (pc : Int)):=h.cell (k:=5) rfl
 clear h hm hc
 go_enter Tryz.func290,Tryz.ntmps290
 go_wp2_with fail
 go_quiet (fail)
 go_wp2_with fail
 go_ret
 exact ⟨rfl,Below.drewN' _ _⟩
theorem vend_loop (y : UInt8) (pc n : Nat) (c : Int → Nat) (h : MR base w G ⟨tv,cv,iv,ev,.map (some M),[],0⟩ (pc : Int) st rg (l ++ [e]) pr tr stv opv prv trv X) (hm : mapI w M n c) (hc : c (pc : Int) ≠ 0) (hpc : pc ≤ 1000) (hl : st.length ≤ 900) (he : l.length ≤ 900) (hr : e.rest.length ≤ 1024) (hG : ∀ w',Below base w w' → GlobV w') :
  Calls Tryz.prog 290 #[.pointer (some ⟨G,0,none⟩),.int .u8 (y.toNat : Int)] w fun r w' => r = .returned (.int .i64 0) ∧
   ((leftE e = [] ∧ ∃ opv',MR base w' G ⟨tv,cv,iv,ev,.map (some M),[],0⟩ (pc : Int) st rg l pr tr stv opv' prv trv X) ∨
    (∃ p ps,leftE e = p :: ps ∧ ∃ stv' e',leftE e' = ps ∧ e'.at_ = e.at_ ∧ e'.rest.length ≤ 1024 ∧ MR base w' G ⟨tv,cv,iv,ev,.map (some M),[],0⟩ (e.at_ : Int) ((0,p) :: st) rg (l ++ [e']) pr tr stv' opv prv trv X)) ∧ Below base w w':=by
 obtain ⟨k,hk⟩ : ∃ k,k = c (pc : Int):=⟨_,rfl⟩
 have hlk : ∀ nq,(Instr.lookup 220 (.map (some M)) (.int .i64 (pc : Int)) false).run Tryz.prog (w.drewN nq) = .ok (.int .i64 (k : Int)) (w.drewN nq):=fun nq => by
  have:=(hm.block (w':=w.drewN nq) rfl).look (i:=(pc : Int)) (by omega) (by omega)
  rw [← hk] at this
  exact this
 rw [← hk] at hc
 have k0 : ((k : Int) == 0) = false:=by rw [beq_eq_false_iff_ne]; omega
 have c4 : w.cell? ⟨G,4,none⟩ = some (.map (some M)):=h.cell (k:=4) rfl
 have c5 : w.cell? ⟨G,5,none⟩ = some (.int .i64 (pc : Int)):=h.cell (k:=5) rfl
 obtain ⟨_,⟨oa,oc,hov⟩,_,_⟩:=h.slices
 rw [List.length_append,List.length_singleton] at hov
 subst hov
 have HH:=Lib.hid h
 have HG:=Lib.hid hG
 clear h hm hc hk hG
 go_enter Tryz.func290,Tryz.ntmps290
 go_wp2_with fail
 go_quiet (fail)
 go_upto_region 3 with fail
 obtain ⟨W1,hW1⟩ : ∃ W1,W1 = w.drewN nq:=⟨_,rfl⟩
 have hb1 : Below w.heap.size w W1:=by rw [hW1]; exact Below.drewN' _ _
 rw [← hW1]
 have hm1:=HH.out.below hb1
 have HB1:=Lib.hid (hb1.mono HH.out.size)
 clear hW1 hb1 hlk c4 c5 k0
 have c23 : W1.cell? ⟨G,23,none⟩ = some (.slice oa (l.length + 1) oc):=hm1.cellR (k:=0) rfl
 obtain ⟨a',cap,hv,-,hcc⟩:=Rec.Row.open hm1.oo.row
 obtain ⟨b,off,ha,hu⟩:=hcc l.length (by simp)
 rw [List.length_append,List.length_singleton] at hv
 injection hv with e1 e2 e3
 subst e1 e3 ha
 have hg : (l ++ [e])[l.length]'(by simp) = e:=by simp
 rw [hg] at hu
 have d0:=hu 0 _ rfl
 have d1:=hu 1 _ rfl
 change W1.cell? ⟨b,off + l.length * 2,none⟩ = _ at d0
 change W1.cell? ⟨b,off + l.length * 2 + 1,none⟩ = _ at d1
 have hGl : G < W1.heap.size:=hm1.blk.lt
 have hbl : b < W1.heap.size:=lt_of_cell d0
 have hl1 : ((l.length : Int) + 1) - 1 = (l.length : Int):=by omega
 have hl2 : (0 : Int) ≤ (l.length : Int):=by omega
 have hl3 : (l.length : Int) < (l.length : Int) + 1:=by omega
 have hl4 : (l.length : Int) ≤ 900:=by omega
 have HM1:=Lib.hid hm1
 unfold eoF at d1
 clear hm1 hu hcc hg
 go_region
 obtain ⟨B,hB⟩ : ∃ B,B = W1.heap.size:=⟨_,rfl⟩
 have hBb : base ≤ B:=by rw [hB]; exact HM1.out.size
 obtain ⟨W2,hW2⟩ : ∃ W2,W2 = (W1.alloc (.cells #[.int .i64 (e.at_ : Int),eoF e] 351)).drew:=⟨_,rfl⟩
 have hm2 : MR base W2 G ⟨tv,cv,iv,ev,.map (some M),[],0⟩ (pc : Int) st rg (l ++ [e]) pr tr stv (.slice (some ⟨b,off,none⟩) (l.length + 1) oc) prv trv (X ++ [blkPt B hBb 351 [.int .i64 (e.at_ : Int),eoF e]]):=by
  subst hB; rw [hW2]; exact (HM1.out.add [.int .i64 (e.at_ : Int),eoF e] 351).below (b_drew _)
 have HB2:=Lib.hid (show Below base w W2 by rw [hW2]; exact HB1.out.trans ((bt (b_alloc _ _) (b_drew _)).mono HM1.out.size))
 unfold eoF at hW2
 rw [← hW2,← hB]
 clear hW2 hB HM1 HB1 d0 d1 c23 hGl hbl
 obtain ⟨g,hgv⟩:=hm2.oo.at0 (by simp)
 obtain rfl : off = 0:=by injection hgv with h1; injection h1
 clear hgv
 have hX:=hm2.loc (p:=blkPt B hBb 351 [.int .i64 (e.at_ : Int),eoF e]) (by simp)
 have x1:=Blk.cell (k:=1) hX rfl
 have x2:=Blk.lt hX
 unfold eoF at x1
 have HX:=Lib.hid (hm2.ob.1 e (by simp))
 have HM:=Lib.hid hm2
 clear hX hm2
 cases hmo : e.more with
 | false =>
  have HLE:=Lib.hid (show leftE e = [] by unfold leftE; rw [hmo]; rfl)
  go_wp2_with (go_at_call 297; refine (nextM_no HX.out hmo).mono ?_; rintro r w2 ⟨rfl,rfl⟩)
  have hm2:=HM.out
  have c23 : w2.cell? ⟨G,23,none⟩ = some (.slice (some ⟨b,0,none⟩) (l.length + 1) oc):=hm2.cellR (k:=0) rfl
  have f23:=hm2.free (k:=23) (by decide)
  have hGl : G < w2.heap.size:=hm2.blk.lt
  have ho : recEa.Own w2 base (.slice (some ⟨b,0,none⟩) (l ++ [e]).length oc) (l ++ [e]):=by rw [List.length_append,List.length_singleton]; exact hm2.oo
  have hrun:=ho.shortRun 225 Tryz.underlying225 (by intro wx; kernel_rfl) l.length (by simp)
  rw [List.length_append,List.length_singleton] at hrun
  have hsh : recEa.Own w2.drew base (.slice (some ⟨b,0,none⟩) l.length oc) l:=by
   have:=(ho.below (b_drew w2)).short l.length (by simp)
   rwa [List.take_append_of_le_length (by simp),List.take_of_length_le (by simp)] at this
  have hob:=(hm2.below (b_drew w2)).ob
  have hn:=(hm2.below (b_drew w2)).newO (opv':=.slice (some ⟨b,0,none⟩) l.length oc) (l:=l) (Chg.refl _ _) (fun k hk => by cases hk; exact .inl rfl) hsh ⟨fun x hx => hob.1 x (by simp [hx]),(List.pairwise_append.1 hob.2).1⟩ (fun x hx k hk => ⟨x,by simp [hx],hk⟩)
  have HN:=Lib.hid hn
  clear ho hsh hn hob hm2 x1 x2 hmo
  go_region
  go_wp2_with fail
  go_ret
  exact ⟨rfl,.inl ⟨HLE.out,_,HN.out.1.drop⟩,(HB2.out.trans ((b_drew w2).mono HM.out.size)).trans HN.out.2.1⟩
 | true =>
  obtain ⟨hl1',-,hl3'⟩:=leftE_next hmo
  obtain ⟨p,hp⟩ : ∃ p,p = (Lib.cut e.rest [e.by_]).1:=⟨_,rfl⟩
  have HY:=Lib.hid (nextM_yes HX.out hmo hr (HG.out _ HB2.out).mx)
  rw [← hp] at HY hl1'
  have HL1:=Lib.hid hl1'
  have HL3:=Lib.hid hl3'
  clear hl1' hl3' hp hmo
  go_wp2_with (first | (go_at_call 293; refine (push_any (0,p) (HM2.out.setAt (e.at_ : Int)).1 (by omega)).mono ?_; rintro r w5 ⟨rfl,⟨sv5,hm5⟩,hB5⟩; have HM5:=Lib.hid hm5; have HB5:=Lib.hid ((HB3.out.trans (HM2.out.setAt (e.at_ : Int)).2).trans hB5); clear hm5 hB5) | (go_at_call 297; refine HY.out.mono ?_; rintro r w2 ⟨rfl,hbx2,hc2⟩; obtain ⟨hm2,hb2⟩:=HM.out.turnLast hc2 hbx2; have hX2:=hm2.loc (p:=blkPt B hBb 351 [.int .i64 (e.at_ : Int),eoF e]) (by simp); have x0:=Blk.cell (k:=0) hX2 rfl; have c5:=hm2.cell (k:=5) rfl; have f5:=hm2.free (k:=5) (by decide); have HM2:=Lib.hid hm2; have HB3:=Lib.hid (HB2.out.trans hb2); clear hm2 hb2 hc2 hbx2 hX2))
  go_ret
  exact ⟨rfl,.inr ⟨p,_,HL1.out,sv5,nextE e,rfl,rfl,Nat.le_trans HL3.out hr,HM5.out.drop⟩,HB5.out⟩
end
end Go.Proofs.YtehllcbnheicoaaGreatDoor
