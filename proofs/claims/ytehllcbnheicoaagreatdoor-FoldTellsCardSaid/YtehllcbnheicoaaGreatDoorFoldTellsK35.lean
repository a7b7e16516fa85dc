/- Lemmas for FoldTells, part 35: walks of the functions that it reaches, and the plain laws behind them. -/
import Derived.Test.YtehllcbnheicoaaGreatDoorFoldTellsK30
import Derived.Test.YtehllcbnheicoaaGreatDoorFoldTellsK32
import Derived.Test.YtehllcbnheicoaaGreatDoorFoldTellsK34
set_option linter.unusedSimpArgs false
set_option linter.unusedVariables false
set_option maxRecDepth 100000
set_option maxHeartbeats 16000000
namespace Go.Proofs.YtehllcbnheicoaaGreatDoor
open Go.RowKit Oct
attribute [local irreducible] wpG
def ownN (code : List VI) (ends : List Int) : Nat → List Int
 | 0 => List.replicate code.length 0
 | k + 1 => if 0 < ends.getD k 0 ∧ (code.getD (ends.getD k 0).toNat (0,0)).1 = 21 then (ownN code ends k).set (ends.getD k 0).toNat (k : Int) else ownN code ends k
theorem ownN_succ (code : List VI) (ends : List Int) (k : Nat) : ownN code ends (k + 1) = if 0 < ends.getD k 0 ∧ (code.getD (ends.getD k 0).toNat (0,0)).1 = 21 then (ownN code ends k).set (ends.getD k 0).toNat (k : Int) else ownN code ends k:=rfl
theorem ownN_len (code : List VI) (ends : List Int) : ∀ k,(ownN code ends k).length = code.length
 | 0 => by unfold ownN; rw [List.length_replicate]
 | k + 1 => by
  rw [ownN_succ]
  split
  ·rw [List.length_set,ownN_len code ends k]
  ·exact ownN_len code ends k
theorem ownN_ok {nt inp : Nat} {role : UInt8} {E : Me} (G : GoodM nt inp role E) : OwnOk E (ownN E.code E.ends E.code.length):=by
 refine ⟨ownN_len _ _ _,fun i hi ho => ?_⟩
 obtain ⟨j,b,hji,h22,hoj,hej,hu,-,-,-⟩:=at_end G hi ho
 have hrun:=G.run (Nat.le_refl _)
 have key : ∀ k,k ≤ E.code.length → j < k → (ownN E.code E.ends k).getD i 0 = (j : Int):=by
  intro k
  induction k with
  | zero => intro _ h; omega
  | succ k ih =>
   intro hk hjk
   rw [ownN_succ]
   by_cases hjk2 : k = j
   ·subst hjk2
    have hi2 : (E.code.getD ((i : Int)).toNat (0,0)).1 = 21:=by rw [Int.toNat_natCast]; exact ho
    rw [hej,if_pos ⟨by omega,hi2⟩,Int.toNat_natCast]
    exact getD_setEqB (by rw [ownN_len]; exact hi)
   ·have h2:=ih (by omega) (by omega)
    split
    ·rename_i hc
     have hne : (E.ends.getD k 0).toNat ≠ i:=by
      intro e
      have hek : E.ends.getD k 0 = (i : Int):=by have:=hc.1; omega
      have hop : opensV (opV E.code k) = true:=by
       rcases hrun.inv.en k (by omega) with ⟨h0,-⟩ | ⟨-,h,-⟩
       ·have h0' : E.ends.getD k 0 = 0:=by rw [G.ends]; exact h0
        omega
       ·exact h
      exact hjk2 (hu k (by omega) hop hek)
     rw [getD_setNeB hne]; exact h2
    ·exact h2
 refine ⟨j,key _ (Nat.le_refl _) (by omega),by omega,?_⟩
 rw [loopEnd_of hu (by omega) hej]
 exact beq_iff_eq.symm
theorem Rec.Row.lowN {α : Type} {R : Rec α} {w w' : World} {v : Value} {l : List α} {base : Nat} (h : R.Row w v l) (hB : Below base w w') (hX : ∀ b,v.ownBlock = some b → b < base) : R.Row w' v l:=by
 obtain ⟨⟨a,cap,rfl,hn,hu⟩,h2⟩:=h
 refine ⟨⟨a,cap,rfl,hn,fun j u hj => ?_⟩,h2⟩
 obtain ⟨b,off,rfl,hcell⟩:=hu j u hj
 refine ⟨b,off,rfl,?_⟩
 have hk:=hB.block b (hX b rfl)
 unfold World.cell? at hcell ⊢
 rw [hk]; exact hcell
theorem rsep_start {base : Nat} {w : World} {G : Nat} {cs : List Value} {t : TypeId} (hG : base ≤ G) (hb : Blk w G t cs) :
  Sep base w [blkPt G hG t cs,ownPt recVa (.slice none 0 0) [],ownPt recLo (.slice none 0 0) [],loPt [],ownPt recKq (.slice none 0 0) []]:=by
 refine ⟨fun p hp => ?_,?_⟩
 ·simp only [List.mem_cons,List.not_mem_nil,or_false] at hp
  rcases hp with rfl | rfl | rfl | rfl | rfl
  ·exact hb
  ·exact Rec.Own.nil _ _
  ·exact Rec.Own.nil _ _
  ·exact ⟨fun e he => absurd he (List.not_mem_nil),List.Pairwise.nil⟩
  ·exact Rec.Own.nil _ _
 ·have hn : ∀ {α : Type} (R : Rec α) (k : Nat),¬ (ownPt (base:=base) R (.slice none 0 0) []).fp k:=fun R k hk => by cases hk
  have hx : ∀ k,¬ (loPt (base:=base) []).fp k:=fun k hk => by obtain ⟨e,he,_⟩:=hk; cases he
  refine List.Pairwise.cons (fun q hq k hk hk' => ?_) (List.Pairwise.cons (fun q _ k hk => absurd hk (hn _ k)) (List.Pairwise.cons (fun q _ k hk => absurd hk (hn _ k)) (List.Pairwise.cons (fun q _ k hk => absurd hk (hx k)) (List.pairwise_singleton _ _))))
  simp only [List.mem_cons,List.not_mem_nil,or_false] at hq
  rcases hq with rfl | rfl | rfl | rfl
  ·exact hn _ k hk'
  ·exact hn _ k hk'
  ·exact hx k hk'
  ·exact hn _ k hk'
def rgN (k : Nat) : List RV:=(List.range 8).map fun i => (decide (4 ≤ i ∧ i < k),0,[])
theorem rgN_vals (k : Nat) : (rgN k).map (·.2) = List.replicate 8 (0,[]):=by unfold rgN; rw [List.map_map]; rfl
theorem rCells_len (f : Rf) (a : Int) (sv lv prv : Value) {rg : List RV} (h : rg.length = 8) : (rCells f a sv rg lv prv).length = 33:=by
 obtain ⟨x0,x1,x2,x3,x4,x5,x6,x7,rfl⟩:=eightR h
 rfl
theorem rgN_len (k : Nat) : (rgN k).length = 8:=by unfold rgN; rw [List.length_map,List.length_range]
theorem in_getD {l : List Int} {i : Nat} (h : i < l.length) : l.getD i 0 = l[i]:=by rw [List.getD_eq_getElem?_getD,List.getElem?_eq_getElem h]; rfl
theorem vi_getD {l : List VI} {i : Nat} (h : i < l.length) : l.getD i (0,0) = l[i]:=by rw [List.getD_eq_getElem?_getD,List.getElem?_eq_getElem h]; rfl
theorem reg_store {w : World} {b : Nat} {t : TypeId} {cs : List Value} (hx : Blk w b t cs) (k : Nat) (v0 v1 v2 : Value) :
  Blk (((w.setCell ⟨b,k,none⟩ v0).setCell ⟨b,k + 1,none⟩ v1).setCell ⟨b,k + 2,none⟩ v2) b t (((cs.set k v0).set (k + 1) v1).set (k + 2) v2) ∧ Chg (fun x => x = b) w (((w.setCell ⟨b,k,none⟩ v0).setCell ⟨b,k + 1,none⟩ v1).setCell ⟨b,k + 2,none⟩ v2) :=
 ⟨((hx.set k v0).set (k + 1) v1).set (k + 2) v2,Chg.trans (Chg.trans (Chg.setCell w ⟨b,k,none⟩ v0 rfl) (Chg.setCell _ ⟨b,k + 1,none⟩ v1 rfl)) (Chg.setCell _ ⟨b,k + 2,none⟩ v2 rfl)⟩
theorem ends_ltN {texts : List (List UInt8)} {code : List VI} {role : UInt8} (h : (throughV texts code role).2.1 = 0) {j : Nat} (hj : j < code.length) (h0 : 0 < (throughV texts code role).2.2.ends.getD j 0) : (throughV texts code role).2.2.ends.getD j 0 < (code.length : Int):=by
 have hg:=(goodM_of (texts:=texts) (code:=code) (role:=role) h (ins:=List.replicate (inputsV role) []) (by simp) (fun s hs => by rw [(List.mem_replicate.1 hs).2]; simp)).1
 have hE : (throughV texts code role).2.2.ends = (stV texts.length (inputsV role) role code code.length).ends:=hg.ends
 have hr:=(hg.run (Nat.le_refl _)).inv.en j hj
 rw [hE] at h0 ⊢
 rcases hr with ⟨h1,-⟩ | ⟨-,-,-,h2,-⟩
 ·have h1 : (stV texts.length (inputsV role) role code code.length).ends.getD j 0 = 0:=h1
  omega
 ·exact h2
theorem rNew_any (tv cv iv : Value) (texts : List (List UInt8)) (code : List VI) (role : UInt8) (ins : List (List UInt8)) (fuel : Int) (w : World) (ht : recS.Row w tv texts) (hc : recIns.Row w cv code) (hi : recS.Row w iv ins) (hlt : texts.length ≤ 1000) (hcl : code.length ≤ 5000)
  (hm : ∀ s ∈ texts,s.length ≤ 140737488355328) (hGl : GlobV w) (hyes : askRun texts code role ins fuel = true) :
  Calls Tryz.prog 152 #[.agg #[tv,cv],.int .u8 (role.toNat : Int),iv] w fun e w' => (∃ G ev ow,e = .returned (.pointer (some ⟨G,0,none⟩)) ∧ w.heap.size ≤ G ∧ RS G w' G ⟨tv,cv,iv,ev,ow⟩ [] (stS 0 [] (List.replicate 8 (0,[])) [] []) ∧
   ∀ w'',Below G w' w'' → EnvR w'' ⟨texts,code,ins,(throughV texts code role).2.2.ends⟩ tv cv iv ev ow (ownN code (throughV texts code role).2.2.ends code.length)) ∧ Below w.heap.size w w':=by
 have HGO:=Lib.hid (fun w' (hB : Below w.heap.size w w') => rGo_any tv cv texts code role w' (ht.below hB) (hc.below hB) hlt hcl hm)
 have hno:=(askRun_ok hyes).1
 obtain ⟨hel,hein⟩:=ends_in (texts:=texts) (code:=code) (role:=role) hno hcl
 obtain ⟨at_,ct,rfl,-,-⟩:=recS_open ht
 obtain ⟨ac,cc,rfl,-,hcc⟩:=recIns_open hc
 obtain ⟨ai,ci,rfl,-,-⟩:=recS_open hi
 have HT:=Lib.hid ht
 have HC:=Lib.hid hc
 have HI:=Lib.hid hi
 have HG:=Lib.hid hGl
 have HCC:=Lib.hid hcc
 obtain ⟨B4,hB4⟩ : ∃ B4,B4 = w.heap.size:=⟨_,rfl⟩
 obtain ⟨W1,hW1⟩ : ∃ W1,W1 = w.alloc (.cells #[.slice at_ texts.length ct,.slice ac code.length cc] 25):=⟨_,rfl⟩
 have hb1 : Below w.heap.size w W1:=by rw [hW1]; exact b_alloc _ _
 have hx : Blk W1 B4 25 [.slice at_ texts.length ct,.slice ac code.length cc]:=by rw [hB4,hW1]; exact Blk.new w _ _
 have x0:=hx.cell (k:=0) rfl
 have x1:=hx.cell (k:=1) rfl
 obtain ⟨ends,hends⟩ : ∃ x,x = (throughV texts code role).2.2.ends:=⟨_,rfl⟩
 rw [← hends] at hel hein
 have HNO:=Lib.hid hno
 have HB1:=Lib.hid hb1
 have HX:=Lib.hid hx
 have HB4:=Lib.hid hB4
 have HEL:=Lib.hid hel
 have HEI:=Lib.hid hein
 have HENDS:=Lib.hid hends
 have j5 : (code.length : Int) ≤ 5000:=by omega
 go_enter Tryz.func152,Tryz.ntmps152
 go_upto_region 1 with fail
 rw [← hW1,← hB4]
 clear hW1 hB4 hno hb1 hx hel hein hends ht hc hi hGl hyes hcc hm
 go_upto_region 2 with (go_at_call 102; refine (HGO.out _ HB1.out).mono ?_; rintro e w2 ⟨⟨Gg,gb,bv,sv,ev,rfl,hrg⟩,hB2⟩; replace hrg:=hrg HNO.out)
 have hoe : recJ.Row w2 ev ends:=by rw [HENDS.out]; exact hrg.oe.row
 obtain ⟨ae,ce,rfl,-,hec⟩:=recJ_open hoe
 rw [HEL.out] at hrg hoe
 have c6:=hrg.cell (k:=6) rfl
 have x0:=Below.keeps hB2 x0
 have x1:=Below.keeps hB2 x1
 have HOE:=Lib.hid hoe
 have HEC:=Lib.hid hec
 have HB2:=Lib.hid hB2
 have hmk:=fun w => mk_ends code.length (by omega) w
 have hGl : Gg < w2.heap.size:=lt_of_cell c6
 have hBl : B4 < w2.heap.size:=lt_of_cell x0
 clear hrg hoe hec hB2 HGO
 go_region
 go_upto_region 3 with fail
 obtain ⟨O,hO⟩ : ∃ O,O = w2.heap.size:=⟨_,rfl⟩
 obtain ⟨W0,hW0⟩ : ∃ W0,W0 = w2.alloc (.cells (recJ.cells (List.replicate code.length 0)).toArray 3):=⟨_,rfl⟩
 obtain ⟨cs,hcs⟩ : ∃ cs : List Value,cs = [.slice at_ texts.length ct,.slice ac code.length cc,.slice ai ins.length ci,.slice ae code.length ce,.slice (some ⟨O,0,none⟩) code.length code.length,.int .i64 0,.slice none 0 0,.bool false,.int .i64 0,.string ⟨#[]⟩,.bool false,.int .i64 0,.string ⟨#[]⟩,.bool false,.int .i64 0,.string ⟨#[]⟩,.bool false,.int .i64 0,.string ⟨#[]⟩,.bool false,.int .i64 0,.string ⟨#[]⟩,.bool false,.int .i64 0,.string ⟨#[]⟩,.bool false,.int .i64 0,.string ⟨#[]⟩,.bool false,.int .i64 0,.string ⟨#[]⟩,.slice none 0 0,.slice none 0 0]:=⟨_,rfl⟩
 obtain ⟨W3,hW3⟩ : ∃ W3,W3 = (W0.alloc (.cells cs.toArray 238)).drew:=⟨_,rfl⟩
 have hs0 : W0.heap.size = O + 1:=by rw [hW0,hO]; exact size_alV _ _
 have ho3 : recJ.Own W3 O (.slice (some ⟨O,0,none⟩) code.length code.length) (List.replicate code.length 0):=by
  have h1:=made_own w2 code.length O (by omega) (by omega)
  rw [← hW0,← hO] at h1
  rw [hW3]
  exact (h1.below (b_alloc _ _)).below (b_drew _)
 have hb3 : Blk W3 (O + 1) 238 cs:=by rw [hW3,← hs0]; exact (Blk.new W0 _ _).below (b_drew _)
 have hB3 : Below O w2 W3:=by
  have h1 : Below w2.heap.size w2 W0:=by rw [hW0]; exact b_alloc _ _
  rw [hO,hW3]
  exact bt (bt h1 (b_alloc _ _)) (b_drew _)
 have hcm : cs = rCells ⟨.slice at_ texts.length ct,.slice ac code.length cc,.slice ai ins.length ci,.slice ae code.length ce,.slice (some ⟨O,0,none⟩) code.length code.length⟩ 0 (.slice none 0 0) (rgN 4) (.slice none 0 0) (.slice none 0 0):=by rw [hcs]; rfl
 rw [← hO,← hW0]
 have hg3 : (W0.alloc (.cells #[.slice at_ texts.length ct,.slice ac code.length cc,.slice ai ins.length ci,.slice ae code.length ce,.slice (some ⟨O,0,none⟩) code.length code.length,.int .i64 0,.slice none 0 0,.bool false,.int .i64 0,.string ⟨#[]⟩,.bool false,.int .i64 0,.string ⟨#[]⟩,.bool false,.int .i64 0,.string ⟨#[]⟩,.bool false,.int .i64 0,.string ⟨#[]⟩,.bool false,.int .i64 0,.string ⟨#[]⟩,.bool false,.int .i64 0,.string ⟨#[]⟩,.bool false,.int .i64 0,.string ⟨#[]⟩,.bool false,.int .i64 0,.string ⟨#[]⟩,.slice none 0 0,.slice none 0 0] 238)).drew = W3:=by rw [hW3,hcs]
 have hGo : (O + 1 = W0.heap.size):=hs0.symm
 rw [hg3]
 have HO:=Lib.hid hO
 have HO3:=Lib.hid ho3
 have HG3:=Lib.hid hb3
 have HB3:=Lib.hid hB3
 have HCM:=Lib.hid hcm
 have HEL2 : Hid (∀ j,j < code.length → 0 < ends.getD j 0 → ends.getD j 0 < (code.length : Int)):=by
  intro j hj h0
  have e:=HENDS.out
  rw [e] at h0 ⊢
  exact ends_ltN HNO.out hj h0
 have HX0:=Lib.hid x0
 have HX1:=Lib.hid x1
 have HC6:=Lib.hid c6
 clear hmk hO hW0 hcs hW3 hs0 ho3 hb3 hB3 hcm hg3 hGo x0 x1 c6 hGl hBl
 go_wp2_with fail
 go_loopw [11] (fun t wr => ∃ k : Nat,k ≤ code.length ∧ t = .int .i64 k ∧ Hid (recJ.Own wr O (.slice (some ⟨O,0,none⟩) code.length code.length) (ownN code ends k)) ∧ Hid (Below O w2 wr) ∧ Hid (Blk wr (O + 1) 238 cs)) (fun t _ => code.length - (intOf t).toNat)
 case atStart => exact ⟨0,by omega,rfl,HO3.out,HB3.out,HG3.out⟩
 case round =>
  obtain ⟨q,hq,rfl,HOU,HBU,HGU⟩:=hrel
  have hBw : Below w2.heap.size w2 wr:=by rw [← HO.out]; exact HBU.out
  have HBW:=Lib.hid hBw
  have x0:=Below.keeps hBw HX0.out
  have x1:=Below.keeps hBw HX1.out
  have c6:=Below.keeps hBw HC6.out
  clear hBw
  by_cases h1 : q < code.length
  ·have i0 : (0 : Int) ≤ (q : Int):=by omega
   have i1 : (q : Int) < (code.length : Int):=by omega
   have hqe : q < ends.length:=by rw [HEL.out]; exact h1
   obtain ⟨be,oe,rfl,g1⟩:=HEC.out q hqe
   replace g1:=Below.keeps HBW.out g1
   have hge:=in_getD hqe
   have hein:=HEI.out q h1
   have helt:=HEL2.out q h1
   have HSU:=Lib.hid (ownN_succ code ends q)
   obtain ⟨v,hv⟩ : ∃ v,v = ends[q]:=⟨_,rfl⟩
   rw [← hv] at g1 hge
   rw [hge] at HSU hein helt
   have HEIN:=Lib.hid hein
   have HELT:=Lib.hid helt
   have HQ:=Lib.hid hqe
   clear hv hge hein helt hqe
   by_cases h0 : v = 0
   ·subst h0
    have HS2:=Lib.hid (show ownN code ends (q + 1) = ownN code ends q by rw [HSU.out,if_neg (fun h => absurd h.1 (by decide))])
    clear HSU HEIN HELT
    go_wp2_with fail
    go_quiet (fail)
    go_wp2_with fail
    have hbd : Below wr.heap.size wr (wr.drewN nq):=Below.drewN' _ _
    have HBD:=Lib.hid hbd
    clear hbd
    go_roundw
    case rel => exact ⟨q + 1,by omega,by go_num,by rw [HS2.out]; exact HOU.out.below HBD.out,HBU.out.trans (HBD.out.mono (by have:=HBU.out.size; have:=HO.out; omega)),HGU.out.below HBD.out⟩
    case measure => simp [intOf]; omega
   ·have hv0 : 0 < v:=by have:=HEIN.out; omega
    obtain ⟨e,rfl⟩ : ∃ e : Nat,v = (e : Int):=⟨v.toNat,by omega⟩
    have hel : e < code.length:=by have:=HELT.out hv0; omega
    have hv1 : 0 < e:=by omega
    have e0 : (0 : Int) ≤ (e : Int):=by omega
    have e1 : (e : Int) < (code.length : Int):=by omega
    obtain ⟨ac',cc',hcv,-,hcc⟩:=recIns_open ((HC.out.below (bt (bt HB1.out HB2.out) HBW.out)))
    obtain ⟨b,off,rfl,d0,d1⟩:=hcc e hel
    injection hcv with e1' e2' e3'
    subst e1' e3'
    have hgd:=vi_getD hel
    obtain ⟨op,hop⟩ : ∃ op,op = code[e].1:=⟨_,rfl⟩
    rw [← hop] at d0
    have HSU2:=Lib.hid (show ownN code ends (q + 1) = if op = 21 then (ownN code ends q).set e (q : Int) else ownN code ends q by
     rw [HSU.out,Int.toNat_natCast,hgd,← hop]
     by_cases hp : op = 21
     ·rw [if_pos ⟨hv0,hp⟩,if_pos hp]
     ·rw [if_neg (fun h => hp h.2),if_neg hp])
    have HH0:=Lib.hid h0
    clear hcc hgd hop HSU HEIN HELT d1 h0 e2'
    by_cases hp : op = 21
    ·have t5 : ((op.toNat : Int) == 21) = true:=by rw [hp]; rfl
     have HS2:=Lib.hid (show ownN code ends (q + 1) = (ownN code ends q).set e (q : Int) by rw [HSU2.out,if_pos hp])
     clear HSU2 hp
     go_wp2_with fail
     go_quiet (fail)
     obtain ⟨U,hU⟩ : ∃ U,U = wr.drewN nq:=⟨_,rfl⟩
     have hbd : Below wr.heap.size wr U:=by rw [hU]; exact Below.drewN' _ _
     rw [← hU]
     replace x1:=Below.keeps hbd x1
     replace c6:=Below.keeps hbd c6
     replace g1:=Below.keeps hbd g1
     replace d0:=Below.keeps hbd d0
     have hOU:=HOU.out.below hbd
     have hGU:=HGU.out.below hbd
     have hBU:=HBU.out.trans (hbd.mono (by have:=HBU.out.size; have:=HO.out; omega))
     have g4:=hGU.cell (k:=4) (v:=.slice (some ⟨O,0,none⟩) code.length code.length) (by rw [HCM.out]; rfl)
     obtain ⟨⟨v0,z0⟩,zf⟩:=hOU.freeR (k:=e) (by show e < (ownN code ends q).length * 1; rw [ownN_len]; omega)
     have HOW:=Lib.hid hOU
     have HGW:=Lib.hid hGU
     have HBX:=Lib.hid hBU
     have hgO : ¬ O + 1 = O:=by omega
     clear hU hbd hOU hGU hBU HOU HGU HBU
     go_upto_region 7 with fail
     go_region
     have hc4 : Chg (fun k => k = O) U (U.setCell ⟨O,e,none⟩ (.int .i64 (q : Int))):=Chg.setCell _ _ _ rfl
     have ho4 : recJ.Own (U.setCell ⟨O,e,none⟩ (.int .i64 (q : Int))) O (.slice (some ⟨O,0,none⟩) code.length code.length) (ownN code ends (q + 1)):=by
      have h4:=HOW.out.setCell (k:=e) (by rw [ownN_len]; exact hel) (y:=(q : Int)) (j:=0) (by decide) (u:=.int .i64 (q : Int)) rfl
      rw [show e * recJ.n + 0 = e from by show e * 1 + 0 = e; omega] at h4
      rw [HS2.out]; exact h4
     have hg4:=HGW.out.chg hc4 (by omega)
     have hsz : O ≤ U.heap.size:=by have:=HBX.out.size; have:=HO.out; omega
     have hb4:=HBX.out.trans (hc4.below (fun k hk => by rw [show k = O from hk]; exact Nat.le_refl _) hsz)
     have HSZ4:=Lib.hid (Nat.le_trans hsz hc4.size)
     obtain ⟨W4,hW4⟩ : ∃ W4,W4 = U.setCell ⟨O,e,none⟩ (.int .i64 (q : Int)):=⟨_,rfl⟩
     rw [← hW4] at hc4 ho4 hg4 hb4 HSZ4 ⊢
     have HO4:=Lib.hid (ho4.below (b_drew W4))
     have HG4:=Lib.hid (hg4.below (b_drew W4))
     have HB4:=Lib.hid (hb4.trans ((b_drew W4).mono HSZ4.out))
     clear hc4 ho4 hg4 hb4 hsz hW4 z0 zf g4 c6 g1 d0 x0 x1
     go_wp2_with fail
     go_roundw
     case rel => exact ⟨q + 1,by omega,by go_num,HO4.out,HB4.out,HG4.out⟩
     case measure => simp [intOf]; omega
    ·have t5 : ((op.toNat : Int) == 21) = false:=by
      rw [beq_eq_false_iff_ne]
      intro h
      exact hp (UInt8.toNat_inj.1 (by show op.toNat = 21; omega))
     have HS2:=Lib.hid (show ownN code ends (q + 1) = ownN code ends q by rw [HSU2.out,if_neg hp])
     clear HSU2 hp
     go_wp2_with fail
     go_quiet (fail)
     go_wp2_with fail
     have hbd : Below wr.heap.size wr (wr.drewN nq):=Below.drewN' _ _
     have HBD:=Lib.hid hbd
     clear hbd
     go_roundw
     case rel => exact ⟨q + 1,by omega,by go_num,by rw [HS2.out]; exact HOU.out.below HBD.out,HBU.out.trans (HBD.out.mono (by have:=HBU.out.size; have:=HO.out; omega)),HGU.out.below HBD.out⟩
     case measure => simp [intOf]; omega
  ·obtain ⟨V,hV⟩ : ∃ V,V = wr:=⟨_,rfl⟩
   subst hV
   obtain rfl : q = code.length:=by omega
   have i1 : ¬ (code.length : Int) < (code.length : Int):=by omega
   have HG0:=Lib.hid (HCM.out ▸ HGU.out)
   go_wp2_with fail
   go_loopw [12] (fun t wr => ∃ k : Nat,4 ≤ k ∧ k ≤ 8 ∧ t = .int .i64 k ∧ Hid (Blk wr (O + 1) 238 (rCells ⟨.slice at_ texts.length ct,.slice ac code.length cc,.slice ai ins.length ci,.slice ae code.length ce,.slice (some ⟨O,0,none⟩) code.length code.length⟩ 0 (.slice none 0 0) (rgN k) (.slice none 0 0) (.slice none 0 0))) ∧ Hid (Below (O + 1) V wr)) (fun t _ => 8 - (intOf t).toNat)
   case atStart => exact ⟨4,by omega,by omega,rfl,HG0.out,Below.refl _ _⟩
   case round =>
    obtain ⟨k,hk4,hk8,rfl,HGR,HBR⟩:=hrel
    rcases (by omega : k = 4 ∨ k = 5 ∨ k = 6 ∨ k = 7 ∨ k = 8) with rfl | rfl | rfl | rfl | rfl
    ·have HF:=Lib.hid (fun j (hj : j < 33) => HGR.out.free (k:=j) (by rw [rCells_len _ _ _ _ _ (rgN_len _)]; exact hj))
     have g0:=HGR.out.cell (k:=19) (v:=.bool false) rfl
     have f0:=HF.out 19 (by decide)
     have g1:=HGR.out.cell (k:=20) (v:=.int .i64 0) rfl
     have f1:=HF.out 20 (by decide)
     have g2:=HGR.out.cell (k:=21) (v:=.string ⟨#[]⟩) rfl
     have f2:=HF.out 21 (by decide)
     clear x0 x1 c6
     go_wp2_with fail
     go_roundw
     case rel => exact ⟨5,by omega,by omega,rfl,(reg_store HGR.out 19 (.bool true) (.int .i64 0) (.string ⟨#[]⟩)).1,HBR.out.trans ((reg_store HGR.out 19 (.bool true) (.int .i64 0) (.string ⟨#[]⟩)).2.below (fun k hk => by rw [show k = O + 1 from hk]; exact Nat.le_refl _) (Nat.le_of_lt HGR.out.lt))⟩
     case measure => decide
    ·have HF:=Lib.hid (fun j (hj : j < 33) => HGR.out.free (k:=j) (by rw [rCells_len _ _ _ _ _ (rgN_len _)]; exact hj))
     have g0:=HGR.out.cell (k:=22) (v:=.bool false) rfl
     have f0:=HF.out 22 (by decide)
     have g1:=HGR.out.cell (k:=23) (v:=.int .i64 0) rfl
     have f1:=HF.out 23 (by decide)
     have g2:=HGR.out.cell (k:=24) (v:=.string ⟨#[]⟩) rfl
     have f2:=HF.out 24 (by decide)
     clear x0 x1 c6
     go_wp2_with fail
     go_roundw
     case rel => exact ⟨6,by omega,by omega,rfl,(reg_store HGR.out 22 (.bool true) (.int .i64 0) (.string ⟨#[]⟩)).1,HBR.out.trans ((reg_store HGR.out 22 (.bool true) (.int .i64 0) (.string ⟨#[]⟩)).2.below (fun k hk => by rw [show k = O + 1 from hk]; exact Nat.le_refl _) (Nat.le_of_lt HGR.out.lt))⟩
     case measure => decide
    ·have HF:=Lib.hid (fun j (hj : j < 33) => HGR.out.free (k:=j) (by rw [rCells_len _ _ _ _ _ (rgN_len _)]; exact hj))
     have g0:=HGR.out.cell (k:=25) (v:=.bool false) rfl
     have f0:=HF.out 25 (by decide)
     have g1:=HGR.out.cell (k:=26) (v:=.int .i64 0) rfl
     have f1:=HF.out 26 (by decide)
     have g2:=HGR.out.cell (k:=27) (v:=.string ⟨#[]⟩) rfl
     have f2:=HF.out 27 (by decide)
     clear x0 x1 c6
     go_wp2_with fail
     go_roundw
     case rel => exact ⟨7,by omega,by omega,rfl,(reg_store HGR.out 25 (.bool true) (.int .i64 0) (.string ⟨#[]⟩)).1,HBR.out.trans ((reg_store HGR.out 25 (.bool true) (.int .i64 0) (.string ⟨#[]⟩)).2.below (fun k hk => by rw [show k = O + 1 from hk]; exact Nat.le_refl _) (Nat.le_of_lt HGR.out.lt))⟩
     case measure => decide
    ·have HF:=Lib.hid (fun j (hj : j < 33) => HGR.out.free (k:=j) (by rw [rCells_len _ _ _ _ _ (rgN_len _)]; exact hj))
     have g0:=HGR.out.cell (k:=28) (v:=.bool false) rfl
     have f0:=HF.out 28 (by decide)
     have g1:=HGR.out.cell (k:=29) (v:=.int .i64 0) rfl
     have f1:=HF.out 29 (by decide)
     have g2:=HGR.out.cell (k:=30) (v:=.string ⟨#[]⟩) rfl
     have f2:=HF.out 30 (by decide)
     clear x0 x1 c6
     go_wp2_with fail
     go_roundw
     case rel => exact ⟨8,by omega,by omega,rfl,(reg_store HGR.out 28 (.bool true) (.int .i64 0) (.string ⟨#[]⟩)).1,HBR.out.trans ((reg_store HGR.out 28 (.bool true) (.int .i64 0) (.string ⟨#[]⟩)).2.below (fun k hk => by rw [show k = O + 1 from hk]; exact Nat.le_refl _) (Nat.le_of_lt HGR.out.lt))⟩
     case measure => decide
    ·obtain ⟨Z,hZ⟩ : ∃ Z,Z = wr:=⟨_,rfl⟩
     subst hZ
     clear x0 x1 c6
     go_wp2_with fail
     go_ret
     have hVs : Below w.heap.size w V:=bt (bt HB1.out HB2.out) HBW.out
     have hws : w.heap.size ≤ O:=by have:=(bt HB1.out HB2.out).size; have:=HO.out; omega
     have hVz : Below w.heap.size w Z:=hVs.trans (HBR.out.mono (by omega))
     rw [← HENDS.out]
     refine ⟨⟨O + 1,_,_,rfl,by omega,⟨0,[],rgN 8,[],[],_,_,_,⟨Nat.le_refl _,rgN_len 8,rsep_start (Nat.le_refl _) HGR.out⟩,rfl,rfl,rgN_vals 8,rfl,rfl⟩,fun w'' hB => ?_⟩,hVz⟩
     have hVw : Below w.heap.size w w'':=hVz.trans (hB.mono (by omega))
     have hVB:=HBR.out.trans hB
     have hw2 : Below w2.heap.size w2 w'':=HBW.out.trans (hVB.mono (by have:=HO.out; omega))
     exact ⟨HT.out.below hVw,HC.out.below hVw,HI.out.below hVw,HOE.out.below hw2,HOU.out.row.lowN hVB (fun b hb => by cases hb; exact Nat.lt_succ_self O),HG.out.below hVw⟩
end Go.Proofs.YtehllcbnheicoaaGreatDoor
