/- Lemmas for FoldTells, part 48: walks of the functions that it reaches, and the plain laws behind them. -/
import Derived.Test.YtehllcbnheicoaaGreatDoorFoldTellsK39
import Derived.Test.YtehllcbnheicoaaGreatDoorFoldTellsK43
import Derived.Test.YtehllcbnheicoaaGreatDoorFoldTellsK44
import Derived.Test.YtehllcbnheicoaaGreatDoorFoldTellsK47
set_option linter.unusedSimpArgs false
set_option linter.unusedVariables false
set_option maxRecDepth 100000
set_option maxHeartbeats 16000000
namespace Go.Proofs.YtehllcbnheicoaaGreatDoor
open Go.RowKit Oct
attribute [local irreducible] wpG
theorem al18_1 : valuesJ (countJ 1) [[49],[50],[51]] = ([54],0):=by decide +kernel
theorem al18_2 : rowsJ (countJ 1) [[([97],[49]),([98],[50])],[([97],[51])]] = ([([97],[52]),([98],[50])],[],0):=by decide +kernel
theorem al18_3 : valuesJ (countJ 1) [] = ([],2):=by decide +kernel
theorem al18_4 : rowsJ jobZ [] = ([],[],2):=by decide +kernel
theorem al18_5 : once [([97],[52]),([98],[50])] = true:=by decide +kernel
theorem al18_6 : once [([],[]),([],[])] = false:=by decide +kernel
theorem RR.two (w : World) (l1 l2 : List PR) (cs1 cs2 : Array Value) (h1 : cs1 = (pcells l1).toArray) (h2 : cs2 = (pcells l2).toArray) (n1 n2 : Nat) (e1 : n1 = l1.length) (e2 : n2 = l2.length) (e e' : TypeId) :
  RR (((w.alloc (.cells cs1 e)).alloc (.cells cs2 e)).alloc (.cells #[.slice (some ⟨w.heap.size,0,none⟩) n1 n1,.slice (some ⟨w.heap.size + 1,0,none⟩) n2 n2] e')) (.slice (some ⟨w.heap.size + 1 + 1,0,none⟩) 2 2) [l1,l2]:=by
 subst h1 h2 e1 e2
 refine ⟨_,_,rfl,Nat.le_refl _,(by simp),?_⟩
 intro k hk
 have s1 : (w.alloc (.cells (pcells l1).toArray e)).heap.size = w.heap.size + 1:=by simp
 have s2 : ((w.alloc (.cells (pcells l1).toArray e)).alloc (.cells (pcells l2).toArray e)).heap.size = w.heap.size + 1 + 1:=by simp
 have r1:=((RP.new w l1 e).below (b_alloc _ (.cells (pcells l2).toArray e))).below (b_alloc _ (.cells #[.slice (some ⟨w.heap.size,0,none⟩) l1.length l1.length,.slice (some ⟨w.heap.size + 1,0,none⟩) l2.length l2.length] e'))
 have r2:=(RP.new (w.alloc (.cells (pcells l1).toArray e)) l2 e).below (b_alloc _ (.cells #[.slice (some ⟨w.heap.size,0,none⟩) l1.length l1.length,.slice (some ⟨w.heap.size + 1,0,none⟩) l2.length l2.length] e'))
 rw [s1] at r2
 have hk2 : k = 0 ∨ k = 1:=by simp at hk; omega
 rcases hk2 with rfl | rfl
 ·exact ⟨_,_,_,rfl,by rw [← s2,World.cell?_alloc_new]; rfl,r1⟩
 ·exact ⟨_,_,_,rfl,by rw [← s2,World.cell?_alloc_new]; rfl,r2⟩
theorem alive18_any (w : World) (hE : EffM w) (hg : 1 < w.heap.size) (hG : GlobV w) (hdo : doesAt w) : Calls Tryz.prog 9 #[] w fun e w' => e = .returned (.bool true) ∧ Below w.heap.size w w':=by
 have HC:=Lib.hid (Count_any 1 w)
 have HJ:=Lib.hid (fun e w' (hB : Below w.heap.size w w') (hc : CountR 1 w.heap.size e w') => hc.job (by decide) (by decide) (hE.below hB hg) (Nat.lt_of_lt_of_le hg hB.size) (hG.below hB))
 have HDO:=Lib.hid (fun w' (hB : Below w.heap.size w w') => hdo.below hB)
 have HRZ:=Lib.hid (fun w' (hB : Below w.heap.size w w') => show Calls Tryz.prog 13 #[.agg #[.slice none 0 0,.slice none 0 0,.slice none 0 0,.slice none 0 0,.slice none 0 0,.slice none 0 0,.int .i64 0,.int .i64 0],.slice none 0 0] w' fun e w'' => (∃ ta tc,e = .returned (.tuple #[.slice ta 0 tc,.string ⟨#[]⟩,.int .i64 2])) ∧ Below w'.heap.size w' w'' by
  have h:=Rows18_any _ _ _ _ _ _ _ jobZ [] w'
   ⟨⟨Rec.Row.nil _,Rec.Row.nil _,Nat.zero_le _,Nat.zero_le _,fun s hs => (by cases hs),hE.below hB hg,Nat.lt_of_lt_of_le hg hB.size⟩,⟨Rec.Row.nil _,Rec.Row.nil _,Nat.zero_le _,Nat.zero_le _,fun s hs => (by cases hs),hE.below hB hg,Nat.lt_of_lt_of_le hg hB.size⟩,
    ⟨Rec.Row.nil _,Rec.Row.nil _,Nat.zero_le _,Nat.zero_le _,fun s hs => (by cases hs),hE.below hB hg,Nat.lt_of_lt_of_le hg hB.size⟩,by decide,by decide,by decide,by decide,hG.below hB⟩ (hdo.below hB) (RR.nil w') (by decide) (by decide) (by simp)
  rw [al18_4] at h
  refine h.mono ?_
  rintro e w'' ⟨⟨tv,rfl,ho⟩,hB2⟩
  obtain ⟨ta,tc,rfl⟩:=owns_slice ho
  exact ⟨⟨ta,tc,rfl⟩,hB2⟩)
 clear hE hg hG hdo
 go_enter Tryz.func9,Tryz.ntmps9
 go_upto_region 2 with (go_at_call 33; refine HC.out.mono ?_; rintro e w1 ⟨hc,hB1⟩; obtain ⟨a1,k1,a2,k2,a3,k3,rfl,hj⟩:=HJ.out e w1 hB1 hc; have HB1:=Lib.hid hB1; have HJ1:=Lib.hid hj; clear hc hB1 hj HC HJ)
 obtain ⟨W2,hW2⟩ : ∃ W2,W2 = w1.alloc (.cells #[.slice none 0 0,.slice a1 4 k1,.slice none 0 0,.slice a2 6 k2,.slice none 0 0,.slice a3 3 k3,.int .i64 1,.int .i64 100] 27):=⟨_,rfl⟩
 obtain ⟨B,hBn⟩ : ∃ B,B = w1.heap.size:=⟨_,rfl⟩
 have hb2 : Below w1.heap.size w1 W2:=by rw [hW2]; exact b_alloc _ _
 have hx : Blk W2 B 27 [.slice none 0 0,.slice a1 4 k1,.slice none 0 0,.slice a2 6 k2,.slice none 0 0,.slice a3 3 k3,.int .i64 1,.int .i64 100]:=by rw [hW2,hBn]; exact Blk.new _ _ _
 have HX:=Lib.hid hx
 have HJ2:=Lib.hid (HJ1.out.below hb2)
 have HB2:=Lib.hid (bt HB1.out hb2)
 rw [← hW2,← hBn]
 clear hW2 hBn hb2 hx
 have HVA:=Lib.hid (fun w' (hB : Below W2.heap.size W2 w') => show Calls Tryz.prog 11 #[.agg #[.slice none 0 0,.slice a1 4 k1,.slice none 0 0,.slice a2 6 k2,.slice none 0 0,.slice a3 3 k3,.int .i64 1,.int .i64 100],.slice (some ⟨w'.heap.size,0,none⟩) 3 3]
   (w'.alloc (.cells #[.string ⟨#[49]⟩,.string ⟨#[50]⟩,.string ⟨#[51]⟩] 9)) fun e w'' => e = .returned (.tuple #[.string ⟨#[54]⟩,.int .i64 0]) ∧ Below w'.heap.size w' w'' by
  have hbb:=b_alloc w' (.cells #[.string ⟨#[49]⟩,.string ⟨#[50]⟩,.string ⟨#[51]⟩] 9)
  have h:=Values18_any _ _ _ _ _ _ _ (countJ 1) [[49],[50],[51]] _ (HJ2.out.below (bt hB hbb)) (HDO.out _ (bt HB2.out (bt hB hbb))) (Rec.Row.new (R:=recS) w' [[49],[50],[51]] 9) (by decide) (by decide)
  rw [al18_1] at h
  exact h.mono fun e w'' h => ⟨h.1,bt hbb h.2⟩)
 have HRO:=Lib.hid (fun w' (hB : Below W2.heap.size W2 w') => show Calls Tryz.prog 13 #[.agg #[.slice none 0 0,.slice a1 4 k1,.slice none 0 0,.slice a2 6 k2,.slice none 0 0,.slice a3 3 k3,.int .i64 1,.int .i64 100],.slice (some ⟨w'.heap.size + 1 + 1,0,none⟩) 2 2]
   (((w'.alloc (.cells #[.string ⟨#[97]⟩,.string ⟨#[49]⟩,.string ⟨#[98]⟩,.string ⟨#[50]⟩] 62)).alloc (.cells #[.string ⟨#[97]⟩,.string ⟨#[51]⟩] 62)).alloc (.cells #[.slice (some ⟨w'.heap.size,0,none⟩) 2 2,.slice (some ⟨w'.heap.size + 1,0,none⟩) 1 1] 37)) fun e w'' => (∃ ta tc,e = .returned (.tuple #[.slice ta 2 tc,.string ⟨#[]⟩,.int .i64 0]) ∧ RP w'' (.slice ta 2 tc) [([97],[52]),([98],[50])]) ∧ Below w'.heap.size w' w'' by
  have hbb:=bt (bt (b_alloc w' (.cells #[.string ⟨#[97]⟩,.string ⟨#[49]⟩,.string ⟨#[98]⟩,.string ⟨#[50]⟩] 62)) (b_alloc _ (.cells #[.string ⟨#[97]⟩,.string ⟨#[51]⟩] 62))) (b_alloc _ (.cells #[.slice (some ⟨w'.heap.size,0,none⟩) 2 2,.slice (some ⟨w'.heap.size + 1,0,none⟩) 1 1] 37))
  have h:=Rows18_any _ _ _ _ _ _ _ (countJ 1) [[([97],[49]),([98],[50])],[([97],[51])]] _ (HJ2.out.below (bt hB hbb)) (HDO.out _ (bt HB2.out (bt hB hbb)))
   (RR.two w' [([97],[49]),([98],[50])] [([97],[51])] #[.string ⟨#[97]⟩,.string ⟨#[49]⟩,.string ⟨#[98]⟩,.string ⟨#[50]⟩] #[.string ⟨#[97]⟩,.string ⟨#[51]⟩] rfl rfl 2 1 rfl rfl 62 37) (by decide) (by decide) (by decide)
  rw [al18_2] at h
  refine h.mono ?_
  rintro e w'' ⟨⟨tv,rfl,ho⟩,hB2⟩
  obtain ⟨ta,tc,rfl⟩:=owns_slice ho
  exact ⟨⟨ta,tc,rfl,recKv_rp ho.row⟩,bt hbb hB2⟩)
 have HV0:=Lib.hid (fun w' (hB : Below W2.heap.size W2 w') => show Calls Tryz.prog 11 #[.agg #[.slice none 0 0,.slice a1 4 k1,.slice none 0 0,.slice a2 6 k2,.slice none 0 0,.slice a3 3 k3,.int .i64 1,.int .i64 100],.slice none 0 0] w' fun e w'' => e = .returned (.tuple #[.string ⟨#[]⟩,.int .i64 2]) ∧ Below w'.heap.size w' w'' by
  have h:=Values18_any _ _ _ _ _ _ _ (countJ 1) [] _ (HJ2.out.below hB) (HDO.out _ (bt HB2.out hB)) (Rec.Row.nil _) (by decide) (by decide)
  rw [al18_3] at h
  exact h)
 have HSP:=Lib.hid (fun w' (va : Value) (hv : RP w' va [([97],[52]),([98],[50])]) => show Calls Tryz.prog 15 #[va,.slice (some ⟨w'.heap.size,0,none⟩) 2 2] (w'.alloc (.cells #[.string ⟨#[97]⟩,.string ⟨#[52]⟩,.string ⟨#[98]⟩,.string ⟨#[50]⟩] 62)) fun e w'' => e = .returned (.bool true) ∧ Below w'.heap.size w' w'' by
  have hbb:=b_alloc w' (.cells #[.string ⟨#[97]⟩,.string ⟨#[52]⟩,.string ⟨#[98]⟩,.string ⟨#[50]⟩] 62)
  have h:=same14_any va _ [([97],[52]),([98],[50])] [([97],[52]),([98],[50])] _ (hv.below hbb) (RP.new w' [([97],[52]),([98],[50])] 62) (by decide) (by decide)
  rw [decide_eq_true rfl] at h
  exact h.mono fun e w'' h => ⟨h.1,bt hbb h.2⟩)
 have HON:=Lib.hid (fun w' (va : Value) (hv : RP w' va [([97],[52]),([98],[50])]) => show Calls Tryz.prog 16 #[va] w' fun e w'' => e = .returned (.bool true) ∧ Below w'.heap.size w' w'' by
  have h:=once_any va [([97],[52]),([98],[50])] w' hv (by decide)
  rw [al18_5] at h
  exact h)
 have HOF:=Lib.hid (fun w' => show Calls Tryz.prog 16 #[.slice (some ⟨w'.heap.size,0,none⟩) 2 2] (w'.alloc (.cells #[.string ⟨#[]⟩,.string ⟨#[]⟩,.string ⟨#[]⟩,.string ⟨#[]⟩] 62)) fun e w'' => e = .returned (.bool false) ∧ Below w'.heap.size w' w'' by
  have hbb:=b_alloc w' (.cells #[.string ⟨#[]⟩,.string ⟨#[]⟩,.string ⟨#[]⟩,.string ⟨#[]⟩] 62)
  have h:=once_any _ [([],[]),([],[])] _ (RP.new w' [([],[]),([],[])] 62) (by decide)
  rw [al18_6] at h
  exact h.mono fun e w'' h => ⟨h.1,bt hbb h.2⟩)
 have hx0:=HX.out
 have x0:=hx0.cell (k:=0) rfl
 have x1:=hx0.cell (k:=1) rfl
 have x2:=hx0.cell (k:=2) rfl
 have x3:=hx0.cell (k:=3) rfl
 have x4:=hx0.cell (k:=4) rfl
 have x5:=hx0.cell (k:=5) rfl
 have x6:=hx0.cell (k:=6) rfl
 have x7:=hx0.cell (k:=7) rfl
 have hBl:=hx0.lt
 clear hx0
 go_wp2_with fail
 refine (HVA.out W2 (b_refl _)).mono ?_
 rintro e w3 ⟨rfl,hB⟩
 have HB3:=Lib.hid hB
 have hx3:=HX.out.below hB
 clear hB x0 x1 x2 x3 x4 x5 x6 x7 hBl HVA
 have x0:=hx3.cell (k:=0) rfl
 have x1:=hx3.cell (k:=1) rfl
 have x2:=hx3.cell (k:=2) rfl
 have x3:=hx3.cell (k:=3) rfl
 have x4:=hx3.cell (k:=4) rfl
 have x5:=hx3.cell (k:=5) rfl
 have x6:=hx3.cell (k:=6) rfl
 have x7:=hx3.cell (k:=7) rfl
 clear hx3
 go_wp2_with fail
 refine (HRO.out w3 HB3.out).mono ?_
 rintro e w4 ⟨⟨ta,tc,rfl,hr⟩,hB⟩
 have HR4:=Lib.hid hr
 have HB4:=Lib.hid (bt HB3.out hB)
 have hx4:=HX.out.below HB4.out
 clear hB hr x0 x1 x2 x3 x4 x5 x6 x7 HRO
 have x0:=hx4.cell (k:=0) rfl
 have x1:=hx4.cell (k:=1) rfl
 have x2:=hx4.cell (k:=2) rfl
 have x3:=hx4.cell (k:=3) rfl
 have x4:=hx4.cell (k:=4) rfl
 have x5:=hx4.cell (k:=5) rfl
 have x6:=hx4.cell (k:=6) rfl
 have x7:=hx4.cell (k:=7) rfl
 clear hx4
 go_wp2_with fail
 refine (HV0.out w4 HB4.out).mono ?_
 rintro e w5 ⟨rfl,hB⟩
 have HR5:=Lib.hid (HR4.out.below hB)
 have HB5:=Lib.hid (bt HB4.out hB)
 clear hB x0 x1 x2 x3 x4 x5 x6 x7 HV0
 go_wp2_with fail
 refine (HRZ.out w5 (bt HB2.out HB5.out)).mono ?_
 rintro e w6 ⟨⟨ta6,tc6,rfl⟩,hB⟩
 have HR6:=Lib.hid (HR5.out.below hB)
 have HB6:=Lib.hid (bt HB5.out hB)
 clear hB HRZ
 go_wp2_with (first
  | (go_at_call 15; refine (HSP.out w6 _ HR6.out).mono ?_; rintro e w7 ⟨rfl,hB7⟩; have HR7:=Lib.hid (HR6.out.below hB7); have HB7:=Lib.hid (bt HB6.out hB7); clear hB7 HSP)
  | (go_at_call 16; refine (HON.out w7 _ HR7.out).mono ?_; rintro e w8 ⟨rfl,hB8⟩; have HB8:=Lib.hid (bt HB7.out hB8); clear hB8 HON)
  | (go_at_call 16; refine (HOF.out w8).mono ?_; rintro e w9 ⟨rfl,hB9⟩; have HB9:=Lib.hid (bt HB8.out hB9); clear hB9 HOF))
 go_ret
 exact ⟨rfl,bt HB2.out HB9.out⟩
theorem flat_sumF (rows : List (List PR)) (b : Nat) (h : ∀ r ∈ rows,r.length ≤ b) : rows.flatten.length ≤ rows.length * b:=by
 induction rows with
 | nil => simp
 | cons r rs ih =>
  rw [List.flatten_cons,List.length_append,List.length_cons,Nat.succ_mul]
  have h1:=ih (fun x hx => h x (List.mem_cons_of_mem _ hx))
  have h2:=h r (List.mem_cons_self ..)
  omega
theorem rowsV_len (j : Jb) : ∀ (gs : List (List PR)) (out : List PR),(rowsV j out gs).1.length ≤ out.length + gs.length
 | [],out => by simp [rowsV]
 | g :: gs,out => by
  rw [rowsV]
  split
  ·simp
  ·have h:=rowsV_len j gs (out ++ [(hk1 g,(valuesJ j (g.map (·.2))).1)])
   rw [List.length_append] at h
   simp only [List.length_cons,List.length_nil] at h ⊢
   omega
theorem rowsJ_len (j : Jb) (rows : List (List PR)) (hf : rows.flatten.length ≤ 1000000) : (rowsJ j rows).1.length ≤ 1000000:=by
 unfold rowsJ
 split
 ·have h:=rowsV_len j (grp (srt rows.flatten)) []
  have h2:=grp_count hf
  simp only [List.length_nil,Nat.zero_add] at h
  omega
 ·simp
theorem FoldTells_any (t1 c1 t2 c2 t3 c3 : Value) (j : Jb) (v1 : Value) (l : List (List UInt8)) (v2 : Value) (rows : List (List PR)) (w : World) (hj : JobQ w t1 c1 t2 c2 t3 c3 j)
  (hr1 : recS.Row w v1 l) (hl1 : l.length ≤ 140737488355328) (hm1 : ∀ s ∈ l,s.length ≤ 140737488355328)
  (hr2 : RR w v2 rows) (hl2 : rows.length ≤ 5864062014634) (hm2 : ∀ r ∈ rows,r.length ≤ 4398046511104 ∧ ∀ p ∈ r,p.1.length ≤ 140737488355328 ∧ p.2.length ≤ 140737488355328)
  (hE : EffM w) (hg : 1 < w.heap.size) (hG : GlobV w) (hdo : doesAt w) :
  Calls Tryz.prog 3 #[jobV t1 c1 t2 c2 t3 c3 j,v1,v2] w fun e w' => e = .returned (.bool true) ∧ Below w.heap.size w w':=by
 have HLA:=Lib.hid (fun w' (hB : Below w.heap.size w w') => Large15_any t1 c1 t2 c2 t3 c3 j w' (hj.below hB))
 have HSL:=Lib.hid (fun w' (hB : Below w.heap.size w w') => Slow_any t1 c1 t2 c2 t3 c3 j w' (hj.below hB))
 have HAV:=Lib.hid (fun w' (hB : Below w.heap.size w w') => alive18_any w' (hE.below hB hg) (Nat.lt_of_lt_of_le hg hB.size) (hG.below hB) (hdo.below hB))
 have HLO:=Lib.hid (fun w' (hB : Below w.heap.size w w') => Long18_any v2 rows w' (hr2.below hB) (Nat.le_trans hl2 (by decide)) (fun r h => ⟨Nat.le_trans (hm2 r h).1 (by decide),(hm2 r h).2⟩))
 have HJR:=Lib.hid (fun (hl : largeJ j = false) => hj.job hl hE hg hG)
 have HVA:=Lib.hid (fun (hl : largeJ j = false) (v : Value) w' (hB : Below w.heap.size w w') (hr : recS.Row w' v l) => Values18_any t1 c1 t2 c2 t3 c3 v j l w' ((HJR.out hl).below hB) (hdo.below hB) hr hl1 hm1)
 have HRV:=Lib.hid (fun (hl : largeJ j = false) w' (hB : Below w.heap.size w w') => rValues18_any t1 c1 t2 c2 t3 c3 v1 j l w' ((HJR.out hl).below hB) (hr1.below hB) hl1 hm1)
 have HFP:=Lib.hid (show ∀ p ∈ rows.flatten,p.2.length ≤ 140737488355328 from fun p hp => by obtain ⟨r,hr,hpr⟩:=List.mem_flatten.1 hp; exact ((hm2 r hr).2 p hpr).2)
 have HRO:=Lib.hid (fun (hl : largeJ j = false) (h1 : rows.length ≤ 1000000) (h2 : rows.flatten.length ≤ 1000000) (v : Value) w' (hB : Below w.heap.size w w') (hr : RR w' v rows) => Rows18_any t1 c1 t2 c2 t3 c3 v j rows w' ((HJR.out hl).below hB) (hdo.below hB) hr h1 h2 HFP.out)
 have HRR:=Lib.hid (fun (hl : largeJ j = false) (h1 : rows.length ≤ 1000000) (h2 : rows.flatten.length ≤ 1000000) (h3 : ∀ r ∈ rows,r.length ≤ 1000000) w' (hB : Below w.heap.size w w') => rRows18_any t1 c1 t2 c2 t3 c3 v2 j rows w' ((HJR.out hl).below hB) (hr2.below hB) h1 h2 h3 HFP.out)
 have HCO:=Lib.hid (fun (h1 : rows.length ≤ 1000000) (h3 : ∀ r ∈ rows,r.length ≤ 1000000) w' (hB : Below w.heap.size w w') => copied18_any v2 rows w' (hr2.below hB) h1 h3)
 obtain ⟨ta,tc,rfl,-,-⟩:=recS_open hj.a.t
 obtain ⟨ca,cc,rfl,-,-⟩:=recIns_open hj.a.c
 obtain ⟨ta2,tc2,rfl,-,-⟩:=recS_open hj.b.t
 obtain ⟨ca2,cc2,rfl,-,-⟩:=recIns_open hj.b.c
 obtain ⟨ta3,tc3,rfl,-,-⟩:=recS_open hj.c.t
 obtain ⟨ca3,cc3,rfl,-,-⟩:=recIns_open hj.c.c
 unfold jobV at HLA HSL HVA HRV HRO HRR ⊢
 obtain ⟨P,hP⟩ : ∃ P,P = j.parts:=⟨_,rfl⟩
 obtain ⟨F,hF⟩ : ∃ F,F = j.fuel:=⟨_,rfl⟩
 rw [← hP,← hF] at HLA HSL HVA HRV HRO HRR ⊢
 clear hP hF
 obtain ⟨a1,k1,rfl,-,-⟩:=recS_open hr1
 obtain ⟨a2,k2,rfl,-,-,hcR⟩:=id hr2
 have HCR:=Lib.hid hcR
 obtain ⟨W1,hW1⟩ : ∃ W1,W1 = w.alloc (.cells #[.slice ta j.mt.length tc,.slice ca j.mc.length cc,.slice ta2 j.jt.length tc2,.slice ca2 j.jc.length cc2,.slice ta3 j.tt.length tc3,.slice ca3 j.tc.length cc3,.int .i64 P,.int .i64 F] 27):=⟨_,rfl⟩
 have hb1 : Below w.heap.size w W1:=by rw [hW1]; exact b_alloc _ _
 obtain ⟨J,hJ⟩ : ∃ J,J = w.heap.size:=⟨_,rfl⟩
 have hx : Blk W1 J 27 [.slice ta j.mt.length tc,.slice ca j.mc.length cc,.slice ta2 j.jt.length tc2,.slice ca2 j.jc.length cc2,.slice ta3 j.tt.length tc3,.slice ca3 j.tc.length cc3,.int .i64 P,.int .i64 F]:=by rw [hJ,hW1]; exact Blk.new w _ _
 have HB1:=Lib.hid hb1
 have HX1:=Lib.hid hx
 have HR1:=Lib.hid hr1
 have HR2:=Lib.hid hr2
 have x0:=HX1.out.cell (k:=0) rfl
 have x1:=HX1.out.cell (k:=1) rfl
 have x2:=HX1.out.cell (k:=2) rfl
 have x3:=HX1.out.cell (k:=3) rfl
 have x4:=HX1.out.cell (k:=4) rfl
 have x5:=HX1.out.cell (k:=5) rfl
 have x6:=HX1.out.cell (k:=6) rfl
 have x7:=HX1.out.cell (k:=7) rfl
 go_enter Tryz.func3,Tryz.ntmps3
 go_upto_region 1 with fail
 rw [← hW1,← hJ]
 clear hW1 hJ hb1 hx hj hr1 hr2 hm1 hm2 hE hg hG hdo hcR
 by_cases hla : largeJ j = true
 ·rw [hla] at HLA
  clear hla
  go_wp2_with (first | (go_at_call 9; refine (HAV.out _ HB2.out).mono ?_; rintro e w3 ⟨rfl,hB3⟩; have HB3:=Lib.hid (bt HB2.out hB3); clear hB3) | (go_at_call 6; refine (HLA.out _ HB1.out).mono ?_; rintro e w2 ⟨rfl,hB2⟩; have HB2:=Lib.hid (bt HB1.out hB2); clear hB2 x0 x1 x2 x3 x4 x5 x6 x7))
  go_ret
  exact ⟨rfl,HB3.out⟩
 ·have hlf : largeJ j = false:=by cases q : largeJ j with
   | false => rfl
   | true => exact absurd q hla
  rw [hlf] at HLA
  clear hla
  go_wp2_with fail
  refine (HLA.out _ HB1.out).mono ?_
  rintro e w2 ⟨rfl,hB2⟩
  have HX2:=Lib.hid (HX1.out.below hB2)
  have HB2:=Lib.hid (bt HB1.out hB2)
  clear hB2 x0 x1 x2 x3 x4 x5 x6 x7
  have x0:=HX2.out.cell (k:=0) rfl
  have x1:=HX2.out.cell (k:=1) rfl
  have x2:=HX2.out.cell (k:=2) rfl
  have x3:=HX2.out.cell (k:=3) rfl
  have x4:=HX2.out.cell (k:=4) rfl
  have x5:=HX2.out.cell (k:=5) rfl
  have x6:=HX2.out.cell (k:=6) rfl
  have x7:=HX2.out.cell (k:=7) rfl
  by_cases hs : slowJ j = true
  ·rw [hs] at HSL
   clear hs hlf
   go_wp2_with (first | (go_at_call 9; refine (HAV.out _ HB3.out).mono ?_; rintro e w4 ⟨rfl,hB4⟩; have HB4:=Lib.hid (bt HB3.out hB4); clear hB4) | (go_at_call 7; refine (HSL.out _ HB2.out).mono ?_; rintro e w3 ⟨rfl,hB3⟩; have HB3:=Lib.hid (bt HB2.out hB3); clear hB3 x0 x1 x2 x3 x4 x5 x6 x7))
   go_ret
   exact ⟨rfl,HB4.out⟩
  ·have hsf : slowJ j = false:=by cases q : slowJ j with
    | false => rfl
    | true => exact absurd q hs
   rw [hsf] at HSL
   have HLF:=Lib.hid hlf
   clear hs hsf hlf
   go_wp2_with fail
   refine (HSL.out _ HB2.out).mono ?_
   rintro e w3 ⟨rfl,hB3⟩
   have HX3:=Lib.hid (HX2.out.below hB3)
   have HB3:=Lib.hid (bt HB2.out hB3)
   clear hB3 x0 x1 x2 x3 x4 x5 x6 x7
   by_cases h30 : 30 < l.length
   ·have m1 : (30 : Int) < (l.length : Int):=by omega
    clear h30
    go_wp2_with (go_at_call 9; refine (HAV.out _ HB3.out).mono ?_; rintro e w4 ⟨rfl,hB4⟩; have HB4:=Lib.hid (bt HB3.out hB4); clear hB4)
    go_ret
    exact ⟨rfl,HB4.out⟩
   ·have m1 : ¬ (30 : Int) < (l.length : Int):=by omega
    have HL30:=Lib.hid h30
    clear h30
    by_cases hlo : long18 rows = true
    ·rw [hlo] at HLO
     clear hlo
     go_wp2_with (first | (go_at_call 9; refine (HAV.out _ HB4.out).mono ?_; rintro e w5 ⟨rfl,hB5⟩; have HB5:=Lib.hid (bt HB4.out hB5); clear hB5) | (go_at_call 8; refine (HLO.out w3 HB3.out).mono ?_; rintro e w4 ⟨rfl,hB4⟩; have HB4:=Lib.hid (bt HB3.out hB4); clear hB4))
     go_ret
     exact ⟨rfl,HB5.out⟩
    ·have hlof : long18 rows = false:=by cases q : long18 rows with
      | false => rfl
      | true => exact absurd q hlo
     rw [hlof] at HLO
     have hll:=long18_le rows hlof
     have HRL:=Lib.hid (show rows.length ≤ 1000000 by have:=hll.1; omega)
     have HRM:=Lib.hid (show ∀ r ∈ rows,r.length ≤ 1000000 from fun r hr => Nat.le_trans (hll.2 r hr).1 (by decide))
     have HFL:=Lib.hid (show rows.flatten.length ≤ 1000000 by
      have q:=flat_sumF rows 100 (fun r hr => (hll.2 r hr).1)
      have:=hll.1
      omega)
     clear hlo hlof hll
     go_upto_region 4 with (first
      | (go_at_call 8; refine (HLO.out w3 HB3.out).mono ?_; rintro e w4 ⟨rfl,hB4⟩; have HX4:=Lib.hid (HX3.out.below hB4); have HB4:=Lib.hid (bt HB3.out hB4); clear hB4)
      | (go_at_call 10; refine (HCO.out HRL.out HRM.out w4 HB4.out).mono ?_; rintro e w6 ⟨⟨a5,k5,rfl,hcp⟩,hB6⟩; have HCP:=Lib.hid hcp; have HX6:=Lib.hid (HX4.out.below hB6); have HB6:=Lib.hid (bt HB4.out hB6); clear hcp hB6))
     have HGV:=Lib.hid (HVA.out HLF.out)
     have HGR:=Lib.hid (HRV.out HLF.out)
     have HGF:=Lib.hid (HRO.out HLF.out HRL.out HFL.out)
     have HGB:=Lib.hid (HRR.out HLF.out HRL.out HFL.out HRM.out)
     have HRN:=Lib.hid (rowsJ_len j rows HFL.out)
     obtain ⟨V,hV⟩ : ∃ V,V = valuesJ j l:=⟨_,rfl⟩
     obtain ⟨R,hR⟩ : ∃ R,R = rowsJ j rows:=⟨_,rfl⟩
     rw [← hV] at HGV HGR
     rw [← hR] at HGF HGB HRN
     clear hV hR HVA HRV HRO HRR HLO HCO
     refine region_known [(0,.exact _ (.agg #[.slice ta j.mt.length tc,.slice ca j.mc.length cc,.slice ta2 j.jt.length tc2,.slice ca2 j.jc.length cc2,.slice ta3 j.tt.length tc3,.slice ca3 j.tc.length cc3,.int .i64 P,.int .i64 F])),(2,kOwnV recS w6.heap.size l),(3,.exact _ (.tuple #[.string (bs V.1),.int .i64 (V.2 : Int)]))] (by kernel_rfl) (by kernel_rfl) ?_
     (repeat (first | (refine wpG_skip (by kernel_rfl) (fun K hK => ?_); go_big_quiet_skip; refine wpQuiet_nil (hK _ ?_); clear hK K) | (refine wpG_quiet (by rfl) (by rfl) (fun K hK => ?_); go_big_quiet_want; go_big_quiet_op; go_big_quiet_on; refine wpQuiet_nil (hK _ ?_); clear hK K) | (refine wpG_nilOk rfl rfl rfl (by kernel_rfl) (fun K hK => ?_); go_simp; refine hK _ ?_; clear hK K)))
     refine wpG_exact rfl (by kernel_rfl) (fun w' G hB hS hG => ?_) (fun K hK => ?_)
     ·have hx:=HX6.out.below hB
      have y0:=hx.cell (k:=0) rfl
      have y1:=hx.cell (k:=1) rfl
      have y2:=hx.cell (k:=2) rfl
      have y3:=hx.cell (k:=3) rfl
      have y4:=hx.cell (k:=4) rfl
      have y5:=hx.cell (k:=5) rfl
      have y6:=hx.cell (k:=6) rfl
      have y7:=hx.cell (k:=7) rfl
      go_simp; exact hG _ (Bel.refl _)
     go_simp; refine hK _ ?_; clear hK K; (repeat (first | (refine wpG_skip (by kernel_rfl) (fun K hK => ?_); go_big_quiet_skip; refine wpQuiet_nil (hK _ ?_); clear hK K) | (refine wpG_quiet (by rfl) (by rfl) (fun K hK => ?_); go_big_quiet_want; go_big_quiet_op; go_big_quiet_on; refine wpQuiet_nil (hK _ ?_); clear hK K) | (refine wpG_nilOk rfl rfl rfl (by kernel_rfl) (fun K hK => ?_); go_simp; refine hK _ ?_; clear hK K)))
     refine wpG_known (kOwnV recS w6.heap.size l) rfl (by kernel_rfl) (fun w' G hB hS hG => ?_) (fun x K hK => ?_)
     ·exact recS.grow_copy _ _ 22 rfl Tryz.underlying22 w6.heap.size rfl _ l (HR1.out.below (bt HB6.out hB)) rfl (by show l.length * 16 ≤ _; have:=HL30.out; omega) hB.size (fun A C w'' ho hb => hG (A,C) w'' hb (fun φ h => by cases h; exact ho))
     obtain ⟨ad,c⟩:=x; go_simp; refine hK _ ?_; clear hK K; (repeat (first | (refine wpG_skip (by kernel_rfl) (fun K hK => ?_); go_big_quiet_skip; refine wpQuiet_nil (hK _ ?_); clear hK K) | (refine wpG_quiet (by rfl) (by rfl) (fun K hK => ?_); go_big_quiet_want; go_big_quiet_op; go_big_quiet_on; refine wpQuiet_nil (hK _ ?_); clear hK K) | (refine wpG_nilOk rfl rfl rfl (by kernel_rfl) (fun K hK => ?_); go_simp; refine hK _ ?_; clear hK K)))
     refine wpG_exact rfl (by kernel_rfl) (fun w' G hB hS hG => ?_) (fun K hK => ?_)
     ·have hown0 : recS.Own w' w6.heap.size (.slice ad l.length c) l:=at0 hS (by kernel_rfl)
      have hu:=HGV.out _ w' (bt HB6.out hB) hown0.row
      go_simp
      exact calls_told hG hu
     go_simp; refine hK _ ?_; clear hK K; (repeat (first | (refine wpG_skip (by kernel_rfl) (fun K hK => ?_); go_big_quiet_skip; refine wpQuiet_nil (hK _ ?_); clear hK K) | (refine wpG_quiet (by rfl) (by rfl) (fun K hK => ?_); go_big_quiet_want; go_big_quiet_op; go_big_quiet_on; refine wpQuiet_nil (hK _ ?_); clear hK K) | (refine wpG_nilOk rfl rfl rfl (by kernel_rfl) (fun K hK => ?_); go_simp; refine hK _ ?_; clear hK K)))
     refine wpG_nilJP ?_
     intro w7 hB7 hA7
     have HX7:=Lib.hid (HX6.out.below hB7)
     have HB7:=Lib.hid (bt HB6.out hB7)
     have HCP7:=Lib.hid (HCP.out.below hB7)
     clear hA7 hB7
     have x0:=HX7.out.cell (k:=0) rfl
     have x1:=HX7.out.cell (k:=1) rfl
     have x2:=HX7.out.cell (k:=2) rfl
     have x3:=HX7.out.cell (k:=3) rfl
     have x4:=HX7.out.cell (k:=4) rfl
     have x5:=HX7.out.cell (k:=5) rfl
     have x6:=HX7.out.cell (k:=6) rfl
     have x7:=HX7.out.cell (k:=7) rfl
     go_wp2_with fail
     refine (HGR.out w7 HB7.out).mono ?_
     rintro e w8 ⟨rfl,hB8⟩
     have HX8:=Lib.hid (HX7.out.below hB8)
     have HCP8:=Lib.hid (HCP7.out.below hB8)
     have HB8:=Lib.hid (bt HB7.out hB8)
     clear hB8 x0 x1 x2 x3 x4 x5 x6 x7
     have x0:=HX8.out.cell (k:=0) rfl
     have x1:=HX8.out.cell (k:=1) rfl
     have x2:=HX8.out.cell (k:=2) rfl
     have x3:=HX8.out.cell (k:=3) rfl
     have x4:=HX8.out.cell (k:=4) rfl
     have x5:=HX8.out.cell (k:=5) rfl
     have x6:=HX8.out.cell (k:=6) rfl
     have x7:=HX8.out.cell (k:=7) rfl
     go_wp2_with fail
     refine (HGF.out _ w8 HB8.out HCP8.out).mono ?_
     rintro e w9 ⟨⟨pv,rfl,ho⟩,hB9⟩
     have HX9:=Lib.hid (HX8.out.below hB9)
     have HCP9:=Lib.hid (HCP8.out.below hB9)
     obtain ⟨ma,mk,rfl⟩:=owns_slice ho
     have HO9:=Lib.hid (recKv_rp ho.row)
     clear ho
     have HB9:=Lib.hid (bt HB8.out hB9)
     clear hB9 x0 x1 x2 x3 x4 x5 x6 x7
     have x0:=HX9.out.cell (k:=0) rfl
     have x1:=HX9.out.cell (k:=1) rfl
     have x2:=HX9.out.cell (k:=2) rfl
     have x3:=HX9.out.cell (k:=3) rfl
     have x4:=HX9.out.cell (k:=4) rfl
     have x5:=HX9.out.cell (k:=5) rfl
     have x6:=HX9.out.cell (k:=6) rfl
     have x7:=HX9.out.cell (k:=7) rfl
     go_wp2_with fail
     refine (HGB.out w9 HB9.out).mono ?_
     rintro e w10 ⟨⟨qv,rfl,ho⟩,hB10⟩
     have HX10:=Lib.hid (HX9.out.below hB10)
     have HCP10:=Lib.hid (HCP9.out.below hB10)
     obtain ⟨mb,ml,rfl⟩:=owns_slice ho
     have HO10:=Lib.hid (HO9.out.below hB10)
     have HP10:=Lib.hid (recKv_rp ho.row)
     clear ho
     have HB10:=Lib.hid (bt HB9.out hB10)
     clear hB10 x0 x1 x2 x3 x4 x5 x6 x7
     go_upto_region 10 with (go_at_call 15; refine (same14_any _ _ R.1 R.1 w10 HO10.out HP10.out (Nat.le_trans HRN.out (by decide)) (Nat.le_trans HRN.out (by decide))).mono ?_; rw [decide_eq_true rfl]; rintro e w11 ⟨rfl,hB11⟩; have HCP11:=Lib.hid (HCP10.out.below hB11); have HB11:=Lib.hid (bt HB10.out hB11); clear hB11)
     clear m1
     obtain ⟨_,_,hvP,-,-,hcP⟩:=HCP11.out
     injection hvP with q1 _ q3
     subst q1 q3
     have HCPP:=Lib.hid hcP
     have hrl0:=HRL.out
     clear hcP
     go_wp2
     go_loopw [18] (fun t wr => ∃ i : Nat,i ≤ rows.length ∧ t = .int .i64 (i : Int) ∧ Hid (Below w11.heap.size w11 wr)) (fun t _ => rows.length - (intOf t).toNat)
     case atStart => exact ⟨0,by omega,rfl,Below.refl _ _⟩
     case round =>
      obtain ⟨i,hi,rfl,HB⟩:=hrel
      have i0 : (0 : Int) ≤ (i : Int):=by omega
      by_cases h0 : i < rows.length
      ·obtain ⟨b1,o1,u,rfl,d1,hru⟩:=HCR.out i h0
       obtain ⟨b2,o2,u2,rfl,d2,hru2⟩:=HCPP.out i h0
       have hru':=hru.below (bt HB11.out HB.out)
       have hru2':=hru2.below HB.out
       obtain ⟨n1,m1,rfl,-,-⟩:=hru.open
       obtain ⟨n2,m2,rfl,-,-⟩:=hru2.open
       replace d1:=Below.keeps (bt HB11.out HB.out) d1
       replace d2:=Below.keeps HB.out d2
       have i1 : (i : Int) < (rows.length : Int):=by omega
       have hrm:=HRM.out rows[i] (List.getElem_mem h0)
       have HI:=Lib.hid h0
       obtain ⟨r,hr⟩ : ∃ r,r = rows[i]'h0:=⟨_,rfl⟩
       rw [← hr] at d1 d2 hru' hru2' hrm
       have HU1:=Lib.hid hru'
       have HU2:=Lib.hid hru2'
       have HD1:=Lib.hid d1
       have HD2:=Lib.hid d2
       have HRM2:=Lib.hid (show r.length ≤ 140737488355328 from Nat.le_trans hrm (by decide))
       have HON:=Lib.hid (fun w' (hB : Below wr.heap.size wr w') => once_any _ r w' (HU1.out.below hB) HRM2.out)
       have HOR:=Lib.hid (fun w' (hB : Below wr.heap.size wr w') => once18_any _ r w' (HU1.out.below hB) HRM2.out)
       obtain ⟨ob,hob⟩ : ∃ ob,ob = once r:=⟨_,rfl⟩
       rw [← hob] at HON HOR
       have HBW:=Lib.hid (bt HB11.out HB.out)
       clear hob hr hru hru' hru2 hru2' d1 d2 h0
       go_upto_region 13 with fail
       refine region_known [(3,.exact _ (.slice n1 r.length m1)),(4,.exact _ (.bool ob)),(8,.exact _ (.slice n1 r.length m1)),(9,.exact _ (.bool ob)),(15,.exact _ (.slice n1 r.length m1)),(19,.exact _ (.slice n2 r.length m2)),(20,.exact _ (.bool true))] (by kernel_rfl) (by kernel_rfl) ?_
       (repeat (first | (refine wpG_skip (by kernel_rfl) (fun K hK => ?_); go_big_quiet_skip; refine wpQuiet_nil (hK _ ?_); clear hK K) | (refine wpG_quiet (by rfl) (by rfl) (fun K hK => ?_); go_big_quiet_want; go_big_quiet_op; go_big_quiet_on; refine wpQuiet_nil (hK _ ?_); clear hK K) | (refine wpG_nilOk rfl rfl rfl (by kernel_rfl) (fun K hK => ?_); go_simp; refine hK _ ?_; clear hK K)))
       refine wpG_exact rfl (by kernel_rfl) (fun w' G hB hS hG => ?_) (fun K hK => ?_)
       ·have cc:=Below.keeps hB HD1.out
        go_simp; exact hG _ (Bel.refl _)
       go_simp; refine hK _ ?_; clear hK K; (repeat (first | (refine wpG_skip (by kernel_rfl) (fun K hK => ?_); go_big_quiet_skip; refine wpQuiet_nil (hK _ ?_); clear hK K) | (refine wpG_quiet (by rfl) (by rfl) (fun K hK => ?_); go_big_quiet_want; go_big_quiet_op; go_big_quiet_on; refine wpQuiet_nil (hK _ ?_); clear hK K) | (refine wpG_nilOk rfl rfl rfl (by kernel_rfl) (fun K hK => ?_); go_simp; refine hK _ ?_; clear hK K)))
       refine wpG_exact rfl (by kernel_rfl) (fun w' G hB hS hG => ?_) (fun K hK => ?_)
       ·have hu:=HON.out w' hB
        go_simp; exact calls_told hG hu
       go_simp; refine hK _ ?_; clear hK K; (repeat (first | (refine wpG_skip (by kernel_rfl) (fun K hK => ?_); go_big_quiet_skip; refine wpQuiet_nil (hK _ ?_); clear hK K) | (refine wpG_quiet (by rfl) (by rfl) (fun K hK => ?_); go_big_quiet_want; go_big_quiet_op; go_big_quiet_on; refine wpQuiet_nil (hK _ ?_); clear hK K) | (refine wpG_nilOk rfl rfl rfl (by kernel_rfl) (fun K hK => ?_); go_simp; refine hK _ ?_; clear hK K)))
       refine wpG_exact rfl (by kernel_rfl) (fun w' G hB hS hG => ?_) (fun K hK => ?_)
       ·have cc:=Below.keeps hB HD1.out
        go_simp; exact hG _ (Bel.refl _)
       go_simp; refine hK _ ?_; clear hK K; (repeat (first | (refine wpG_skip (by kernel_rfl) (fun K hK => ?_); go_big_quiet_skip; refine wpQuiet_nil (hK _ ?_); clear hK K) | (refine wpG_quiet (by rfl) (by rfl) (fun K hK => ?_); go_big_quiet_want; go_big_quiet_op; go_big_quiet_on; refine wpQuiet_nil (hK _ ?_); clear hK K) | (refine wpG_nilOk rfl rfl rfl (by kernel_rfl) (fun K hK => ?_); go_simp; refine hK _ ?_; clear hK K)))
       refine wpG_exact rfl (by kernel_rfl) (fun w' G hB hS hG => ?_) (fun K hK => ?_)
       ·have hu:=HOR.out w' hB
        go_simp; exact calls_told hG hu
       go_simp; refine hK _ ?_; clear hK K; (repeat (first | (refine wpG_skip (by kernel_rfl) (fun K hK => ?_); go_big_quiet_skip; refine wpQuiet_nil (hK _ ?_); clear hK K) | (refine wpG_quiet (by rfl) (by rfl) (fun K hK => ?_); go_big_quiet_want; go_big_quiet_op; go_big_quiet_on; refine wpQuiet_nil (hK _ ?_); clear hK K) | (refine wpG_nilOk rfl rfl rfl (by kernel_rfl) (fun K hK => ?_); go_simp; refine hK _ ?_; clear hK K)))
       refine wpG_exact rfl (by kernel_rfl) (fun w' G hB hS hG => ?_) (fun K hK => ?_)
       ·have cc:=Below.keeps hB HD1.out
        go_simp; exact hG _ (Bel.refl _)
       go_simp; refine hK _ ?_; clear hK K; (repeat (first | (refine wpG_skip (by kernel_rfl) (fun K hK => ?_); go_big_quiet_skip; refine wpQuiet_nil (hK _ ?_); clear hK K) | (refine wpG_quiet (by rfl) (by rfl) (fun K hK => ?_); go_big_quiet_want; go_big_quiet_op; go_big_quiet_on; refine wpQuiet_nil (hK _ ?_); clear hK K) | (refine wpG_nilOk rfl rfl rfl (by kernel_rfl) (fun K hK => ?_); go_simp; refine hK _ ?_; clear hK K)))
       refine wpG_exact rfl (by kernel_rfl) (fun w' G hB hS hG => ?_) (fun K hK => ?_)
       ·have cc:=Below.keeps hB HD2.out
        go_simp; exact hG _ (Bel.refl _)
       go_simp; refine hK _ ?_; clear hK K; (repeat (first | (refine wpG_skip (by kernel_rfl) (fun K hK => ?_); go_big_quiet_skip; refine wpQuiet_nil (hK _ ?_); clear hK K) | (refine wpG_quiet (by rfl) (by rfl) (fun K hK => ?_); go_big_quiet_want; go_big_quiet_op; go_big_quiet_on; refine wpQuiet_nil (hK _ ?_); clear hK K) | (refine wpG_nilOk rfl rfl rfl (by kernel_rfl) (fun K hK => ?_); go_simp; refine hK _ ?_; clear hK K)))
       refine wpG_exact rfl (by kernel_rfl) (fun w' G hB hS hG => ?_) (fun K hK => ?_)
       ·have hu:=same14_any _ _ r r w' (HU1.out.below hB) (HU2.out.below hB) HRM2.out HRM2.out
        rw [decide_eq_true rfl] at hu
        go_simp; exact calls_told hG hu
       go_simp; refine hK _ ?_; clear hK K; (repeat (first | (refine wpG_skip (by kernel_rfl) (fun K hK => ?_); go_big_quiet_skip; refine wpQuiet_nil (hK _ ?_); clear hK K) | (refine wpG_quiet (by rfl) (by rfl) (fun K hK => ?_); go_big_quiet_want; go_big_quiet_op; go_big_quiet_on; refine wpQuiet_nil (hK _ ?_); clear hK K) | (refine wpG_nilOk rfl rfl rfl (by kernel_rfl) (fun K hK => ?_); go_simp; refine hK _ ?_; clear hK K)))
       refine wpG_nilJP ?_
       intro w12 hB12 hA12
       have HB12:=Lib.hid (bt HB.out hB12)
       clear hA12 hB12
       go_wp2_with fail
       go_roundw
       case rel => exact ⟨i + 1,HI.out,by go_num,HB12.out⟩
       case measure => have:=HI.out; simp [intOf]; omega
      ·have i1 : ¬ (i : Int) < (rows.length : Int):=by omega
       have HBW:=Lib.hid (bt HB11.out HB.out)
       clear h0
       go_wp2_with (go_at_call 9; refine (HAV.out _ HBW.out).mono ?_; rintro e w13 ⟨rfl,hB13⟩; have HB13:=Lib.hid (bt HBW.out hB13); clear hB13)
       go_ret
       exact ⟨rfl,HB13.out⟩
end Go.Proofs.YtehllcbnheicoaaGreatDoor
