/- Lemmas for FoldTells, part 39: walks of the functions that it reaches, and the plain laws behind them. -/
import Derived.Lib.MinMaxS
import Derived.Test.YtehllcbnheicoaaGreatDoorFoldTellsK3
import Derived.Test.YtehllcbnheicoaaGreatDoorFoldTellsK4
import Derived.Test.YtehllcbnheicoaaGreatDoorFoldTellsK5
import Derived.Test.YtehllcbnheicoaaGreatDoorFoldTellsK38
set_option linter.unusedSimpArgs false
set_option linter.unusedVariables false
set_option maxRecDepth 100000
set_option maxHeartbeats 16000000
namespace Go.Proofs.YtehllcbnheicoaaGreatDoor
open Go.RowKit Oct
attribute [local irreducible] wpG
def jobRun (j : Jb) (texts : List (List UInt8)) (code : List VI) (role : UInt8) (ins : List (List UInt8)) : Nat × List (List UInt8 × List UInt8) × List UInt8:=if mayJ j = true then vmV texts code role ins j.fuel else (2,[],[])
def JRes (B : Nat) (r : Nat × List (List UInt8 × List UInt8) × List UInt8) (e : Ending) (w : World) : Prop :=
 ∃ a c n,e = .returned (.tuple #[.agg #[.slice a r.2.1.length c,.string (bs r.2.2),.int .i64 n],.int .i64 (r.1 : Int)]) ∧ recKv.Row w (.slice a r.2.1.length c) r.2.1 ∧ ∀ k,(Value.slice a r.2.1.length c).ownBlock = some k → B ≤ k
theorem jrun_any (J : Nat) (tt : TypeId) (t1 c1 t2 c2 t3 c3 tv cv iv : Value) (j : Jb) (texts : List (List UInt8)) (code : List VI) (role : UInt8) (ins : List (List UInt8)) (w : World) (h : JobR w t1 c1 t2 c2 t3 c3 j) (hJ : Blk w J tt [t1,c1,t2,c2,t3,c3,.int .i64 j.parts,.int .i64 j.fuel])
  (hA : AskV w tv cv texts code) (hi : recS.Row w iv ins) (hil : ins.length ≤ 10) (his : ∀ s ∈ ins,s.length ≤ 140737488355328) (hdo : doesAt w) :
  Calls Tryz.prog 66 #[.pointer (some ⟨J,0,none⟩),.agg #[tv,cv],.int .u8 (role.toNat : Int),iv] w fun e w' => JRes w.heap.size (jobRun j texts code role ins) e w' ∧ Below w.heap.size w w':=by
 have HMAY:=Lib.hid (fun w' (hB : Below w.heap.size w w') => jmay_any t1 c1 t2 c2 t3 c3 j w' (h.below hB))
 have HRUN:=Lib.hid (fun w' (hB : Below w.heap.size w w') => Run_any tv cv iv texts code role ins j.fuel w' (hA.below hB) (hi.below hB) hil hA.lc his h.f0 h.f1 (h.g.below hB) (hdo.below hB))
 obtain ⟨ta,tc,rfl,-,-⟩:=recS_open h.a.t
 obtain ⟨ca,cc,rfl,-,-⟩:=recIns_open h.a.c
 obtain ⟨ta2,tc2,rfl,-,-⟩:=recS_open h.b.t
 obtain ⟨ca2,cc2,rfl,-,-⟩:=recIns_open h.b.c
 obtain ⟨ta3,tc3,rfl,-,-⟩:=recS_open h.c.t
 obtain ⟨ca3,cc3,rfl,-,-⟩:=recIns_open h.c.c
 obtain ⟨at_,ct,rfl,-,-⟩:=recS_open hA.t
 obtain ⟨ac,cc',rfl,-,-⟩:=recIns_open hA.c
 obtain ⟨ai,ci,rfl,-,-⟩:=recS_open hi
 unfold jobV at HMAY
 have HJR:=Lib.hid (show mayJ j = true → jobRun j texts code role ins = vmV texts code role ins j.fuel from fun h => if_pos h)
 have HJN:=Lib.hid (show ¬ mayJ j = true → jobRun j texts code role ins = (2,[],[]) from fun h => if_neg h)
 obtain ⟨B4,hB4⟩ : ∃ B4,B4 = w.heap.size:=⟨_,rfl⟩
 obtain ⟨W1,hW1⟩ : ∃ W1,W1 = (w.alloc (.cells #[.slice at_ texts.length ct,.slice ac code.length cc'] 25)).alloc (.cells #[.slice none 0 0,.string ⟨#[]⟩,.int .i64 0] 109):=⟨_,rfl⟩
 have hb1 : Below w.heap.size w W1:=by rw [hW1]; exact bt (b_alloc _ _) (b_alloc _ _)
 have hs1 : (w.alloc (.cells #[.slice at_ texts.length ct,.slice ac code.length cc'] 25)).heap.size = B4 + 1:=by rw [hB4]; exact size_alV _ _
 have hx : Blk W1 B4 25 [.slice at_ texts.length ct,.slice ac code.length cc']:=by rw [hB4,hW1]; exact (Blk.new w _ _).below (b_alloc _ _)
 have hy : Blk W1 (B4 + 1) 109 [.slice none 0 0,.string ⟨#[]⟩,.int .i64 0]:=by rw [hW1,← hs1]; exact Blk.new _ _ _
 have hsz : W1.heap.size = B4 + 2:=by rw [hW1,size_alV,hs1]
 have hj1:=hJ.below hb1
 have j0:=hj1.cell (k:=0) rfl
 have j1:=hj1.cell (k:=1) rfl
 have j2:=hj1.cell (k:=2) rfl
 have j3:=hj1.cell (k:=3) rfl
 have j4:=hj1.cell (k:=4) rfl
 have j5:=hj1.cell (k:=5) rfl
 have j6:=hj1.cell (k:=6) rfl
 have j7:=hj1.cell (k:=7) rfl
 have HB1:=Lib.hid hb1
 have HX:=Lib.hid hx
 have HY:=Lib.hid hy
 have HB4:=Lib.hid hB4
 have HSZ:=Lib.hid hsz
 have HJ1:=Lib.hid hj1
 go_enter Tryz.func66,Tryz.ntmps66
 go_upto_region 1 with fail
 rw [← hW1,← hB4]
 clear hW1 hB4 h hJ hA hi hb1 hx hy hs1 hsz his hdo hj1
 by_cases hyes : mayJ j = true
 ·have HRV:=Lib.hid (HJR.out hyes)
  rw [hyes] at HMAY
  obtain ⟨V,hV⟩ : ∃ V,V = vmV texts code role ins j.fuel:=⟨_,rfl⟩
  rw [← hV] at HRUN HRV
  clear hyes hV HJR HJN
  go_upto_region 3 with (go_at_call 108; refine (HMAY.out _ HB1.out).mono ?_; rintro e w2 ⟨rfl,hB2⟩)
  have HB2:=Lib.hid (bt HB1.out hB2)
  have HY2:=Lib.hid (HY.out.below hB2)
  have HS2:=Lib.hid (show B4 + 2 ≤ w2.heap.size by rw [← HSZ.out]; exact hB2.size)
  have x0:=(HX.out.below hB2).cell (k:=0) rfl
  have x1:=(HX.out.below hB2).cell (k:=1) rfl
  have j7:=(HJ1.out.below hB2).cell (k:=7) rfl
  have hJl : J < w2.heap.size:=(HJ1.out.below hB2).lt
  have hBl : B4 < w2.heap.size:=lt_of_cell x0
  have HG:=Lib.hid (HRUN.out w2.drew (bt HB2.out (b_drew _)))
  clear j0 j1 j2 j3 j4 j5 j6 hB2 HY HX HJ1 HMAY HRUN
  go_region_law (refine step_callM rfl 109 #[.agg #[.slice at_ texts.length ct,.slice ac code.length cc'],.int .u8 (role.toNat : Int),.slice ai ins.length ci,.int .i64 j.fuel] (by go_simp) HG.out ?_; rintro e w7 ⟨⟨pv,n,rfl,hrow,hown⟩,hB7⟩; obtain ⟨pa,pc,rfl,-,-⟩:=Rec.Row.open hrow; have hyU:=HY2.out.below (bt (b_drew w2) hB7); have y0:=hyU.cell (k:=0) rfl; have y1:=hyU.cell (k:=1) rfl; have y2:=hyU.cell (k:=2) rfl; have k0:=hyU.free (k:=0) (by simp); have k1:=hyU.free (k:=1) (by simp); have k2:=hyU.free (k:=2) (by simp); have HYU:=Lib.hid hyU; have HROW:=Lib.hid hrow; have HOWN:=Lib.hid hown; have HB7:=Lib.hid (bt HB2.out (bt (b_drew w2) hB7)); clear hB7 hyU hrow hown)
  all_goals
   go_wp2_with fail
   obtain ⟨hy3,hc3⟩:=ran_store HYU.out (.slice pa V.2.1.length pc) (.string (bs V.2.2)) (.int .i64 n)
   refine bodyPost_ret (results_cell_tmpM rfl rfl (load_ran (hy3.cell (k:=0) rfl) (hy3.cell (k:=1) rfl) (hy3.cell (k:=2) rfl))) rfl ?_
   rw [HRV.out]
   refine ⟨⟨_,_,_,rfl,HROW.out.chgN hc3 (fun b hb e => ?_),fun k hk => Nat.le_trans HB2.out.size (HOWN.out k hk)⟩,HB7.out.trans (hc3.below (fun k hk => by rw [show k = B4 + 1 from hk,HB4.out]; exact Nat.le_succ _) HB7.out.size)⟩
   have h1 : w2.heap.size ≤ b:=HOWN.out b hb
   rw [show b = B4 + 1 from e] at h1
   have:=HS2.out
   omega
 ·have HN:=Lib.hid (HJN.out hyes)
  have hno : mayJ j = false:=by cases h : mayJ j with
   | false => rfl
   | true => exact absurd h hyes
  rw [hno] at HMAY
  clear hyes hno HRUN HJR HJN
  go_wp2_with (go_at_call 108; refine (HMAY.out _ HB1.out).mono ?_; rintro e w2 ⟨rfl,hB2⟩; have hyU:=HY.out.below hB2; have y0:=hyU.cell (k:=0) rfl; have y1:=hyU.cell (k:=1) rfl; have y2:=hyU.cell (k:=2) rfl; have k0:=hyU.free (k:=0) (by simp); have k1:=hyU.free (k:=1) (by simp); have k2:=hyU.free (k:=2) (by simp); have HYU:=Lib.hid hyU; have HB2:=Lib.hid (bt HB1.out hB2); clear hyU hB2)
  obtain ⟨hy3,hc3⟩:=ran_store HYU.out (.slice none 0 0) (.string ⟨#[]⟩) (.int .i64 0)
  refine bodyPost_ret (results_cell_tmpM rfl rfl (load_ran (hy3.cell (k:=0) rfl) (hy3.cell (k:=1) rfl) (hy3.cell (k:=2) rfl))) rfl ?_
  rw [HN.out]
  exact ⟨⟨_,_,_,rfl,Rec.Row.nil _,fun k hk => by cases hk⟩,HB2.out.trans (hc3.below (fun k hk => by rw [show k = B4 + 1 from hk,HB4.out]; exact Nat.le_succ _) HB2.out.size)⟩
theorem jJoin_any (t1 c1 t2 c2 t3 c3 : Value) (j : Jb) (s s2 : List UInt8) (w : World) (h : JobR w t1 c1 t2 c2 t3 c3 j) (hdo : doesAt w) (hs : s.length ≤ 140737488355328) (hs2 : s2.length ≤ 140737488355328) :
  Calls Tryz.prog 36 #[jobV t1 c1 t2 c2 t3 c3 j,.string (bs s),.string (bs s2)] w fun e w' => e = .returned (.tuple #[.string (bs (jobRun j j.jt j.jc 2 [s,s2]).2.2),.int .i64 ((jobRun j j.jt j.jc 2 [s,s2]).1 : Int)]) ∧ Below w.heap.size w w':=by
 have HR:=Lib.hid (fun w' (H : Nat) (ty : TypeId) iv (hB : Below w.heap.size w w') (hH : Blk w' H ty [t1,c1,t2,c2,t3,c3,.int .i64 j.parts,.int .i64 j.fuel]) (hi : recS.Row w' iv [s,s2]) => jrun_any H ty t1 c1 t2 c2 t3 c3 t2 c2 iv j j.jt j.jc 2 [s,s2] w' (h.below hB) hH (h.below hB).b hi (by simp) (fun x hx => by rcases List.mem_cons.1 hx with rfl | hx; exact hs; rw [List.mem_singleton.1 hx]; exact hs2) (hdo.below hB))
 obtain ⟨ta,tc,rfl,-,-⟩:=recS_open h.a.t
 obtain ⟨ca,cc,rfl,-,-⟩:=recIns_open h.a.c
 obtain ⟨ta2,tc2,rfl,-,-⟩:=recS_open h.b.t
 obtain ⟨ca2,cc2,rfl,-,-⟩:=recIns_open h.b.c
 obtain ⟨ta3,tc3,rfl,-,-⟩:=recS_open h.c.t
 obtain ⟨ca3,cc3,rfl,-,-⟩:=recIns_open h.c.c
 unfold jobV
 obtain ⟨V,hV⟩ : ∃ V,V = jobRun j j.jt j.jc 2 [s,s2]:=⟨_,rfl⟩
 rw [← hV] at HR ⊢
 clear hV h hdo
 go_enter Tryz.func36,Tryz.ntmps36
 go_upto_region 1 with fail
 obtain ⟨W1,hW1⟩ : ∃ W1,W1 = w.alloc (.cells #[.slice ta j.mt.length tc,.slice ca j.mc.length cc,.slice ta2 j.jt.length tc2,.slice ca2 j.jc.length cc2,.slice ta3 j.tt.length tc3,.slice ca3 j.tc.length cc3,.int .i64 j.parts,.int .i64 j.fuel] 27):=⟨_,rfl⟩
 have hb1 : Below w.heap.size w W1:=by rw [hW1]; exact b_alloc _ _
 have hx : Blk W1 w.heap.size 27 [.slice ta j.mt.length tc,.slice ca j.mc.length cc,.slice ta2 j.jt.length tc2,.slice ca2 j.jc.length cc2,.slice ta3 j.tt.length tc3,.slice ca3 j.tc.length cc3,.int .i64 j.parts,.int .i64 j.fuel]:=by rw [hW1]; exact Blk.new w _ _
 have x0:=hx.cell (k:=0) rfl
 have x1:=hx.cell (k:=1) rfl
 have x2:=hx.cell (k:=2) rfl
 have x3:=hx.cell (k:=3) rfl
 have x4:=hx.cell (k:=4) rfl
 have x5:=hx.cell (k:=5) rfl
 have x6:=hx.cell (k:=6) rfl
 have x7:=hx.cell (k:=7) rfl
 have hbl : w.heap.size < W1.heap.size:=hx.lt
 rw [← hW1]
 have HB1:=Lib.hid hb1
 have HX:=Lib.hid hx
 clear hW1 hb1 hx
 go_upto_region 2 with fail
 obtain ⟨H,hH⟩ : ∃ H,H = W1.heap.size:=⟨_,rfl⟩
 obtain ⟨W2,hW2⟩ : ∃ W2,W2 = W1.alloc (.cells #[.slice ta j.mt.length tc,.slice ca j.mc.length cc,.slice ta2 j.jt.length tc2,.slice ca2 j.jc.length cc2,.slice ta3 j.tt.length tc3,.slice ca3 j.tc.length cc3,.int .i64 j.parts,.int .i64 j.fuel] 100):=⟨_,rfl⟩
 have hb2 : Below W1.heap.size W1 W2:=by rw [hW2]; exact b_alloc _ _
 have hh : Blk W2 H 100 [.slice ta j.mt.length tc,.slice ca j.mc.length cc,.slice ta2 j.jt.length tc2,.slice ca2 j.jc.length cc2,.slice ta3 j.tt.length tc3,.slice ca3 j.tc.length cc3,.int .i64 j.parts,.int .i64 j.fuel]:=by rw [hH,hW2]; exact Blk.new W1 _ _
 have hx2:=HX.out.below hb2
 have x0:=hx2.cell (k:=2) rfl
 have x1:=hx2.cell (k:=3) rfl
 have hbl2 : w.heap.size < W2.heap.size:=hx2.lt
 rw [← hW2,← hH]
 have HB2:=Lib.hid (bt HB1.out hb2)
 have HH:=Lib.hid hh
 clear hW2 hH hb2 hh hx2 x2 x3 x4 x5 x6 x7
 go_wp2_with (go_at_call 66; refine (HR.out _ H 100 _ (bt HB2.out (b_alloc _ _)) (HH.out.below (b_alloc _ _)) (Rec.Row.new (R:=recS) W2 [s,s2] 9)).mono ?_; rintro e w3 ⟨⟨pa,pc,n,rfl,hrow,-⟩,hB3⟩; have HROW:=Lib.hid hrow; have HB3:=Lib.hid (bt (bt HB2.out (b_alloc _ _)) hB3); clear hrow hB3)
 go_ret2
 exact ⟨rfl,bt HB3.out (b_alloc _ _)⟩
end Go.Proofs.YtehllcbnheicoaaGreatDoor
namespace Go.Proofs.YtehllcbnheicoaaGreatDoor
open Go.RowKit Oct
def lt (a b : List UInt8) : Bool:=Op.bytesLess a b
def sorted : List PR → Bool
 | [] => true
 | [_] => true
 | p :: q :: l => !lt q.1 p.1 && sorted (q :: l)
theorem sorted_iff (l : List PR) : sorted l = true ↔ ∀ k (h : k + 1 < l.length),lt l[k + 1].1 l[k].1 = false:=by
 match l with
 | [] => simp [sorted]
 | [_] => simp [sorted]
 | p :: q :: l =>
  have ih:=sorted_iff (q :: l)
  simp only [sorted,Bool.and_eq_true,Bool.not_eq_true',ih]
  constructor
  ·rintro ⟨h1,h2⟩ k hk
   cases k with
   | zero => exact h1
   | succ k => exact h2 k (by simpa using hk)
  ·intro h
   exact ⟨h 0 (by simp),fun k hk => h (k + 1) (by simpa using hk)⟩
theorem lt_iff (a b : List UInt8) : lt a b = true ↔ a < b:=by simp [lt,Proofs.bytesLess_eq]
theorem lt_trans' {a b c : List UInt8} (h1 : lt a b = true) (h2 : lt b c = true) : lt a c = true:=by
 rw [lt_iff] at *; exact List.lt_trans h1 h2
theorem lt_irr (a : List UInt8) : lt a a = false:=by
 cases h : lt a a
 ·rfl
 ·rw [lt_iff] at h; exact absurd h (List.lt_irrefl a)
theorem le_trans' {a b c : List UInt8} (h1 : lt b a = false) (h2 : lt c b = false) : lt c a = false:=by
 have h1' : ¬ b < a:=by rw [← lt_iff,h1]; simp
 have h2' : ¬ c < b:=by rw [← lt_iff,h2]; simp
 cases h : lt c a
 ·rfl
 ·rw [lt_iff] at h
  exact absurd (List.lt_of_le_of_lt (List.not_lt.1 h2') h) h1'
theorem lt_asymm' {a b : List UInt8} (h : lt a b = true) : lt b a = false:=by
 cases h2 : lt b a
 ·rfl
 ·rw [← lt_irr a,lt_trans' h h2]
theorem gt_eq (a b : List UInt8) : (!(lt a b || a == b)) = lt b a:=by
 cases h1 : lt a b
 ·cases h2 : a == b
  ·have n1 : ¬ a < b:=by rw [← lt_iff,h1]; simp
   have n2 : a ≠ b:=by intro e; simp [e] at h2
   cases h3 : lt b a
   ·have n3 : ¬ b < a:=by rw [← lt_iff,h3]; simp
    exact absurd (List.le_antisymm (List.not_lt.1 n3) (List.not_lt.1 n1)) n2
   ·rfl
  ·have e : a = b:=by simpa using h2
   rw [e,lt_irr]; rfl
 ·rw [lt_asymm' h1]; rfl
def mrg : List PR → List PR → List PR
 | [],b => b
 | a,[] => a
 | x :: a,y :: b => if lt y.1 x.1 then y :: mrg (x :: a) b else x :: mrg a (y :: b)
termination_by a b => a.length + b.length
theorem mrg_nil_l (b : List PR) : mrg [] b = b:=by rw [mrg]
theorem mrg_nil_r (a : List PR) : mrg a [] = a:=by cases a <;> simp [mrg]
theorem mrg_cons (x y : PR) (a b : List PR) : mrg (x :: a) (y :: b) = if lt y.1 x.1 then y :: mrg (x :: a) b else x :: mrg a (y :: b):=by rw [mrg]
def ins (p : PR) : List PR → List PR
 | [] => [p]
 | x :: l => if lt p.1 x.1 then p :: x :: l else x :: ins p l
def srt (l : List PR) : List PR:=l.foldl (fun o p => ins p o) []
theorem srt_snoc (l : List PR) (p : PR) : srt (l ++ [p]) = ins p (srt l):=by simp [srt]
theorem ins_length (p : PR) : ∀ l : List PR,(ins p l).length = l.length + 1
 | [] => rfl
 | x :: l => by rw [ins]; split <;> simp [ins_length p l]
theorem srt_length (l : List PR) : (srt l).length = l.length:=by
 suffices h : ∀ (l o : List PR),(l.foldl (fun o p => ins p o) o).length = o.length + l.length by simpa [srt] using h l []
 intro l
 induction l with
 | nil => simp
 | cons p l ih => intro o; simp [ih,ins_length]; omega
theorem mrg_ins (p : PR) : ∀ a b : List PR,mrg a (ins p b) = ins p (mrg a b):=by
 intro a b
 induction a,b using mrg.induct with
 | case1 b => simp [mrg_nil_l]
 | case2 a h =>
  rw [mrg_nil_r]
  clear h
  induction a with
  | nil => simp [mrg_nil_l,ins]
  | cons x a ih =>
   rw [ins,ins,mrg_cons]
   split
   ·rw [mrg_nil_r]
   ·have : mrg a [p] = mrg a (ins p []):=rfl
    rw [this,ih]
 | case3 x a y b h ih =>
  cases hp : lt p.1 y.1
  ·rw [ins,if_neg (by rw [hp]; simp),mrg_cons,if_pos h,ih,mrg_cons,if_pos h,ins,if_neg (by rw [hp]; simp)]
  ·rw [ins,if_pos hp,mrg_cons,if_pos (lt_trans' hp h),mrg_cons,if_pos h,ins,if_pos hp]
 | case4 x a y b h ih =>
  have h' : lt y.1 x.1 = false:=by simpa using h
  cases hp : lt p.1 y.1
  ·have hx : lt p.1 x.1 = false:=le_trans' h' hp
   rw [ins,if_neg (by rw [hp]; simp)] at ih ⊢
   rw [mrg_cons,if_neg h,ih,mrg_cons,if_neg h,ins,if_neg (by rw [hx]; simp)]
  ·rw [ins,if_pos hp] at ih ⊢
   rw [mrg_cons x y,if_neg h,ins,mrg_cons]
   split
   ·rw [mrg_cons,if_neg h]
   ·rw [ih]
theorem mrg_srt (a b : List PR) : mrg (srt a) (srt b) = srt (a ++ b):=by
 have : ∀ n (b : List PR),b.length = n → mrg (srt a) (srt b) = srt (a ++ b):=by
  intro n
  induction n with
  | zero => intro b hb; rw [List.eq_nil_of_length_eq_zero hb]; simp [srt,mrg_nil_r]
  | succ n ih =>
   intro b hb
   obtain ⟨b',p,rfl⟩ : ∃ b' p,b = b' ++ [p]:=⟨b.dropLast,b.getLast (by intro e; rw [e] at hb; simp at hb),(List.dropLast_concat_getLast _).symm⟩
   rw [srt_snoc,mrg_ins,ih b' (by simpa using hb),← List.append_assoc,srt_snoc]
 exact this _ b rfl
theorem srt_two (p q : PR) : srt [p,q] = if lt q.1 p.1 then [q,p] else [p,q]:=by simp [srt,ins]
theorem sorted_cons {x : PR} {l : List PR} : sorted (x :: l) = true ↔ (∀ y ∈ l,lt y.1 x.1 = false) ∧ sorted l = true:=by
 induction l generalizing x with
 | nil => simp [sorted]
 | cons y l ih =>
  rw [sorted,Bool.and_eq_true,Bool.not_eq_true']
  constructor
  ·rintro ⟨h1,h2⟩
   refine ⟨?_,h2⟩
   intro z hz
   rcases List.mem_cons.1 hz with rfl | hz
   ·exact h1
   ·exact le_trans' h1 ((ih.1 h2).1 z hz)
  ·rintro ⟨h1,h2⟩
   exact ⟨h1 y (by simp),h2⟩
theorem mem_ins {p z : PR} : ∀ {l : List PR},z ∈ ins p l ↔ z = p ∨ z ∈ l
 | [] => by simp [ins]
 | x :: l => by
  rw [ins]
  split
  ·simp
  ·simp [mem_ins (l:=l)]
   constructor
   ·rintro (h | h | h) <;> simp [h]
   ·rintro (h | h | h) <;> simp [h]
theorem ins_sorted (p : PR) : ∀ l : List PR,sorted l = true → sorted (ins p l) = true
 | [],_ => rfl
 | x :: l,h => by
  rw [ins]
  split
  ·rename_i hp
   rw [sorted,h,lt_asymm' hp]; rfl
  ·rename_i hp
   have hp' : lt p.1 x.1 = false:=by simpa using hp
   obtain ⟨h1,h2⟩:=sorted_cons.1 h
   refine sorted_cons.2 ⟨?_,ins_sorted p l h2⟩
   intro z hz
   rcases mem_ins.1 hz with rfl | hz
   ·exact hp'
   ·exact h1 z hz
theorem srt_sorted (l : List PR) : sorted (srt l) = true:=by
 suffices h : ∀ (l o : List PR),sorted o = true → sorted (l.foldl (fun o p => ins p o) o) = true from h l [] rfl
 intro l
 induction l with
 | nil => intro o h; exact h
 | cons p l ih => intro o h; exact ih _ (ins_sorted p o h)
theorem ins_last (p : PR) : ∀ l : List PR,(∀ x ∈ l,lt p.1 x.1 = false) → ins p l = l ++ [p]
 | [],_ => rfl
 | x :: l,h => by
  rw [ins,if_neg (by rw [h x (by simp)]; simp),ins_last p l (fun y hy => h y (by simp [hy]))]; rfl
theorem sorted_snoc {p : PR} : ∀ {l : List PR},sorted (l ++ [p]) = true → sorted l = true ∧ ∀ x ∈ l,lt p.1 x.1 = false
 | [],_ => by simp [sorted]
 | x :: l,h => by
  rw [List.cons_append,sorted_cons] at h
  obtain ⟨h1,h2⟩:=h
  obtain ⟨h3,h4⟩:=sorted_snoc h2
  refine ⟨sorted_cons.2 ⟨fun y hy => h1 y (by simp [hy]),h3⟩,?_⟩
  intro y hy
  rcases List.mem_cons.1 hy with rfl | hy
  ·exact h1 p (by simp)
  ·exact h4 y hy
theorem srt_of_sorted (l : List PR) (h : sorted l = true) : srt l = l:=by
 have : ∀ n (l : List PR),l.length = n → sorted l = true → srt l = l:=by
  intro n
  induction n with
  | zero => intro l hl _; rw [List.eq_nil_of_length_eq_zero hl]; rfl
  | succ n ih =>
   intro l hl h
   obtain ⟨l',p,rfl⟩ : ∃ b' p,l = b' ++ [p]:=⟨l.dropLast,l.getLast (by intro e; rw [e] at hl; simp at hl),(List.dropLast_concat_getLast _).symm⟩
   obtain ⟨h1,h2⟩:=sorted_snoc h
   rw [srt_snoc,ih l' (by simpa using hl) h1,ins_last p l' h2]
 exact this _ l rfl h
theorem srt_srt (l : List PR) : srt (srt l) = srt l:=srt_of_sorted _ (srt_sorted l)
theorem ins_at (p : PR) : ∀ (l : List PR) (k : Nat),k ≤ l.length → sorted l = true → (∀ j (h : j < l.length),k ≤ j → lt p.1 l[j].1 = true) → (∀ (h : 0 < k) (h' : k - 1 < l.length),lt p.1 l[k - 1].1 = false) → ins p l = l.take k ++ p :: l.drop k
 | [],k,hk,_,_,_ => by simp [ins]
 | x :: l,0,_,_,h,_ => by
  have:=h 0 (by simp) (Nat.le_refl _)
  rw [ins,if_pos (by simpa using this)]; rfl
 | x :: l,k + 1,hk,hs,h,h' => by
  obtain ⟨h1,h2⟩:=sorted_cons.1 hs
  have hpx : lt p.1 x.1 = false:=by
   have hq:=h' (by omega) (by simp at hk ⊢; omega)
   cases k with
   | zero => simpa using hq
   | succ k =>
    have hm : ((x :: l)[k + 1 + 1 - 1]'(by simp at hk ⊢; omega)) ∈ l:=by simp
    exact le_trans' (h1 _ hm) hq
  rw [ins,if_neg (by rw [hpx]; simp),ins_at p l k (by simpa using hk) h2]
  ·rfl
  ·intro j hj hkj
   have:=h (j + 1) (by simpa using hj) (by omega)
   simpa using this
  ·intro hk0 hj
   obtain ⟨m,rfl⟩ : ∃ m,k = m + 1:=⟨k - 1,by omega⟩
   have:=h' (by omega) (by simp at hj ⊢; omega)
   simpa using this
def rise : List (List UInt8) → Bool
 | [] => true
 | [_] => true
 | p :: q :: l => lt p q && rise (q :: l)
theorem rise_iff (l : List (List UInt8)) : rise l = true ↔ ∀ k (h : k + 1 < l.length),lt l[k] l[k + 1] = true:=by
 match l with
 | [] => simp [rise]
 | [_] => simp [rise]
 | p :: q :: l =>
  have ih:=rise_iff (q :: l)
  simp only [rise,Bool.and_eq_true,ih]
  constructor
  ·rintro ⟨h1,h2⟩ k hk
   cases k with
   | zero => exact h1
   | succ k => exact h2 k (by simpa using hk)
  ·intro h
   exact ⟨h 0 (by simp),fun k hk => h (k + 1) (by simpa using hk)⟩
theorem rise_false (l : List (List UInt8)) (k : Nat) (h : k + 1 < l.length) (hlt : lt l[k] l[k + 1] = false) : rise l = false:=by
 cases hs : rise l
 ·rfl
 ·rw [(rise_iff l).1 hs k h] at hlt; simp at hlt
theorem rise_true (l : List (List UInt8)) (k : Nat) (hk : l.length ≤ k + 1) (h : ∀ j (h : j + 1 < l.length),j < k → lt l[j] l[j + 1] = true) : rise l = true :=
 (rise_iff l).2 fun j hj => h j hj (by omega)
theorem lt3 (a b : List UInt8) : (lt a b = true ∧ lt b a = false ∧ (a == b) = false ∧ (b == a) = false) ∨ (lt a b = false ∧ lt b a = true ∧ (a == b) = false ∧ (b == a) = false) ∨ (a = b ∧ lt a b = false ∧ lt b a = false ∧ (a == b) = true ∧ (b == a) = true):=by
 by_cases e : a = b
 ·subst e
  simp [lt_irr]
 ·have h1 : (a == b) = false:=by simpa using e
  have h2 : (b == a) = false:=by simpa using fun h => e h.symm
  have:=gt_eq a b
  rw [h1,Bool.or_false] at this
  cases h : lt a b
  ·rw [h] at this
   exact .inr (.inl ⟨rfl,this.symm,h1,h2⟩)
  ·exact .inl ⟨rfl,lt_asymm' h,h1,h2⟩
def keysP (l : List PR) : List (List UInt8):=l.map (·.1)
def once (l : List PR) : Bool:=rise (keysP l)
theorem once_false (l : List PR) (k : Nat) (h : k + 1 < l.length) (hlt : lt l[k].1 l[k + 1].1 = false) : once l = false:=rise_false _ k (by simpa [keysP] using h) (by simpa [keysP] using hlt)
theorem once_true (l : List PR) (k : Nat) (hk : l.length ≤ k + 1) (h : ∀ j (h : j + 1 < l.length),j < k → lt l[j].1 l[j + 1].1 = true) : once l = true :=
 rise_true _ k (by simpa [keysP] using hk) fun j hj hjk => by simpa [keysP] using h j (by simpa [keysP] using hj) hjk
theorem once_any (v : Value) (l : List PR) (w : World) (hr : RP w v l) (hl : l.length ≤ 140737488355328) :
  Calls Tryz.prog 16 #[v] w fun e w' => e = .returned (.bool (once l)) ∧ Below w.heap.size w w':=by
 obtain ⟨a,cap,rfl,_,hc⟩:=hr.open
 have HC:=Lib.hid hc
 clear hc hr
 obtain ⟨n,hn⟩ : ∃ n : Nat,n = l.length - 1:=⟨_,rfl⟩
 have HN:=Lib.hid hn
 have hmx : max ((l.length : Int) - 1) 0 = (n : Int):=by omega
 clear hn
 go_enter Tryz.func16,Tryz.ntmps16
 go_wp2
 clear hmx
 go_loopw [8] (fun i wr => ∃ k : Nat,k ≤ n ∧ i = .int .i64 (k : Int) ∧ Hid (∀ j (h : j + 1 < l.length),j < k → lt l[j].1 l[j + 1].1 = true) ∧ Hid (Below w.heap.size w wr)) (fun i _ => n - (intOf i).toNat)
 case atStart => exact ⟨0,by omega,rfl,fun j _ h => absurd h (by omega),Below.refl _ _⟩
 case round =>
  obtain ⟨k,hk,rfl,hH,hB⟩:=hrel
  by_cases h0 : k < n
  ·have hkl : k + 1 < l.length:=by have:=HN.out; omega
   obtain ⟨b,off,rfl,c1,_⟩:=HC.out k (by omega)
   obtain ⟨b',off',hb,c2,_⟩:=HC.out (k + 1) hkl
   cases hb
   have d1:=Below.keeps hB.out c1
   have d2:=Below.keeps hB.out c2
   have i0 : (k : Int) < (n : Int):=by omega
   have kk1 : (k : Int) + 1 < (l.length : Int):=by omega
   have kk2 : (k : Int) < (l.length : Int):=by omega
   have kk3 : (0 : Int) ≤ (k : Int):=by omega
   clear c1 c2
   rcases lt3 l[k].1 l[k + 1].1 with ⟨t1,t2,t3,t4⟩ | ⟨t1,t2,t3,t4⟩ | ⟨t0,t1,t2,t3,t4⟩
   ·have HL:=Lib.hid t1
    unfold lt at t1 t2
    go_wp2
    go_quiet (fail)
    go_wp2
    go_roundw
    case rel =>
     refine ⟨k + 1,by omega,by go_num,?_,bt hB.out (Below.drewN' _ _)⟩
     intro j h hj
     by_cases hjk : j = k
     ·subst hjk; exact HL.out
     ·exact hH.out j h (by omega)
    case measure => simp [intOf]; omega
   all_goals
    try clear t0
    have HL:=Lib.hid t1
    unfold lt at t1 t2
    go_wp2
    go_quiet (fail)
    go_wp2
    go_ret
    exact ⟨by rw [once_false l k hkl HL.out]; rfl,bt hB.out (Below.drewN' _ _)⟩
  ·obtain rfl : k = n:=by omega
   have hs:=Lib.hid (once_true l k (by have:=HN.out; omega) hH.out)
   go_wp2
   go_ret
   exact ⟨by rw [hs.out]; rfl,hB.out⟩
theorem pr_ne_of {a b : List PR} (k : Nat) (h : k < a.length) (h' : k < b.length) (hne : a[k] ≠ b[k]) : a ≠ b:=by
 rintro rfl; exact hne rfl
theorem pr_eq (p q : PR) : (p.1 == q.1 && p.2 == q.2) = decide (p = q):=by
 rw [Bool.eq_iff_iff]; simp [Prod.ext_iff]
theorem less_any (p q : PR) (w : World) :
  Calls Tryz.prog 116 #[.agg #[.string (bs p.1),.string (bs p.2)],.agg #[.string (bs q.1),.string (bs q.2)]] w fun e w' => e = .returned (.bool (lt p.1 q.1)) ∧ Below w.heap.size w w':=by
 go_enter Tryz.func116,Tryz.ntmps116
 go_wp2
 go_ret
 exact ⟨rfl,bt (b_alloc _ _) (b_alloc _ _)⟩
theorem same14_any (va vb : Value) (a b : List PR) (w : World) (ha : RP w va a) (hb : RP w vb b) (hla : a.length ≤ 140737488355328) (hlb : b.length ≤ 140737488355328) :
  Calls Tryz.prog 15 #[va,vb] w fun e w' => e = .returned (.bool (decide (a = b))) ∧ Below w.heap.size w w':=by
 obtain ⟨aa,ca,rfl,_,hca⟩:=ha.open
 obtain ⟨ab,cb,rfl,_,hcb⟩:=hb.open
 by_cases hl : a.length = b.length
 ·have hL:=Lib.hid hl
  have t1 : ((a.length : Int) != (b.length : Int)) = false:=by rw [bne_eq_false_iff_eq]; omega
  clear hl
  go_enter Tryz.func15,Tryz.ntmps15
  go_wp2
  go_loopw [5] (fun i wr => ∃ k : Nat,k ≤ a.length ∧ i = .int .i64 k ∧ Hid (∀ j (h : j < a.length) (h' : j < b.length),j < k → a[j] = b[j]) ∧ Below w.heap.size w wr) (fun i _ => a.length - (intOf i).toNat)
  case atStart => exact ⟨0,by omega,rfl,by intro j _ _ h; omega,Below.refl _ _⟩
  case round =>
   obtain ⟨k,hk,rfl,hH,hB⟩:=hrel
   by_cases h0 : k < a.length
   ·have h0b : k < b.length:=by have:=hL.out; omega
    obtain ⟨b1,o1,rfl,hc1,hc2⟩:=hca k h0
    obtain ⟨b2,o2,rfl,hc3,hc4⟩:=hcb k h0b
    have hd1:=Below.keeps hB hc1
    have hd2:=Below.keeps hB hc2
    have hd3:=Below.keeps hB hc3
    have hd4:=Below.keeps hB hc4
    have kk1 : (k : Int) < (a.length : Int):=by omega
    have kk2 : (k : Int) < (b.length : Int):=by omega
    clear hca hcb
    by_cases he : a[k] = b[k]
    ·have he2 : (a[k].1 == b[k].1) = true:=by simp [he]
     have he3 : (a[k].2 == b[k].2) = true:=by simp [he]
     have HE:=Lib.hid he
     clear he
     go_wp2
     go_quiet (fail)
     go_wp2
     go_roundw
     case rel =>
      refine ⟨k + 1,by omega,by go_num,?_,bt hB (Below.drewN' _ _)⟩
      intro j h h' hj
      by_cases hjk : j = k
      ·subst hjk; exact HE.out
      ·exact hH.out j h h' (by omega)
     case measure => simp [intOf]; omega
    ·have HE:=Lib.hid he
     have he4:=pr_eq a[k] b[k]
     rw [decide_eq_false he] at he4
     clear he
     cases he2 : (a[k].1 == b[k].1)
     ·go_wp2
      go_quiet (fail)
      go_wp2
      go_ret
      exact ⟨by rw [decide_eq_false (pr_ne_of k h0 h0b HE.out)]; rfl,bt hB (Below.drewN' _ _)⟩
     ·have he3 : (a[k].2 == b[k].2) = false:=by rw [he2,Bool.true_and] at he4; exact he4
      clear he4
      go_wp2
      go_quiet (fail)
      go_wp2
      go_ret
      exact ⟨by rw [decide_eq_false (pr_ne_of k h0 h0b HE.out)]; rfl,bt hB (Below.drewN' _ _)⟩
   ·obtain rfl : k = a.length:=by omega
    go_wp2
    go_ret
    exact ⟨by rw [decide_eq_true (List.ext_getElem hL.out (fun j h h' => hH.out j h h' h))]; rfl,hB⟩
 ·have t1 : ((a.length : Int) != (b.length : Int)) = true:=by rw [bne_iff_ne]; omega
  go_enter Tryz.func15,Tryz.ntmps15
  go_wp2
  go_ret
  exact ⟨by rw [decide_eq_false (fun e => hl (by rw [e]))]; rfl,Below.refl _ _⟩
theorem once18_any (v : Value) (l : List PR) (w : World) (hr : RP w v l) (hl : l.length ≤ 140737488355328) :
  Calls Tryz.prog 17 #[v] w fun e w' => e = .returned (.bool (once l)) ∧ Below w.heap.size w w':=by
 obtain ⟨a,cap,rfl,_,hc⟩:=hr.open
 go_enter Tryz.func17,Tryz.ntmps17
 go_wp2
 go_loopw [3] (fun i wr => ∃ k : Nat,(k = 0 ∨ k + 1 ≤ l.length) ∧ i = .int .i64 ((k : Int) + 1) ∧ Hid (∀ j (h : j + 1 < l.length),j < k → lt l[j].1 l[j + 1].1 = true) ∧ Below w.heap.size w wr) (fun i _ => (l.length + 1 - (intOf i).toNat))
 case atStart => exact ⟨0,.inl rfl,rfl,by intro j _ h; omega,Below.refl _ _⟩
 case round =>
  obtain ⟨k,hk,rfl,hH,hB⟩:=hrel
  by_cases h0 : k + 1 < l.length
  ·obtain ⟨b,off,rfl,c1,_⟩:=hc (k + 1) h0
   obtain ⟨b',off',hb,c2,_⟩:=hc k (by omega)
   cases hb
   have d1:=Below.keeps hB c1
   have d2:=Below.keeps hB c2
   have kk1 : (k : Int) + 1 < (l.length : Int):=by omega
   have kk2 : (k : Int) < (l.length : Int):=by omega
   clear hc hk
   rcases lt3 l[k].1 l[k + 1].1 with ⟨t1,t2,t3,t4⟩ | ⟨t1,t2,t3,t4⟩ | ⟨t0,t1,t2,t3,t4⟩
   ·have HL:=Lib.hid t1
    unfold lt at t1 t2
    go_wp2
    go_quiet (fail)
    go_wp2
    go_roundw
    case rel =>
     refine ⟨k + 1,.inr (by omega),by go_num,?_,bt hB (Below.drewN' _ _)⟩
     intro j h hj
     by_cases hjk : j = k
     ·subst hjk; exact HL.out
     ·exact hH.out j h (by omega)
    case measure => simp [intOf]; omega
   all_goals
    try clear t0
    have HL:=Lib.hid t1
    unfold lt at t1 t2
    go_wp2
    go_quiet (fail)
    go_wp2
    go_ret
    exact ⟨by rw [once_false l k h0 HL.out]; rfl,bt hB (Below.drewN' _ _)⟩
  ·have hs:=Lib.hid (once_true l k (by omega) hH.out)
   go_wp2
   go_ret
   exact ⟨by rw [hs.out]; rfl,hB⟩
theorem jobRun_may {j : Jb} (h : mayJ j = true) (texts : List (List UInt8)) (code : List VI) (role : UInt8) (ins : List (List UInt8)) : jobRun j texts code role ins = vmV texts code role ins j.fuel:=if_pos h
theorem vmV_text (texts : List (List UInt8)) (code : List VI) (role : UInt8) (ins : List (List UInt8)) (fuel : Int) : (vmV texts code role ins fuel).2.2.length ≤ 1024:=by
 cases hy : askRun texts code role ins fuel with
 | false => rw [vmV_no hy]; simp
 | true =>
  rw [vmV_yes hy]
  obtain ⟨h1,h2,-,-,h5⟩:=askRun_ok hy
  obtain ⟨hg,-⟩:=goodM_of h1 h2 h5
  unfold ranV
  split
  ·rename_i h0
   obtain ⟨hok,-⟩:=runM_ok hg fuel.toNat startM startM_ok h0
   dsimp only
   split
   ·simp
   ·cases hst : (runM ⟨texts,code,ins,(throughV texts code role).2.2.ends⟩ fuel.toNat startM).2.st with
    | nil => simp
    | cons v r =>
     have hv:=hok.sv v (by rw [hst]; simp)
     exact hv.2.2
  ·simp
end Go.Proofs.YtehllcbnheicoaaGreatDoor
