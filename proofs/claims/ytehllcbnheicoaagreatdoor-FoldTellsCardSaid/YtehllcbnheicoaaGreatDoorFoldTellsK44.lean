/- Lemmas for FoldTells, part 44: walks of the functions that it reaches, and the plain laws behind them. -/
import Derived.Test.YtehllcbnheicoaaGreatDoorFoldTellsK1
import Derived.Test.YtehllcbnheicoaaGreatDoorFoldTellsK2
import Derived.Test.YtehllcbnheicoaaGreatDoorFoldTellsK3
import Derived.Test.YtehllcbnheicoaaGreatDoorFoldTellsK14
import Derived.Test.YtehllcbnheicoaaGreatDoorFoldTellsK15
import Derived.Test.YtehllcbnheicoaaGreatDoorFoldTellsK17
import Derived.Test.YtehllcbnheicoaaGreatDoorFoldTellsK20
import Derived.Test.YtehllcbnheicoaaGreatDoorFoldTellsK38
import Derived.Test.YtehllcbnheicoaaGreatDoorFoldTellsK41
import Derived.Test.YtehllcbnheicoaaGreatDoorFoldTellsK43
set_option linter.unusedSimpArgs false
set_option linter.unusedVariables false
set_option maxRecDepth 100000
set_option maxHeartbeats 16000000
namespace Go.Proofs.YtehllcbnheicoaaGreatDoor
open Go.RowKit Oct
attribute [local irreducible] wpG
theorem load_job {w : World} {b : Nat} {v0 v1 v2 v3 v4 v5 v6 v7 : Value} (h : Blk w b 27 [v0,v1,v2,v3,v4,v5,v6,v7]) : (loadVar 27 ⟨b,0,none⟩).run Tryz.prog w = .ok (.agg #[v0,v1,v2,v3,v4,v5,v6,v7]) w:=by
 have x0:=h.cell (k:=0) rfl
 have x1:=h.cell (k:=1) rfl
 have x2:=h.cell (k:=2) rfl
 have x3:=h.cell (k:=3) rfl
 have x4:=h.cell (k:=4) rfl
 have x5:=h.cell (k:=5) rfl
 have x6:=h.cell (k:=6) rfl
 have x7:=h.cell (k:=7) rfl
 clear h
 go_simp
theorem job_store {w : World} {b : Nat} {t : TypeId} {a0 a1 a2 a3 a4 a5 a6 a7 : Value} (hx : Blk w b t [a0,a1,a2,a3,a4,a5,a6,a7]) (v0 v1 v2 v3 v4 v5 v6 v7 : Value) :
  Blk ((((((((w.setCell ⟨b,0,none⟩ v0).setCell ⟨b,1,none⟩ v1).setCell ⟨b,2,none⟩ v2).setCell ⟨b,3,none⟩ v3).setCell ⟨b,4,none⟩ v4).setCell ⟨b,5,none⟩ v5).setCell ⟨b,6,none⟩ v6).setCell ⟨b,7,none⟩ v7) b t [v0,v1,v2,v3,v4,v5,v6,v7] ∧
  Chg (fun x => x = b) w ((((((((w.setCell ⟨b,0,none⟩ v0).setCell ⟨b,1,none⟩ v1).setCell ⟨b,2,none⟩ v2).setCell ⟨b,3,none⟩ v3).setCell ⟨b,4,none⟩ v4).setCell ⟨b,5,none⟩ v5).setCell ⟨b,6,none⟩ v6).setCell ⟨b,7,none⟩ v7) :=
 ⟨(((((((hx.set 0 v0).set 1 v1).set 2 v2).set 3 v3).set 4 v4).set 5 v5).set 6 v6).set 7 v7,
  Chg.trans (Chg.trans (Chg.trans (Chg.trans (Chg.trans (Chg.trans (Chg.trans (Chg.setCell w ⟨b,0,none⟩ v0 rfl) (Chg.setCell _ ⟨b,1,none⟩ v1 rfl)) (Chg.setCell _ ⟨b,2,none⟩ v2 rfl)) (Chg.setCell _ ⟨b,3,none⟩ v3 rfl)) (Chg.setCell _ ⟨b,4,none⟩ v4 rfl)) (Chg.setCell _ ⟨b,5,none⟩ v5 rfl)) (Chg.setCell _ ⟨b,6,none⟩ v6 rfl)) (Chg.setCell _ ⟨b,7,none⟩ v7 rfl)⟩
theorem size_setA (w : World) (a : Addr) (v : Value) : (w.setCell a v).heap.size = w.heap.size:=by simp [World.setCell]
def CountR (p : Int) (B : Nat) (e : Ending) (w : World) : Prop :=
 ∃ c1 c2 c3,e = .returned (jobV (.slice none 0 0) c1 (.slice none 0 0) c2 (.slice none 0 0) c3 (countJ p)) ∧ recIns.Row w c1 (countJ p).mc ∧ recIns.Row w c2 (countJ p).jc ∧ recIns.Row w c3 (countJ p).tc
theorem CountR.job {p : Int} {B : Nat} {e : Ending} {w : World} (h : CountR p B e w) (hp : 0 ≤ p) (hp1 : p ≤ 100) (hE : EffM w) (hg : 1 < w.heap.size) (hG : GlobV w) :
  ∃ a1 k1 a2 k2 a3 k3,e = .returned (.agg #[.slice none 0 0,.slice a1 4 k1,.slice none 0 0,.slice a2 6 k2,.slice none 0 0,.slice a3 3 k3,.int .i64 p,.int .i64 100]) ∧ JobR w (.slice none 0 0) (.slice a1 4 k1) (.slice none 0 0) (.slice a2 6 k2) (.slice none 0 0) (.slice a3 3 k3) (countJ p):=by
 obtain ⟨c1,c2,c3,rfl,h1,h2,h3⟩:=h
 obtain ⟨a1,k1,rfl,-,-⟩:=recIns_open h1
 obtain ⟨a2,k2,rfl,-,-⟩:=recIns_open h2
 obtain ⟨a3,k3,rfl,-,-⟩:=recIns_open h3
 refine ⟨a1,k1,a2,k2,a3,k3,rfl,⟨⟨Rec.Row.nil _,h1,Nat.zero_le _,(by show (4 : Nat) ≤ 5000; decide),fun s hs => (by cases hs),hE,hg⟩,⟨Rec.Row.nil _,h2,Nat.zero_le _,(by show (6 : Nat) ≤ 5000; decide),fun s hs => (by cases hs),hE,hg⟩,⟨Rec.Row.nil _,h3,Nat.zero_le _,(by show (3 : Nat) ≤ 5000; decide),fun s hs => (by cases hs),hE,hg⟩,?_,?_,(by show (-9223372036854775808 : Int) ≤ 100; decide),(by show (100 : Int) ≤ 9223372036854775807; decide),hG⟩⟩
 ·show -9223372036854775808 ≤ p
  omega
 ·show p ≤ 9223372036854775807
  omega
theorem Count_any (p : Int) (w : World) : Calls Tryz.prog 33 #[.int .i64 p] w fun e w' => CountR p w.heap.size e w' ∧ Below w.heap.size w w':=by
 obtain ⟨D,hD⟩ : ∃ D,D = w.heap.size:=⟨_,rfl⟩
 obtain ⟨W0,hW0⟩ : ∃ W0,W0 = w.alloc (.cells #[.slice none 0 0,.slice none 0 0,.slice none 0 0,.slice none 0 0,.slice none 0 0,.slice none 0 0,.int .i64 0,.int .i64 0] 27):=⟨_,rfl⟩
 have hs0 : W0.heap.size = D + 1:=by rw [hW0,size_alV,hD]
 have hx : Blk W0 D 27 [.slice none 0 0,.slice none 0 0,.slice none 0 0,.slice none 0 0,.slice none 0 0,.slice none 0 0,.int .i64 0,.int .i64 0]:=by rw [hD,hW0]; exact Blk.new w _ _
 have hb0 : Below w.heap.size w W0:=by rw [hW0]; exact b_alloc _ _
 go_enter Tryz.func33,Tryz.ntmps33
 go_upto_region 1 with fail
 rw [← hW0,← hD]
 have x0:=hx.cell (k:=0) rfl
 have x1:=hx.cell (k:=1) rfl
 have x2:=hx.cell (k:=2) rfl
 have x3:=hx.cell (k:=3) rfl
 have x4:=hx.cell (k:=4) rfl
 have x5:=hx.cell (k:=5) rfl
 have x6:=hx.cell (k:=6) rfl
 have x7:=hx.cell (k:=7) rfl
 have f0:=hx.free (k:=0) (by simp)
 have f1:=hx.free (k:=1) (by simp)
 have f2:=hx.free (k:=2) (by simp)
 have f3:=hx.free (k:=3) (by simp)
 have f4:=hx.free (k:=4) (by simp)
 have f5:=hx.free (k:=5) (by simp)
 have f6:=hx.free (k:=6) (by simp)
 have f7:=hx.free (k:=7) (by simp)
 have hDl : D < W0.heap.size:=hx.lt
 have HX:=Lib.hid hx
 have HB0:=Lib.hid hb0
 have HD:=Lib.hid hD
 have HS0:=Lib.hid hs0
 clear hx hb0 hD hW0
 go_wp2_with fail
 obtain ⟨hy,hc⟩:=job_store HX.out (.slice none 0 0) (.slice (some ⟨D + 1,0,none⟩) 4 4) (.slice none 0 0) (.slice (some ⟨D + 1 + 1,0,none⟩) 6 6) (.slice none 0 0) (.slice (some ⟨D + 1 + 1 + 1,0,none⟩) 3 3) (.int .i64 p) (.int .i64 100)
 have hs1 : ((((((((W0.setCell ⟨D,0,none⟩ (.slice none 0 0)).setCell ⟨D,1,none⟩ (.slice (some ⟨D + 1,0,none⟩) 4 4)).setCell ⟨D,2,none⟩ (.slice none 0 0)).setCell ⟨D,3,none⟩ (.slice (some ⟨D + 1 + 1,0,none⟩) 6 6)).setCell ⟨D,4,none⟩ (.slice none 0 0)).setCell ⟨D,5,none⟩ (.slice (some ⟨D + 1 + 1 + 1,0,none⟩) 3 3)).setCell ⟨D,6,none⟩ (.int .i64 p)).setCell ⟨D,7,none⟩ (.int .i64 100)).heap.size = D + 1:=by rw [size_setA,size_setA,size_setA,size_setA,size_setA,size_setA,size_setA,size_setA]; exact HS0.out
 obtain ⟨V0,hV0⟩ : ∃ V0,V0 = ((((((((W0.setCell ⟨D,0,none⟩ (.slice none 0 0)).setCell ⟨D,1,none⟩ (.slice (some ⟨D + 1,0,none⟩) 4 4)).setCell ⟨D,2,none⟩ (.slice none 0 0)).setCell ⟨D,3,none⟩ (.slice (some ⟨D + 1 + 1,0,none⟩) 6 6)).setCell ⟨D,4,none⟩ (.slice none 0 0)).setCell ⟨D,5,none⟩ (.slice (some ⟨D + 1 + 1 + 1,0,none⟩) 3 3)).setCell ⟨D,6,none⟩ (.int .i64 p)).setCell ⟨D,7,none⟩ (.int .i64 100)):=⟨_,rfl⟩
 rw [← hV0] at hy hc hs1 ⊢
 clear hV0 x0 x1 x2 x3 x4 x5 x6 x7 f0 f1 f2 f3 f4 f5 f6 f7 hDl
 obtain ⟨W1,hW1⟩ : ∃ W1,W1 = V0.alloc (.cells #[.int .u8 3,.int .u8 0,.int .u8 2,.int .u8 1,.int .u8 8,.int .u8 0,.int .u8 23,.int .u8 0] 97):=⟨_,rfl⟩
 have hs2 : W1.heap.size = D + 1 + 1:=by rw [hW1,size_alV,hs1]
 have r1:=litC recIns V0 [(3,0),(2,1),(8,0),(23,0)] #[.int .u8 3,.int .u8 0,.int .u8 2,.int .u8 1,.int .u8 8,.int .u8 0,.int .u8 23,.int .u8 0] rfl 4 rfl (by omega)
 have hb1 : Below V0.heap.size V0 W1:=by rw [hW1]; exact b_alloc _ _
 rw [show recIns.e = 97 from rfl,← hW1,hs1] at r1
 obtain ⟨W2,hW2⟩ : ∃ W2,W2 = W1.alloc (.cells #[.int .u8 3,.int .u8 0,.int .u8 7,.int .u8 0,.int .u8 3,.int .u8 1,.int .u8 7,.int .u8 0,.int .u8 9,.int .u8 0,.int .u8 8,.int .u8 0] 97):=⟨_,rfl⟩
 have hs3 : W2.heap.size = D + 1 + 1 + 1:=by rw [hW2,size_alV,hs2]
 have r2:=litC recIns W1 [(3,0),(7,0),(3,1),(7,0),(9,0),(8,0)] #[.int .u8 3,.int .u8 0,.int .u8 7,.int .u8 0,.int .u8 3,.int .u8 1,.int .u8 7,.int .u8 0,.int .u8 9,.int .u8 0,.int .u8 8,.int .u8 0] rfl 6 rfl (by omega)
 have hb2 : Below W1.heap.size W1 W2:=by rw [hW2]; exact b_alloc _ _
 rw [show recIns.e = 97 from rfl,← hW2,hs2] at r2
 obtain ⟨W3,hW3⟩ : ∃ W3,W3 = W2.alloc (.cells #[.int .u8 3,.int .u8 0,.int .u8 3,.int .u8 1,.int .u8 4,.int .u8 0] 97):=⟨_,rfl⟩
 have r3:=litC recIns W2 [(3,0),(3,1),(4,0)] #[.int .u8 3,.int .u8 0,.int .u8 3,.int .u8 1,.int .u8 4,.int .u8 0] rfl 3 rfl (by omega)
 have hb3 : Below W2.heap.size W2 W3:=by rw [hW3]; exact b_alloc _ _
 rw [show recIns.e = 97 from rfl,← hW3,hs3] at r3
 rw [← hW1,← hW2,← hW3]
 have hy3:=((hy.below hb1).below hb2).below hb3
 have hbb:=bt (bt hb1 hb2) hb3
 refine bodyPost_ret (results_cellM rfl rfl (load_job hy3)) rfl ?_
 refine ⟨⟨_,_,_,rfl,(r1.below hb2).below hb3,r2.below hb3,r3⟩,?_⟩
 exact HB0.out.trans ((hc.below (fun k hk => by rw [show k = D from hk,HD.out]; exact Nat.le_refl _) HB0.out.size).trans (hbb.mono (by rw [hs1,← HD.out]; exact Nat.le_succ _)))
structure JobQ (w : World) (t1 c1 t2 c2 t3 c3 : Value) (j : Jb) : Prop where
 a : ProgR w t1 c1 j.mt j.mc
 b : ProgR w t2 c2 j.jt j.jc
 c : ProgR w t3 c3 j.tt j.tc
 p0 : -9223372036854775808 ≤ j.parts
 p1 : j.parts ≤ 9223372036854775807
 f0 : -9223372036854775808 ≤ j.fuel
 f1 : j.fuel ≤ 9223372036854775807
theorem JobQ.below {w w' : World} {t1 c1 t2 c2 t3 c3 : Value} {j : Jb} (h : JobQ w t1 c1 t2 c2 t3 c3 j) (hB : Below w.heap.size w w') : JobQ w' t1 c1 t2 c2 t3 c3 j:=⟨h.a.below hB,h.b.below hB,h.c.below hB,h.p0,h.p1,h.f0,h.f1⟩
def largeJ (j : Jb) : Bool:=largeV j.mt j.mc || largeV j.jt j.jc || largeV j.tt j.tc
def slowJ (j : Jb) : Bool:=decide (3000 < j.fuel) && decide (j.fuel ≤ 65536)
theorem largeJ_no {j : Jb} (h : largeJ j = false) : largeV j.mt j.mc = false ∧ largeV j.jt j.jc = false ∧ largeV j.tt j.tc = false:=by
 unfold largeJ at h
 simp only [Bool.or_eq_false_iff] at h
 exact ⟨h.1.1,h.1.2,h.2⟩
theorem JobQ.job {w : World} {t1 c1 t2 c2 t3 c3 : Value} {j : Jb} (h : JobQ w t1 c1 t2 c2 t3 c3 j) (hl : largeJ j = false) (hE : EffM w) (hg : 1 < w.heap.size) (hG : GlobV w) : JobR w t1 c1 t2 c2 t3 c3 j:=by
 obtain ⟨h1,h2,h3⟩:=largeJ_no hl
 exact ⟨h.a.ask h1 hE hg,h.b.ask h2 hE hg,h.c.ask h3 hE hg,h.p0,h.p1,h.f0,h.f1,hG⟩
end Go.Proofs.YtehllcbnheicoaaGreatDoor
namespace Go.Proofs.YtehllcbnheicoaaGreatDoor.Oct
end Go.Proofs.YtehllcbnheicoaaGreatDoor.Oct
namespace Go.Proofs.YtehllcbnheicoaaGreatDoor.Oct
def texts : List (List UInt8) → List UInt8
 | [] => []
 | l :: r => num l.length 2 ++ l ++ texts r
def fits (r : List (List UInt8)) : Bool:=r.all fun l => decide (l.length ≤ 65535)
def row (r : List (List UInt8)) : List UInt8 × Int :=
 if r.length ≤ 65535 then if fits r then (num r.length 2 ++ texts r,0) else ([],5) else ([],5)
end Go.Proofs.YtehllcbnheicoaaGreatDoor.Oct
namespace Go.Proofs.YtehllcbnheicoaaGreatDoor
open Go.RowKit Oct


end Go.Proofs.YtehllcbnheicoaaGreatDoor
namespace Go.Proofs.YtehllcbnheicoaaGreatDoor
open Go.RowKit Oct
attribute [local irreducible] wpG
theorem recS_tcells : ∀ l : List (List UInt8),recS.cells l = tcells l
 | [] => rfl
 | x :: l => by rw [Rec.cells,recS_tcells l]; rfl
theorem RR.nil (w : World) : RR w (.slice none 0 0) []:=⟨none,0,rfl,Nat.le_refl _,fun _ => ⟨rfl,rfl⟩,fun k hk => absurd hk (Nat.not_lt_zero _)⟩
theorem wpG_nilFE {P : Program} {ops : Array Oper} {C : World → Prop} {R : World → World → Prop} {F : Nat → Option (Known R)} {Q : Facts → Act → Prop} {k : Nat} {S : Facts} {a : Act} (h : Q S a) : wpG P ops C R F Q k [] S a:=by unfold wpG; exact h
theorem valsF_mem {key : List UInt8} {l : List PR} (hm : ∀ p ∈ l,p.2.length ≤ 140737488355328) : ∀ s ∈ valsF key l,s.length ≤ 140737488355328:=by
 intro s hs
 obtain ⟨p,hp,rfl⟩:=List.mem_map.1 hs
 exact hm p (List.mem_filter.1 hp).1
theorem by32F {a b : Nat} (h : a ≤ b) (hb : b ≤ 1000000) : (a + 1) * 32 ≤ 140737488355328:=by omega
theorem grp_lenF (l : List PR) : ((grp (srt l)).map hk1).length ≤ l.length:=by
 rw [List.length_map]
 have h1:=grp_length_le (srt l).length (srt l) (Nat.le_refl _)
 rw [srt_length] at h1
 exact h1
theorem rRows18_any (t1 c1 t2 c2 t3 c3 v : Value) (j : Jb) (rows : List (List PR)) (w : World) (h : JobR w t1 c1 t2 c2 t3 c3 j) (hr : RR w v rows) (hl : rows.length ≤ 1000000) (hf : rows.flatten.length ≤ 1000000) (hm : ∀ r ∈ rows,r.length ≤ 1000000) (hp : ∀ p ∈ rows.flatten,p.2.length ≤ 140737488355328) :
  Calls Tryz.prog 14 #[jobV t1 c1 t2 c2 t3 c3 j,v] w fun e w' => (∃ pv,e = .returned (.tuple #[pv,.string (bs (rowsJ j rows).2.1),.int .i64 ((rowsJ j rows).2.2 : Int)]) ∧ recKv.Own w' w.heap.size pv (rowsJ j rows).1) ∧ Below w.heap.size w w':=by
 have HMAY:=Lib.hid (fun w' (hB : Below w.heap.size w w') => rMay15_any t1 c1 t2 c2 t3 c3 j w' (h.below hB))
 have HVA:=Lib.hid (fun (u : Value) (l : List (List UInt8)) w' (hB : Below w.heap.size w w') hv h1 h2 => rValues18_any t1 c1 t2 c2 t3 c3 u j l w' (h.below hB) hv h1 h2)
 have HOF:=Lib.hid (fun (k : List UInt8) w' (hB : Below w.heap.size w w') => rOf18_any v k rows w' (hr.below hB) (Nat.le_trans hl (by decide)) hf hm)
 obtain ⟨ta,tc,rfl,-,-⟩:=recS_open h.a.t
 obtain ⟨ca,cc,rfl,-,-⟩:=recIns_open h.a.c
 obtain ⟨ta2,tc2,rfl,-,-⟩:=recS_open h.b.t
 obtain ⟨ca2,cc2,rfl,-,-⟩:=recIns_open h.b.c
 obtain ⟨ta3,tc3,rfl,-,-⟩:=recS_open h.c.t
 obtain ⟨ca3,cc3,rfl,-,-⟩:=recIns_open h.c.c
 obtain ⟨av,cv,rfl,_,_,hc⟩:=hr
 unfold jobV at HMAY HVA ⊢
 have HCC:=Lib.hid hc
 have HF:=Lib.hid hf
 have HP:=Lib.hid hp
 have HM:=Lib.hid hm
 obtain ⟨W1,hW1⟩ : ∃ W1,W1 = w.alloc (.cells #[.slice ta j.mt.length tc,.slice ca j.mc.length cc,.slice ta2 j.jt.length tc2,.slice ca2 j.jc.length cc2,.slice ta3 j.tt.length tc3,.slice ca3 j.tc.length cc3,.int .i64 j.parts,.int .i64 j.fuel] 27):=⟨_,rfl⟩
 have hb1 : Below w.heap.size w W1:=by rw [hW1]; exact b_alloc _ _
 obtain ⟨J,hJ⟩ : ∃ J,J = w.heap.size:=⟨_,rfl⟩
 have hx : Blk W1 J 27 [.slice ta j.mt.length tc,.slice ca j.mc.length cc,.slice ta2 j.jt.length tc2,.slice ca2 j.jc.length cc2,.slice ta3 j.tt.length tc3,.slice ca3 j.tc.length cc3,.int .i64 j.parts,.int .i64 j.fuel]:=by rw [hJ,hW1]; exact Blk.new w _ _
 have x0:=hx.cell (k:=0) rfl
 have x1:=hx.cell (k:=1) rfl
 have x2:=hx.cell (k:=2) rfl
 have x3:=hx.cell (k:=3) rfl
 have x4:=hx.cell (k:=4) rfl
 have x5:=hx.cell (k:=5) rfl
 have x6:=hx.cell (k:=6) rfl
 have x7:=hx.cell (k:=7) rfl
 have HB1:=Lib.hid hb1
 have HX:=Lib.hid hx
 go_enter Tryz.func14,Tryz.ntmps14
 go_upto_region 1 with fail
 rw [← hW1,← hJ]
 clear hW1 hJ hb1 hx h hc hf hp hm
 by_cases hmy : mayJ j = true
 ·rw [hmy] at HMAY
  have HR:=Lib.hid (show rowsJ j rows = keysV j rows [] ((grp (srt rows.flatten)).map hk1) from (if_pos hmy).trans (keysV_rows j rows).symm)
  clear hmy
  go_upto_region 5 with (go_at_call 30; refine (HMAY.out _ HB1.out).mono ?_; rintro e w2 ⟨rfl,hB2⟩; have HX2:=Lib.hid (HX.out.below hB2); have HB2:=Lib.hid (bt HB1.out hB2); clear hB2 x0 x1 x2 x3 x4 x5 x6 x7)
  go_loopw [7,8] (fun u t wr => ∃ i : Nat,i ≤ rows.length ∧ t = .int .i64 (i : Int) ∧ Hid (OP wr w2.heap.size u (rows.take i).flatten) ∧ Hid (Below w2.heap.size w2 wr)) (fun _ t _ => rows.length - (intOf t).toNat)
  case atStart => exact ⟨0,by omega,rfl,OP.nil _ _,Below.refl _ _⟩
  case round =>
   obtain ⟨i,hi,rfl,HO,HB⟩:=hrel
   obtain ⟨ao,co,rfl⟩:=owns_slice HO.out
   by_cases h0 : i < rows.length
   ·obtain ⟨b1,o1,u,rfl,d1,hru⟩:=HCC.out i h0
    have hfl:=flat_le rows (i + 1)
    have hft:=flat_take rows i h0
    have hru2:=hru.below (bt HB2.out HB.out)
    obtain ⟨a2,c2,rfl,-,-⟩:=hru.open
    have d2:=Below.keeps (bt HB2.out HB.out) d1
    have HU:=Lib.hid hru2
    have kk0 : (0 : Int) ≤ (i : Int):=by omega
    have kk1 : (i : Int) < (rows.length : Int):=by omega
    rw [hft,List.length_append] at hfl
    have HBY:=Lib.hid (show ((rows.take i).flatten.length + rows[i].length) * 32 ≤ 140737488355328 by have:=HF.out; omega)
    have HFT:=Lib.hid hft
    have HI:=Lib.hid h0
    obtain ⟨O,hO⟩ : ∃ O,O = (rows.take i).flatten:=⟨_,rfl⟩
    rw [← hO] at HO HBY HFT
    obtain ⟨r,hr⟩ : ∃ r,r = rows[i]'h0:=⟨_,rfl⟩
    rw [← hr] at HBY
    rw [← hr] at HFT
    rw [← hr] at d2
    rw [← hr] at HU
    have hOE:=congrArg List.length hO
    have hrE:=congrArg List.length hr
    rw [← hOE]
    clear hfl hft hru hru2 d1 hO hr hOE hrE h0
    go_wp2_with (at_builtin; go_must (refine appendP wr rfl _ _ 37 rfl Tryz.underlying37 w2.heap.size _ O rfl HO.out _ r rfl HU.out HBY.out HB.out.size ?_); intro v8 w8 hown8 hB8; have HO8:=Lib.hid hown8; have HB8:=Lib.hid hB8; clear hown8 hB8)
    go_roundw
    case rel => exact ⟨i + 1,HI.out,by go_num,by rw [HFT.out]; exact HO8.out,HB.out.trans HB8.out⟩
    case measure => have:=HI.out; simp [intOf]; omega
   ·have kk1 : ¬ (i : Int) < (rows.length : Int):=by omega
    have HE:=Lib.hid (show (rows.take i).flatten = rows.flatten by rw [List.take_of_length_le (by omega)])
    rw [HE.out] at HO
    obtain ⟨ALL,hALL⟩ : ∃ ALL,ALL = rows.flatten:=⟨_,rfl⟩
    have HAE:=Lib.hid hALL
    rw [HE.out,← hALL]
    rw [← hALL] at HO HR
    have hal : ALL.length ≤ 1000000:=by rw [hALL]; exact HF.out
    have HK:=Lib.hid (rKeys_any _ ALL wr (OP.reads HO.out) hal)
    obtain ⟨KS,hKS⟩ : ∃ KS,KS = (grp (srt ALL)).map hk1:=⟨_,rfl⟩
    have hkl : KS.length ≤ 1000000:=by rw [hKS]; exact Nat.le_trans (grp_lenF ALL) hal
    rw [← hKS] at HK HR
    clear hALL h0 hKS
    go_upto_region 11 with (go_at_call 39; refine HK.out.mono ?_; rintro e w3 ⟨⟨ku,rfl,hown3⟩,hB3⟩; obtain ⟨ka,kc,rfl⟩:=owns_slice hown3; have HK3:=Lib.hid hown3; have HB3:=Lib.hid (bt HB.out hB3); clear hown3 hB3)
    have HKO:=Lib.hid (show recS.Own w3 wr.heap.size (.slice ka KS.length kc) KS by unfold Rec.Own; rw [recS_tcells]; exact HK3.out)
    obtain ⟨_,_,hkv,_,hkc⟩:=recS_open HKO.out.row
    injection hkv with q1 _ q3
    subst q1 q3
    have HKC:=Lib.hid hkc
    have HX3:=Lib.hid (HX2.out.below HB3.out)
    have HBW:=Lib.hid (bt HB2.out HB3.out)
    clear hkc HK3 HO hal HK
    go_loopw [10,11] (fun u t wx => ∃ (k : Nat) (out : List PR),k ≤ KS.length ∧ out.length ≤ k ∧ t = .int .i64 (k : Int) ∧ Hid (recKv.Own wx w3.heap.size u out) ∧ Hid (keysV j rows out (KS.drop k) = keysV j rows [] KS) ∧ Hid (Below w3.heap.size w3 wx)) (fun _ t _ => KS.length - (intOf t).toNat)
    case atStart => exact ⟨0,[],by omega,Nat.le_refl _,rfl,Rec.Own.nil _ _,rfl,Below.refl _ _⟩
    case round =>
     obtain ⟨k,out,hk,hol,rfl,HO,HKV,HB4⟩:=hrel
     obtain ⟨ao,co,rfl⟩:=owns_slice HO.out
     by_cases h0 : k < KS.length
     ·obtain ⟨kb,ko,hA,e1⟩:=HKC.out k h0
      subst hA
      have hdr : KS.drop k = KS[k] :: KS.drop (k + 1):=List.drop_eq_getElem_cons h0
      obtain ⟨key,hke⟩ : ∃ key,key = KS[k]'h0:=⟨_,rfl⟩
      rw [← hke] at e1
      rw [← hke] at hdr
      have HD:=Lib.hid hdr
      have e1':=Below.keeps HB4.out e1
      have hx4:=HX3.out.below HB4.out
      have HX4:=Lib.hid hx4
      have hbw:=bt HBW.out HB4.out
      have HBX:=Lib.hid hbw
      have hvl : (valsF key ALL).length ≤ 1000000:=Nat.le_trans (valsF_len key ALL) (by rw [HAE.out]; exact HF.out)
      have HVL:=Lib.hid hvl
      have HOK:=Lib.hid (fun w' (hB : Below w.heap.size w w') => show Calls Tryz.prog 40 _ w' fun e w'' => (∃ u,e = .returned u ∧ recS.Own w'' w'.heap.size u (valsF key ALL)) ∧ Below w'.heap.size w' w'' by
       have q:=HOF.out key w' hB
       rw [← HAE.out] at q
       exact q)
      have HVK:=Lib.hid (fun (u : Value) w' (hB : Below w.heap.size w w') hv => HVA.out u (valsF key ALL) w' hB hv (Nat.le_trans HVL.out (by decide)) (valsF_mem (by rw [HAE.out]; exact HP.out)))
      have HRK:=Lib.hid (show ofR rows key = valsF key ALL by rw [HAE.out]; rfl)
      obtain ⟨VL,hVL⟩ : ∃ VL,VL = valsF key ALL:=⟨_,rfl⟩
      obtain ⟨R,hR⟩ : ∃ R,R = valuesJ j VL:=⟨_,rfl⟩
      rw [← hVL] at HOK HVK HRK
      rw [← hR] at HVK
      have HR2:=Lib.hid hR
      have i0 : (0 : Int) ≤ (k : Int):=by omega
      have i1 : (k : Int) < (KS.length : Int):=by omega
      have HHH:=Lib.hid h0
      have HBY:=Lib.hid (by32F hol (Nat.le_trans hk hkl))
      clear hdr hke e1 hbw hvl hVL hR h0 hx4
      go_upto_region 13 with fail
      refine region_known [(0,.exact _ (.agg #[.slice ta j.mt.length tc,.slice ca j.mc.length cc,.slice ta2 j.jt.length tc2,.slice ca2 j.jc.length cc2,.slice ta3 j.tt.length tc3,.slice ca3 j.tc.length cc3,.int .i64 j.parts,.int .i64 j.fuel])),(5,.exact _ (.string (bs key))),(6,kOwnV recS 0 VL),(7,.exact _ (.tuple #[.string (bs R.1),.int .i64 (R.2 : Int)]))] (by kernel_rfl) (by kernel_rfl) ?_
      (repeat (first | (refine wpG_skip (by kernel_rfl) (fun K hK => ?_); go_big_quiet_skip; refine wpQuiet_nil (hK _ ?_); clear hK K) | (refine wpG_quiet (by rfl) (by rfl) (fun K hK => ?_); go_big_quiet_want; go_big_quiet_op; go_big_quiet_on; refine wpQuiet_nil (hK _ ?_); clear hK K) | (refine wpG_nilOk rfl rfl rfl (by kernel_rfl) (fun K hK => ?_); go_simp; refine hK _ ?_; clear hK K)))
      refine wpG_exact rfl (by kernel_rfl) (fun w' G hB hS hG => ?_) (fun K hK => ?_)
      ·have hx:=HX4.out.below hB
       have y0:=hx.cell (k:=0) rfl
       have y1:=hx.cell (k:=1) rfl
       have y2:=hx.cell (k:=2) rfl
       have y3:=hx.cell (k:=3) rfl
       have y4:=hx.cell (k:=4) rfl
       have y5:=hx.cell (k:=5) rfl
       have y6:=hx.cell (k:=6) rfl
       have y7:=hx.cell (k:=7) rfl
       go_simp; exact hG _ (Bel.refl _)
      go_simp; refine hK _ ?_; clear hK K; (repeat (first | (refine wpG_skip (by kernel_rfl) (fun K hK => ?_); go_big_quiet_skip; refine wpQuiet_nil (hK _ ?_); clear hK K) | (refine wpG_quiet (by rfl) (by rfl) (fun K hK => ?_); go_big_quiet_want; go_big_quiet_op; go_big_quiet_on; refine wpQuiet_nil (hK _ ?_); clear hK K) | (refine wpG_nilOk rfl rfl rfl (by kernel_rfl) (fun K hK => ?_); go_simp; refine hK _ ?_; clear hK K)))
      refine wpG_exact rfl (by kernel_rfl) (fun w' G hB hS hG => ?_) (fun K hK => ?_)
      ·have y:=Below.keeps hB e1'
       go_simp; exact hG _ (Bel.refl _)
      go_simp; refine hK _ ?_; clear hK K; (repeat (first | (refine wpG_skip (by kernel_rfl) (fun K hK => ?_); go_big_quiet_skip; refine wpQuiet_nil (hK _ ?_); clear hK K) | (refine wpG_quiet (by rfl) (by rfl) (fun K hK => ?_); go_big_quiet_want; go_big_quiet_op; go_big_quiet_on; refine wpQuiet_nil (hK _ ?_); clear hK K) | (refine wpG_nilOk rfl rfl rfl (by kernel_rfl) (fun K hK => ?_); go_simp; refine hK _ ?_; clear hK K)))
      refine wpG_known (kOwnV recS 0 VL) rfl (by kernel_rfl) (fun w' G hB hS hG => ?_) (fun x K hK => ?_)
      ·go_simp
       refine (HOK.out w' (bt HBX.out hB)).mono ?_
       rintro e w'' ⟨⟨u,rfl,ho⟩,hB2⟩
       obtain ⟨ua,uc,rfl⟩:=owns_slice ho
       exact ⟨_,rfl,hG (ua,uc) w'' hB2 (fun φ h => by cases h; exact ho.mono (Nat.zero_le _))⟩
      obtain ⟨ad,c⟩:=x; go_simp; refine hK _ ?_; clear hK K; (repeat (first | (refine wpG_skip (by kernel_rfl) (fun K hK => ?_); go_big_quiet_skip; refine wpQuiet_nil (hK _ ?_); clear hK K) | (refine wpG_quiet (by rfl) (by rfl) (fun K hK => ?_); go_big_quiet_want; go_big_quiet_op; go_big_quiet_on; refine wpQuiet_nil (hK _ ?_); clear hK K) | (refine wpG_nilOk rfl rfl rfl (by kernel_rfl) (fun K hK => ?_); go_simp; refine hK _ ?_; clear hK K)))
      refine wpG_exact rfl (by kernel_rfl) (fun w' G hB hS hG => ?_) (fun K hK => ?_)
      ·have hown0 : recS.Own w' 0 (.slice ad VL.length c) VL:=at0 hS (by kernel_rfl)
       have hu:=HVK.out _ w' (bt HBX.out hB) hown0.row
       go_simp
       exact calls_told hG hu
      go_simp; refine hK _ ?_; clear hK K; (repeat (first | (refine wpG_skip (by kernel_rfl) (fun K hK => ?_); go_big_quiet_skip; refine wpQuiet_nil (hK _ ?_); clear hK K) | (refine wpG_quiet (by rfl) (by rfl) (fun K hK => ?_); go_big_quiet_want; go_big_quiet_op; go_big_quiet_on; refine wpQuiet_nil (hK _ ?_); clear hK K) | (refine wpG_nilOk rfl rfl rfl (by kernel_rfl) (fun K hK => ?_); go_simp; refine hK _ ?_; clear hK K)))
      refine wpG_nilFE ?_
      intro w7 hB7 hA7
      have HB7:=Lib.hid (bt HB4.out hB7)
      have HO7:=Lib.hid (HO.out.below hB7)
      have HS7:=Lib.hid (show w3.heap.size ≤ w7.heap.size from Nat.le_trans HB4.out.size hB7.size)
      have e7:=Below.keeps hB7 e1'
      clear hA7 hB7 e1'
      by_cases hz : R.2 = 0
      ·have t1 : ((R.2 : Int) != 0) = false:=by rw [hz]; rfl
       have HQ:=Lib.hid (show keysV j rows out (key :: KS.drop (k + 1)) = keysV j rows (out ++ [(key,R.1)]) (KS.drop (k + 1)) by rw [HR2.out,← HRK.out]; exact keysV_on (by rw [HRK.out,← HR2.out]; exact hz))
       clear hz
       go_wp2_with (at_builtin; go_must (refine recKv.append1 w7 (key,R.1) rfl _ _ 37 rfl Tryz.underlying37 w3.heap.size _ out HO7.out rfl _ rfl _ rfl _ rfl HBY.out HS7.out ?_); intro g cap w8 hown8 hB8; have HO8:=Lib.hid hown8; have HB8:=Lib.hid hB8; clear hown8 hB8)
       go_roundw
       case rel => exact ⟨k + 1,out ++ [(key,R.1)],HHH.out,by rw [List.length_append]; simp; omega,by go_num,by first | exact HO8.out | (rw [List.length_append]; exact HO8.out),(show keysV j rows (out ++ [(key,R.1)]) (KS.drop (k + 1)) = keysV j rows [] KS by rw [← HQ.out,← HD.out]; exact HKV.out),HB7.out.trans HB8.out⟩
       case measure => have:=HHH.out; simp [intOf]; omega
      ·have t1 : ((R.2 : Int) != 0) = true:=by rw [bne_iff_ne]; omega
       have HQ:=Lib.hid (show keysV j rows out (key :: KS.drop (k + 1)) = ([],key,R.2) by rw [HR2.out,← HRK.out]; exact keysV_bad (by rw [HRK.out,← HR2.out]; exact hz))
       clear hz
       go_wp2_with fail
       go_quiet (fail)
       go_wp2_with fail
       go_ret3
       rw [HR.out,← HKV.out,HD.out,HQ.out]
       exact ⟨⟨_,rfl,Rec.Own.nil _ _⟩,bt HBW.out (bt HB7.out (Below.drewN' _ _))⟩
     ·have i1 : ¬ (k : Int) < (KS.length : Int):=by omega
      have HE:=Lib.hid (show keysV j rows [] KS = (out,[],0) by rw [← HKV.out,List.drop_eq_nil_of_le (by omega)]; rfl)
      clear h0
      go_wp2_with fail
      go_ret3
      rw [HR.out,HE.out]
      exact ⟨⟨_,rfl,HO.out.mono HBW.out.size⟩,bt HBW.out HB4.out⟩
 ·have hno : mayJ j = false:=by cases q : mayJ j with
   | false => rfl
   | true => exact absurd q hmy
  rw [hno] at HMAY
  have HR:=Lib.hid (show rowsJ j rows = ([],[],2) from if_neg hmy)
  clear hmy hno
  go_wp2_with (go_at_call 30; refine (HMAY.out _ HB1.out).mono ?_; rintro e w2 ⟨rfl,hB2⟩; have HB2:=Lib.hid (bt HB1.out hB2); clear hB2)
  go_ret3
  rw [HR.out]
  exact ⟨⟨_,rfl,Rec.Own.nil _ _⟩,HB2.out⟩
end Go.Proofs.YtehllcbnheicoaaGreatDoor
namespace Go.Proofs.YtehllcbnheicoaaGreatDoor
open Go.RowKit
section
variable {F : Fence} {n : Nat} {P : Program} {α : Type}
def IterG (F : Fence) (n : Nat) (P : Program) (gf : Nat) (lb : Array Value) (Xr Yr : World → World → Prop) (Fin : World → Prop) (El : α → Array Value → World → Prop) (out : List α) (W : World) : Prop :=
 ∀ (l : Nat) (J Jx : List α → World → Prop),
  (∀ pre U U',J pre U → Xr U U' → J pre U') → (∀ pre U U',Jx pre U → Xr U U' → Jx pre U') →
  (∀ pre x vs U,J pre U → El x vs U → pre ++ [x] <+: out → YieldAt F (n - 1) P l vs U fun e U' =>
   (e = .returned (.bool true) ∧ J (pre ++ [x]) U' ∧ Yr U U') ∨ (e = .returned (.bool false) ∧ Jx (pre ++ [x]) U')) →
  J [] W → CallsIn F n P gf (#[.func (.yield l) #[] #[]] ++ lb) W fun e W' => (∃ v,e = .returned v) ∧ ((J out W' ∧ Fin W') ∨ ∃ pre,pre <+: out ∧ Jx pre W')
def KeepD (D : Nat) (U U' : World) : Prop:=∀ k,k = D ∨ k = D + 1 → k < U.heap.size → U'.heap[k]? = U.heap[k]?
theorem KeepD.at {D : Nat} {U U' : World} (h : KeepD D U U') {k : Nat} {o : Obj} (hk : k = D ∨ k = D + 1) (ho : U.heap[k]? = some o) : U'.heap[k]? = some o :=
 (h k hk (Array.getElem?_eq_some_iff.1 ho).1).trans ho
theorem KeepD.of_chg {D : Nat} {X : Nat → Prop} {U U' : World} (h : Chg X U U') (hX : ∀ k,k = D ∨ k = D + 1 → ¬ X k) : KeepD D U U':=fun k hk hlt => h.block k hlt (hX k hk)
def rangeEndG (D : Nat) (Yr : World → World → Prop) (I : List α → World → Prop) (Ix : Code → List α → World → Prop) (pre : List α) (U : World) : Exit → Act → World → Prop
 | .normal,_,U' => KeepD D U U' ∧ Yr U U' ∧ I pre U'
 | .ret,_,U' => KeepD D U U' ∧ Ix .ret pre U'
 | .exit id,_,U' => KeepD D U U' ∧ Ix (.exit id) pre U'
 | .goto t,_,U' => KeepD D U U' ∧ Ix (.goto t) pre U'
 | .panic _,_,_ => False
 | .outgrown,_,_ => False
end
end Go.Proofs.YtehllcbnheicoaaGreatDoor
