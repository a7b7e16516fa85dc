/- Lemmas for FoldTells, part 31: walks of the functions that it reaches, and the plain laws behind them. -/
import Derived.Test.YtehllcbnheicoaaGreatDoorFoldTellsK14
import Derived.Test.YtehllcbnheicoaaGreatDoorFoldTellsK20
import Derived.Test.YtehllcbnheicoaaGreatDoorFoldTellsK29
set_option linter.unusedSimpArgs false
set_option linter.unusedVariables false
set_option maxRecDepth 100000
set_option maxHeartbeats 16000000
namespace Go.Proofs.YtehllcbnheicoaaGreatDoor
open Go.RowKit Oct
attribute [local irreducible] wpG
def slenW : Option Value → Nat
 | some (.slice _ n _) => n
 | _ => 0
section
variable {nt inp : Nat} {role : UInt8} {E : Me}
theorem MS.mr {base : Nat} {w : World} {Gb M : Nat} {tv cv iv ev : Value} {tr : List Int} {at_ : Int} {st rg : List MV} {op : List (Nat × List (List UInt8))} {pr : List (List UInt8 × List UInt8)} (h : MS base w Gb M E tv cv iv ev tr at_ st rg op pr) :
  ∃ eos stv opv prv a c,MR base w Gb ⟨tv,cv,iv,ev,.map (some M),[],0⟩ at_ st rg eos pr tr stv opv prv (.slice a tr.length c) [mapPq M E.code.length (cntEnd E.code E.ends E.code.length)] ∧ opsOf eos = op ∧ ∀ e ∈ eos,e.rest.length ≤ 1024:=by
 obtain ⟨eos,stv,opv,prv,trv,hm,h1,h2⟩:=h
 obtain ⟨_,_,_,a,c,rfl⟩:=hm.slices
 exact ⟨eos,stv,opv,prv,a,c,hm,h1,h2⟩
def RunAt (nt inp : Nat) (role : UInt8) (base : Nat) (w0 w : World) (Gb M : Nat) (E : Me) (tv cv iv ev : Value) (F : Nat) (tr : List Int) (m : Mc) : Prop :=
 tr.length ≤ F ∧ MS base w Gb M E tv cv iv ev tr (m.pc : Int) m.st m.rg m.op m.pr ∧ OkM (sM nt inp role E) E m ∧ runM E (F - tr.length) m = runM E F startM ∧ Below base w0 w
theorem vrun_any {base Gb M : Nat} {w : World} {tv cv iv ev : Value} (G : GoodM nt inp role E) (hnt : nt ≤ 1000) (hinp : inp ≤ 1000) (hcl : E.code.length ≤ 256) (F : Nat) (hF : F ≤ 65536)
  (hM : MS base w Gb M E tv cv iv ev [] 0 [] (List.replicate 8 (0,[])) [] []) (hE : ∀ w',Below base w w' → EnvV w' E tv cv iv ev) :
  Calls Tryz.prog 149 #[.pointer (some ⟨Gb,0,none⟩),.int .i64 (F : Int)] w fun r w' => r = .returned (.int .i64 ((runM E F startM).1 : Int)) ∧
   ((runM E F startM).1 = 0 → ∃ tr,tr.length ≤ F ∧ MS base w' Gb M E tv cv iv ev tr (E.code.length : Int) (runM E F startM).2.st (runM E F startM).2.rg (runM E F startM).2.op (runM E F startM).2.pr) ∧ Below base w w':=by
 have hS : base ≤ w.heap.size:=by obtain ⟨_,_,_,_,_,_,hm,_⟩:=hM.mr; exact hm.size
 have H0 : Hid (∃ m tr,RunAt nt inp role base w w Gb M E tv cv iv ev F tr m):=⟨startM,[],Nat.zero_le _,hM,startM_ok,rfl,Below.refl _ _⟩
 obtain ⟨ac,nc,rfl,-,-⟩:=recIns_open (hE w (Below.refl _ _)).c
 have HE:=Lib.hid hE
 have HG:=Lib.hid G
 have HS:=Lib.hid hS
 clear hM hE G hS
 go_enter Tryz.func149,Tryz.ntmps149
 go_wp2_with fail
 go_loopw [4] (fun r wr => r = .int .i64 0 ∧ Hid (∃ m tr,RunAt nt inp role base w wr Gb M E tv (.slice ac E.code.length nc) iv ev F tr m)) (fun _ wr => F - slenW (wr.cell? ⟨Gb,27,none⟩))
 case atStart => exact ⟨rfl,H0⟩
 case round =>
  obtain ⟨rfl,hR⟩:=hrel
  obtain ⟨m,tr,htr,hMS,hok,hrun,hB⟩:=hR.out
  obtain ⟨pc,st,rg,op,pr⟩:=m
  dsimp only at hMS
  obtain ⟨eos,stv,opv,prv,ta,tc,hm,hop,hre⟩:=hMS.mr
  have c5 : wr.cell? ⟨Gb,5,none⟩ = some (.int .i64 (pc : Int)):=hm.cell (k:=5) rfl
  have c1 : wr.cell? ⟨Gb,1,none⟩ = some (.slice ac E.code.length nc):=hm.cell (k:=1) rfl
  have c27 : wr.cell? ⟨Gb,27,none⟩ = some (.slice ta tr.length tc):=hm.cellR (k:=4) rfl
  have i1 : (E.code.length : Int) ≤ 256:=by omega
  have i2 : (pc : Int) ≤ (E.code.length : Int):=by have:=hok.pc; show (pc : Int) ≤ _; simp at this; omega
  have i3 : (tr.length : Int) ≤ 65536:=by omega
  have HC270:=Lib.hid c27
  have HM:=Lib.hid hm
  have HMS:=Lib.hid hMS
  have HOK:=Lib.hid hok
  have HRUN:=Lib.hid hrun
  have HB:=Lib.hid hB
  have HOP:=Lib.hid hop
  have HRE:=Lib.hid hre
  have HTR:=Lib.hid htr
  clear hm hMS hok hrun hB hop hre htr hR
  by_cases hpc : pc < E.code.length
  ·have i4 : (pc : Int) < (E.code.length : Int):=by omega
   by_cases hf : F ≤ tr.length
   ·have i5 : (F : Int) ≤ (tr.length : Int):=by omega
    have HD:=Lib.hid (show (runM E F startM).1 = 140 by
     have:=HRUN.out
     rw [show F - tr.length = 0 by omega,runM_fuel _ hpc] at this
     rw [← this])
    go_wp2_with fail
    go_quiet (fail)
    go_wp2_with fail
    go_ret
    rw [HD.out]
    exact ⟨rfl,fun h0 => absurd h0 (by decide),HB.out.trans ((Below.drewN' _ _).mono HM.out.size)⟩
   ·have i5 : ¬ (F : Int) ≤ (tr.length : Int):=by omega
    go_wp2_with fail
    go_quiet (fail)
    go_upto_region 5 with fail
    obtain ⟨W1,hW1⟩ : ∃ W1,W1 = wr.drewN nq:=⟨_,rfl⟩
    rw [← hW1]
    have hb1 : Below wr.heap.size wr W1:=by rw [hW1]; exact Below.drewN' _ _
    have hm1:=HM.out.below hb1
    have HB1:=Lib.hid (hb1.mono HM.out.size)
    have HB0:=Lib.hid HB.out
    have HSw:=Lib.hid HM.out.size
    clear hW1 hb1 c5 c1 c27 HM HMS HB
    have c5 : W1.cell? ⟨Gb,5,none⟩ = some (.int .i64 (pc : Int)):=hm1.cell (k:=5) rfl
    have c27 : W1.cell? ⟨Gb,27,none⟩ = some (.slice ta tr.length tc):=hm1.cellR (k:=4) rfl
    have hGl : Gb < W1.heap.size:=hm1.blk.lt
    have h1d:=hm1.below (b_drew W1)
    have hgb : base ≤ W1.drew.heap.size:=h1d.size
    have hby : (tr.length + 1) * 8 ≤ 140737488355328:=by omega
    have hot:=h1d.ot
    have H1D:=Lib.hid h1d
    have HM1:=Lib.hid hm1
    clear h1d hm1
    go_cut [] (fun wx => ∃ g gc,Hid (MR base wx Gb ⟨tv,.slice ac E.code.length nc,iv,ev,.map (some M),[],0⟩ (pc : Int) st rg eos pr (tr ++ [(pc : Int)]) stv opv prv (.slice (some ⟨g,0,none⟩) (tr.length + 1) gc) [mapPq M E.code.length (cntEnd E.code E.ends E.code.length)]) ∧ Hid (Below base wr wx))
    case first =>
     go_region_law (refine recJ.step_append1V W1.drew (pc : Int) rfl _ _ 168 rfl Tryz.underlying168 base (.slice ta tr.length tc) tr rfl hot _ rfl _ rfl _ rfl hby hgb ?_; intro g gc w3 hown hc hg; have hn:=H1D.out.newT (trv':=.slice (some ⟨g,0,none⟩) (tr.length + 1) gc) (l:=tr ++ [(pc : Int)]) hc (fun k hk => by cases hk; exact hg) hown; have f27:=hn.2.2.1; have c27':=hn.2.2.2; have HN:=Lib.hid hn; clear hn hown hc hg)
     all_goals
      go_wp2_with fail
      go_meet
      case rel => exact ⟨_,_,HN.out.1,(HB1.out.trans ((b_drew W1).mono HM1.out.size)).trans HN.out.2.1⟩
    case rest =>
     obtain ⟨g,gc,HMc,HBc⟩:=hcut
     clear c5 c27 hGl hgb hby hot H1D HM1
     obtain ⟨a',n',hev,-,hc⟩:=recIns_open (HE.out _ (HB0.out.trans HBc.out)).c
     obtain ⟨b,off,rfl,d0,d1⟩:=hc pc hpc
     injection hev with e1 e2 e3
     subst e1 e3
     have c5 : wc.cell? ⟨Gb,5,none⟩ = some (.int .i64 (pc : Int)):=HMc.out.cell (k:=5) rfl
     have c1 : wc.cell? ⟨Gb,1,none⟩ = some (.slice (some ⟨b,off,none⟩) E.code.length nc):=HMc.out.cell (k:=1) rfl
     have j0 : (0 : Int) ≤ (pc : Int):=by omega
     have hGl : Gb < wc.heap.size:=HMc.out.blk.lt
     have hbl : b < wc.heap.size:=lt_of_cell d0
     go_wp2_with fail
     go_region
     obtain ⟨T,hT⟩ : ∃ T,T = wc.heap.size:=⟨_,rfl⟩
     obtain ⟨V,hV⟩ : ∃ V,V = (wc.alloc (.cells #[.int .u8 (E.code[pc].1.toNat : Int),.int .u8 (E.code[pc].2.toNat : Int)] 97)).drew:=⟨_,rfl⟩
     have hX : Blk V T 97 [.int .u8 (E.code[pc].1.toNat : Int),.int .u8 (E.code[pc].2.toNat : Int)]:=by subst hT; rw [hV]; exact (Blk.new wc _ _).below (b_drew _)
     have hbV : Below wc.heap.size wc V:=by rw [hV]; exact bt (b_alloc _ _) (b_drew _)
     have x0:=hX.cell (k:=0) rfl
     have x1:=hX.cell (k:=1) rfl
     rw [← hV,← hT]
     clear hV hT hX d0 d1 c1 c5 hGl hbl
     have hgd : E.code.getD pc (0,0) = E.code[pc]:=by rw [List.getD_eq_getElem?_getD,List.getElem?_eq_getElem hpc]; rfl
     obtain ⟨n,hn⟩ : ∃ n,n = E.code[pc].1.toNat:=⟨_,rfl⟩
     obtain ⟨y,hy⟩ : ∃ y,y = E.code[pc].2:=⟨_,rfl⟩
     have hmV:=HMc.out.below hbV
     have hBV : Below base w V:=(HB0.out.trans HBc.out).trans (hbV.mono HMc.out.size)
     have hMSd : MS base V.drew Gb M E tv (.slice (some ⟨b,off,none⟩) E.code.length nc) iv ev (tr ++ [(pc : Int)]) (pc : Int) st rg op pr:=⟨eos,_,_,_,_,hmV.below (b_drew V),HOP.out,HRE.out⟩
     have hBVd : Below base w V.drew:=hBV.trans ((b_drew V).mono hmV.size)
     have hST:=step_any HG.out hnt hinp hcl HOK.out hpc (n:=n) (y:=y) (by rw [hgd]; exact hn.symm) (by rw [hgd]; exact hy.symm) hMSd (fun w' hB => HE.out _ (hBVd.trans hB))
     have hn23 : 1 ≤ n ∧ n ≤ 23:=by
      have hx : insOk (E.code.getD pc (0,0)) = true:=getD_ok (P:=fun x => insOk x = true) HG.out.may hpc _
      unfold insOk at hx
      simp only [Bool.and_eq_true,decide_eq_true_eq] at hx
      rw [hgd,← hn] at hx
      exact hx.1
     have hdM : doM E (xM E ⟨pc,st,rg,op,pr⟩) ⟨pc,st,rg,op,pr⟩ = doN E n y pc st rg op pr:=by
      show doN E (E.code.getD pc (0,0)).1.toNat (E.code.getD pc (0,0)).2 pc st rg op pr = _
      rw [hgd,← hn,← hy]
     have hdd:=(HE.out _ hBV).d n hn23.1 hn23.2
     have hcf:=does_call n hn23.1 hn23.2
     obtain ⟨F0,hF0⟩ : ∃ F0,F0 = doesL.getD n 0:=⟨_,rfl⟩
     rw [← hF0] at hST hdd hcf
     rw [← hn] at x0
     rw [← hy] at x1
     have n0 : (0 : Int) ≤ (n : Int):=by omega
     have n1 : (n : Int) < 24:=by omega
     have hTl : T < V.heap.size:=lt_of_cell x0
     have HST:=Lib.hid hST
     have HBV:=Lib.hid hBVd
     have HDM:=Lib.hid hdM
     have hok2:=doM_ok HG.out HOK.out hpc
     rw [hdM] at hok2
     have HOK2:=Lib.hid hok2
     have hrun2:=HRUN.out
     rw [show F - tr.length = (F - (tr.length + 1)) + 1 by omega] at hrun2
     obtain ⟨R,hR⟩ : ∃ R,R = doN E n y pc st rg op pr:=⟨_,rfl⟩
     rw [← hR] at HST HOK2 HDM
     have HRUN2:=Lib.hid hrun2
     clear hF0 hST hBVd hdM hok2 hrun2 hR hn hy hgd hmV hBV hMSd hbV hc
     by_cases h0 : R.1 = 0
     ·have HOK3:=Lib.hid (HOK2.out.2 h0)
      have hpc3:=HOK3.out.pc
      obtain ⟨v,hv⟩ : ∃ v,v = (R.2.pc : Int) - 1:=⟨_,rfl⟩
      have v0 : -1 ≤ v:=by omega
      have v1 : v ≤ 256:=by omega
      have HV:=Lib.hid (show v + 1 = (R.2.pc : Int) by omega)
      rw [← hv,h0] at HST
      have HRUN3:=Lib.hid (show runM E (F - (tr.length + 1)) R.2 = runM E F startM by
       have:=HRUN2.out
       rwa [runM_on hpc (by rw [HDM.out]; exact h0),HDM.out] at this)
      have hmeas : F - (tr.length + 1) < F - tr.length:=by omega
      have HME:=Lib.hid hmeas
      clear hv h0 HRUN2 HOK2 HDM hpc3 hmeas
      go_wp2_with fail
      go_region_law (refine step_callM rfl F0 #[.pointer (some ⟨Gb,0,none⟩),.int .u8 (y.toNat : Int)] (by go_simp) HST.out ?_; rintro r w7 ⟨rfl,hst7,hB7⟩; obtain ⟨eos7,sv7,ov7,pv7,ta7,tc7,hm7,hop7,hre7⟩:=(hst7 (by trivial)).mr; have c5:=hm7.cell (k:=5) rfl; have f5:=hm7.free (k:=5) (by decide); have HM7:=Lib.hid hm7; have HOP7:=Lib.hid hop7; have HRE7:=Lib.hid hre7; have HB7:=Lib.hid hB7; clear hB7 hst7 hm7 hop7 hre7)
      all_goals
       (try simp only [List.getElem_toArray,List.getElem_cons_succ,List.getElem_cons_zero])
       (try go_frame)
       go_wp2_with fail
       obtain ⟨hm8,hb8⟩:=HM7.out.setAt (v + 1)
       have c27 : (w7.setCell ⟨Gb,5,none⟩ (.int .i64 (v + 1))).cell? ⟨Gb,27,none⟩ = some (.slice ta7 (tr ++ [(pc : Int)]).length tc7):=hm8.cellR (k:=4) rfl
       have HM8:=Lib.hid hm8
       have HB8:=Lib.hid ((HBV.out.trans HB7.out).trans hb8)
       have HC27:=Lib.hid c27
       clear hm8 hb8 c27
       go_roundw
       case rel => exact ⟨rfl,R.2,tr ++ [(pc : Int)],by rw [List.length_append,List.length_singleton]; omega,⟨eos7,_,_,_,_,by rw [← HV.out]; exact HM8.out,HOP7.out,HRE7.out⟩,HOK3.out,by rw [List.length_append,List.length_singleton]; exact HRUN3.out,HB8.out⟩
       case measure => rw [HC27.out,HC270.out]; show F - (tr ++ [(pc : Int)]).length < F - tr.length; rw [List.length_append,List.length_singleton]; exact HME.out
     ·have h1 : ((R.1 : Int) != 0) = true:=by rw [bne_iff_ne]; omega
      obtain ⟨c,hc⟩ : ∃ c,c = R.1:=⟨_,rfl⟩
      have HD:=Lib.hid (show (runM E F startM).1 = c by
       have:=HRUN2.out
       rw [runM_bad hpc (by rw [HDM.out]; exact h0),HDM.out] at this
       rw [← this,hc])
      rw [← hc] at h1 HST
      have HC0:=Lib.hid (show ¬ c = 0 by rw [hc]; exact h0)
      clear hc h0
      go_wp2_with fail
      go_region_law (refine step_callM rfl F0 #[.pointer (some ⟨Gb,0,none⟩),.int .u8 (y.toNat : Int)] (by go_simp) HST.out ?_; rintro r w7 ⟨rfl,-,hB7⟩; have HB7:=Lib.hid hB7; clear hB7)
      all_goals
       (try simp only [List.getElem_toArray,List.getElem_cons_succ,List.getElem_cons_zero])
       (try go_frame)
       go_wp2_with fail
       go_ret
       rw [HD.out]
       exact ⟨rfl,fun h0 => absurd h0 HC0.out,HBV.out.trans HB7.out⟩
  ·have i4 : ¬ (pc : Int) < (E.code.length : Int):=by omega
   have HD:=Lib.hid (show runM E F startM = (0,⟨pc,st,rg,op,pr⟩) by rw [← HRUN.out]; exact runM_end _ _ hpc)
   have HPC:=Lib.hid (show (pc : Int) = (E.code.length : Int) by omega)
   go_wp2_with fail
   go_quiet (fail)
   go_wp2_with fail
   go_ret
   have hbd : Below wr.heap.size wr (wr.drewN nq):=Below.drewN' _ _
   rw [HD.out]
   refine ⟨rfl,fun _ => ⟨tr,HTR.out,eos,stv,opv,prv,.slice ta tr.length tc,?_,HOP.out,HRE.out⟩,HB.out.trans (hbd.mono HM.out.size)⟩
   rw [← HPC.out]
   exact HM.out.below hbd
end
end Go.Proofs.YtehllcbnheicoaaGreatDoor
namespace Go.Proofs.YtehllcbnheicoaaGreatDoor
open Go.RowKit
structure Jb where
 mt : List (List UInt8)
 mc : List VI
 jt : List (List UInt8)
 jc : List VI
 tt : List (List UInt8)
 tc : List VI
 parts : Int
 fuel : Int
def checkJ (j : Jb) : Nat × Nat × Nat :=
 if (throughV j.mt j.mc 1).2.1 ≠ 0 then (1,(throughV j.mt j.mc 1).1,(throughV j.mt j.mc 1).2.1)
 else if (throughV j.jt j.jc 2).2.1 ≠ 0 then (2,(throughV j.jt j.jc 2).1,(throughV j.jt j.jc 2).2.1)
 else if (throughV j.tt j.tc 3).2.1 ≠ 0 then (3,(throughV j.tt j.tc 3).1,(throughV j.tt j.tc 3).2.1)
 else if j.parts < 1 ∨ 16 < j.parts ∨ j.fuel < 1 ∨ 65536 < j.fuel then (0,0,2) else (0,0,0)
def mayJ (j : Jb) : Bool:=(checkJ j).2.2 == 0
def askRun (texts : List (List UInt8)) (code : List VI) (role : UInt8) (ins : List (List UInt8)) (fuel : Int) : Bool :=
 (throughV texts code role).2.1 == 0 && ins.length == inputsV role && decide (0 ≤ fuel ∧ fuel ≤ 65536) && ins.all fun s => decide (s.length ≤ 1024)
def vmV (texts : List (List UInt8)) (code : List VI) (role : UInt8) (ins : List (List UInt8)) (fuel : Int) : Nat × List (List UInt8 × List UInt8) × List UInt8 :=
 if askRun texts code role ins fuel = true then ranV ⟨texts,code,ins,(throughV texts code role).2.2.ends⟩ role fuel.toNat else (2,[],[])
theorem vmV_no {texts : List (List UInt8)} {code : List VI} {role : UInt8} {ins : List (List UInt8)} {fuel : Int} (h : askRun texts code role ins fuel = false) : vmV texts code role ins fuel = (2,[],[]):=by
 unfold vmV; rw [if_neg (by rw [h]; simp)]
theorem vmV_yes {texts : List (List UInt8)} {code : List VI} {role : UInt8} {ins : List (List UInt8)} {fuel : Int} (h : askRun texts code role ins fuel = true) : vmV texts code role ins fuel = ranV ⟨texts,code,ins,(throughV texts code role).2.2.ends⟩ role fuel.toNat:=by
 unfold vmV; rw [if_pos h]
theorem askRun_ok {texts : List (List UInt8)} {code : List VI} {role : UInt8} {ins : List (List UInt8)} {fuel : Int} (h : askRun texts code role ins fuel = true) : (throughV texts code role).2.1 = 0 ∧ ins.length = inputsV role ∧ 0 ≤ fuel ∧ fuel ≤ 65536 ∧ ∀ s ∈ ins,s.length ≤ 1024:=by
 unfold askRun at h
 simp only [Bool.and_eq_true,beq_iff_eq,decide_eq_true_eq,List.all_eq_true] at h
 obtain ⟨⟨⟨h1,h2⟩,h3,h4⟩,h5⟩:=h
 exact ⟨h1,h2,h3,h4,h5⟩
theorem askRun_of {texts : List (List UInt8)} {code : List VI} {role : UInt8} {ins : List (List UInt8)} {fuel : Int} (h1 : (throughV texts code role).2.1 = 0) (h2 : ins.length = inputsV role) (h3 : 0 ≤ fuel) (h4 : fuel ≤ 65536) (h5 : ∀ s ∈ ins,s.length ≤ 1024) : askRun texts code role ins fuel = true:=by
 unfold askRun
 simp only [Bool.and_eq_true,beq_iff_eq,decide_eq_true_eq,List.all_eq_true]
 exact ⟨⟨⟨h1,h2⟩,h3,h4⟩,h5⟩
end Go.Proofs.YtehllcbnheicoaaGreatDoor
