/- Lemmas for FoldTells, part 37: walks of the functions that it reaches, and the plain laws behind them. -/
import Derived.Test.YtehllcbnheicoaaGreatDoorFoldTellsK35
import Derived.Test.YtehllcbnheicoaaGreatDoorFoldTellsK36
set_option linter.unusedSimpArgs false
set_option linter.unusedVariables false
set_option maxRecDepth 100000
set_option maxHeartbeats 16000000
namespace Go.Proofs.YtehllcbnheicoaaGreatDoor
open Go.RowKit Oct
attribute [local irreducible] wpG
theorem RM.newX {base G : Nat} {w w3 : World} {f : Rf} {at_ : Int} {st rg : List RV} {los : List Lo} {pr : List (List UInt8 × List UInt8)} {sv lv prv trv trv' : Value} {tr l : List Int} (h : RM base w G f at_ st rg los pr sv lv prv [ownPt recJ trv tr])
  (hc : Chg (fun k => trv.ownBlock = some k) w w3) (hg : ∀ k,trv'.ownBlock = some k → trv.ownBlock = some k ∨ w.heap.size ≤ k) (ho : recJ.Own w3 base trv' l) : RM base w3 G f at_ st rg los pr sv lv prv [ownPt recJ trv' l] ∧ Below base w w3 :=
 ⟨⟨h.gb,h.rl,h.sep.upd (i:=5) rfl hc (fun k hk => hk) (ownPt recJ trv' l) ho hg⟩,h.sep.updB (i:=5) rfl hc (fun k hk => hk) h.size⟩
theorem RM.addX {base G : Nat} {w : World} {f : Rf} {at_ : Int} {st rg : List RV} {los : List Lo} {pr : List (List UInt8 × List UInt8)} {sv lv prv : Value} (h : RM base w G f at_ st rg los pr sv lv prv []) : RM base w G f at_ st rg los pr sv lv prv [ownPt recJ (.slice none 0 0) []] :=
 ⟨h.gb,h.rl,h.sep.snoc (Below.refl _ _) (ownPt recJ (.slice none 0 0) []) (Rec.Own.nil _ _) (fun k hk => by cases hk)⟩
theorem results_cell_tmp2N {P : Program} {fn : Func} {p u u2 : Tmp} {ty : TypeId} {tmps : Array Value} {w : World} {v : Value} {b : Nat} (hr : fn.results = #[.cell p ty,.tmp u,.tmp u2]) (hp : tmps.getD p undef = .pointer (some ⟨b,0,none⟩))
  (hl : (loadVar ty ⟨b,0,none⟩).run P w = .ok v w) : (results fn tmps).run P w = .ok (.tuple #[v,tmps.getD u undef,tmps.getD u2 undef]) w:=by
 simp only [Array.getD_eq_getD_getElem?] at hp ⊢
 simp [results,hr,Sem.run_bind,Result.andThen,hp,asAddr,hl]
def RRes (B : Nat) (r : Nat × List (List UInt8 × List UInt8) × List UInt8) (e : Ending) (w : World) : Prop :=
 ∃ pv n tr,e = .returned (.tuple #[.agg #[pv,.string (bs r.2.2),.int .i64 n],tr,.int .i64 (r.1 : Int)]) ∧ recKq.Row w pv r.2.1 ∧ ∀ k,pv.ownBlock = some k → B ≤ k
theorem rRun_any (tv cv iv : Value) (texts : List (List UInt8)) (code : List VI) (role : UInt8) (ins : List (List UInt8)) (F : Nat) (w : World) (ht : recS.Row w tv texts) (hc : recIns.Row w cv code) (hi : recS.Row w iv ins) (hlt : texts.length ≤ 1000) (hcl : code.length ≤ 5000)
  (hm : ∀ s ∈ texts,s.length ≤ 140737488355328) (hGl : GlobV w) (hyes : askRun texts code role ins (F : Int) = true) :
  Calls Tryz.prog 111 #[.agg #[tv,cv],.int .u8 (role.toNat : Int),iv,.int .i64 (F : Int)] w fun e w' => RRes w.heap.size (vmV texts code role ins (F : Int)) e w' ∧ Below w.heap.size w w':=by
 have HNEW:=Lib.hid (fun w' (hB : Below w.heap.size w w') => rNew_any tv cv iv texts code role ins (F : Int) w' (ht.below hB) (hc.below hB) (hi.below hB) hlt hcl hm (hGl.below hB) hyes)
 obtain ⟨a1,a2,a3,a4,a5⟩:=askRun_ok hyes
 have hg:=(goodM_of a1 a2 a5).1
 have hF6 : F ≤ 65536:=by omega
 have hc256 : code.length ≤ 256:=by
  obtain ⟨hm,-⟩:=throughV_ok a1
  unfold mayV at hm
  simp only [Bool.and_eq_true,decide_eq_true_eq] at hm
  exact hm.1.1.2
 have HV:=Lib.hid (vmV_yes hyes)
 rw [Int.toNat_natCast] at HV
 have HST:=Lib.hid (ran_stack hyes F)
 have hown:=ownN_ok hg
 obtain ⟨E,hE⟩ : ∃ E : Me,E = ⟨texts,code,ins,(throughV texts code role).2.2.ends⟩:=⟨_,rfl⟩
 have hEc : E.code = code:=by rw [hE]
 have hEe : E.ends = (throughV texts code role).2.2.ends:=by rw [hE]
 rw [← hE,← hEe] at HNEW
 rw [← hE] at hg HV HST hown
 rw [hEc] at hown
 obtain ⟨at_,ct,rfl,-,-⟩:=recS_open ht
 obtain ⟨ac,cc,rfl,-,-⟩:=recIns_open hc
 obtain ⟨ai,ci,rfl,-,-⟩:=recS_open hi
 obtain ⟨B4,hB4⟩ : ∃ B4,B4 = w.heap.size:=⟨_,rfl⟩
 obtain ⟨W1,hW1⟩ : ∃ W1,W1 = (w.alloc (.cells #[.slice at_ texts.length ct,.slice ac code.length cc] 25)).alloc (.cells #[.slice none 0 0,.string ⟨#[]⟩,.int .i64 0] 109):=⟨_,rfl⟩
 have hb1 : Below w.heap.size w W1:=by rw [hW1]; exact bt (b_alloc _ _) (b_alloc _ _)
 have hs1 : (w.alloc (.cells #[.slice at_ texts.length ct,.slice ac code.length cc] 25)).heap.size = B4 + 1:=by rw [hB4]; exact size_alV _ _
 have hx : Blk W1 B4 25 [.slice at_ texts.length ct,.slice ac code.length cc]:=by rw [hB4,hW1]; exact (Blk.new w _ _).below (b_alloc _ _)
 have hy : Blk W1 (B4 + 1) 109 [.slice none 0 0,.string ⟨#[]⟩,.int .i64 0]:=by rw [hW1,← hs1]; exact Blk.new _ _ _
 have hsz : W1.heap.size = B4 + 2:=by rw [hW1,size_alV,hs1]
 have x0:=hx.cell (k:=0) rfl
 have x1:=hx.cell (k:=1) rfl
 have HB1:=Lib.hid hb1
 have HX:=Lib.hid hx
 have HY:=Lib.hid hy
 have HB4:=Lib.hid hB4
 have HSZ:=Lib.hid hsz
 have HG:=Lib.hid hg
 have HOWN:=Lib.hid hown
 have HE:=Lib.hid hE
 have HEC:=Lib.hid hEc
 go_enter Tryz.func111,Tryz.ntmps111
 go_upto_region 1 with fail
 rw [← hW1,← hB4]
 clear hW1 hB4 ht hc hi hGl hb1 hx hy hs1 hsz hyes hm a1 a2 a3 a4 a5 hg hE hEc hEe hown
 go_upto_region 2 with (go_at_call 152; refine (HNEW.out _ HB1.out).mono ?_; rintro e w2 ⟨⟨G,ev,ow,rfl,hle,hRS,hEnv⟩,hB2⟩)
 have HB2:=Lib.hid (bt HB1.out hB2)
 have hle : B4 + 2 ≤ G:=by rw [← HSZ.out]; exact hle
 have HX2:=Lib.hid (HX.out.below hB2)
 have HY2:=Lib.hid (HY.out.below hB2)
 have HENV:=Lib.hid hEnv
 have H0 : Hid (RS G w2 G ⟨.slice at_ texts.length ct,.slice ac code.length cc,.slice ai ins.length ci,ev,ow⟩ [ownPt recJ (.slice none 0 0) []] (stS 0 [] (List.replicate 8 (0,[])) [] [])):=by
  obtain ⟨a,s,r,l,p,sv,lv,prv,h1,h2⟩:=hRS
  exact ⟨a,s,r,l,p,sv,lv,prv,h1.addX,h2⟩
 have HLE:=Lib.hid hle
 have HGS:=Lib.hid hRS.size
 clear HNEW hB2 hEnv hRS hle x0 x1 HX HY
 go_wp2_with fail
 go_loopw [12] (fun t wr => ∃ (m : Mc) (tr : List Int) (ta : Option Addr) (tc : Nat),t = .slice ta tr.length tc ∧ Hid (tr.length ≤ F) ∧ Hid (RS G wr G ⟨.slice at_ texts.length ct,.slice ac code.length cc,.slice ai ins.length ci,ev,ow⟩ [ownPt recJ (.slice ta tr.length tc) tr] (stS (m.pc : Int) m.st m.rg m.op m.pr)) ∧
  Hid (OkM (sM texts.length (inputsV role) role E) E m) ∧ Hid (runM E (F - tr.length) m = runM E F startM) ∧ Hid (Below G w2 wr)) (fun t _ => F - slenW (some t))
 case atStart => exact ⟨startM,[],none,0,rfl,Nat.zero_le _,H0.out,startM_ok,rfl,Below.refl _ _⟩
 case round =>
  obtain ⟨m,tr,ta,tc,rfl,HTR,HRS,HOK,HRUN,HBW⟩:=hrel
  obtain ⟨pc,st,rg,op,pr⟩:=m
  dsimp only at HRS
  obtain ⟨_,s0,r0,los,pr,sv,lv,prv,hm,rfl,hs,hr,hl,rfl⟩:=HRS.out
  have c5 : wr.cell? ⟨G,5,none⟩ = some (.int .i64 (pc : Int)):=hm.cell (k:=5) rfl
  have x1:=(HX2.out.low HBW.out (by have:=HLE.out; omega)).cell (k:=1) rfl
  have i1 : (code.length : Int) ≤ 256:=by omega
  have i2 : (pc : Int) ≤ (code.length : Int):=by have:=HOK.out.pc; rw [HEC.out] at this; show (pc : Int) ≤ _; simp at this; omega
  have i3 : (tr.length : Int) ≤ 65536:=by have:=HTR.out; omega
  have HM:=Lib.hid hm
  have HY3:=Lib.hid (HY2.out.low HBW.out (by have:=HLE.out; omega))
  have HSS:=Lib.hid hs
  have HRR:=Lib.hid hr
  have HLL:=Lib.hid hl
  have HWR:=Lib.hid (show Below w.heap.size w wr from HB2.out.trans (HBW.out.mono (by have:=HLE.out; have:=HB4.out; omega)))
  have HHI:=Lib.hid hlt
  have HC6:=Lib.hid hc256
  clear hm hs hr hl
  by_cases hpc : pc < code.length
  ·have i4 : (pc : Int) < (code.length : Int):=by omega
   have HPC:=Lib.hid (show pc < E.code.length by rw [HEC.out]; exact hpc)
   by_cases hf : F ≤ tr.length
   ·have i5 : (F : Int) ≤ (tr.length : Int):=by omega
    have HD:=Lib.hid (show (runM E F startM).1 = 140 by
     have:=HRUN.out
     rw [show F - tr.length = 0 by omega,runM_fuel _ HPC.out] at this
     rw [← this])
    have HRV:=Lib.hid (show vmV texts code role ins (F : Int) = (140,[],[]) by rw [HV.out]; unfold ranV; rw [HD.out]; rfl)
    go_wp2_with fail
    go_quiet (fail)
    obtain ⟨U,hU⟩ : ∃ U,U = wr.drewN nq:=⟨_,rfl⟩
    have hbd : Below wr.heap.size wr U:=by rw [hU]; exact Below.drewN' _ _
    rw [← hU]
    have hyU:=HY3.out.below hbd
    have y0:=hyU.cell (k:=0) rfl
    have y1:=hyU.cell (k:=1) rfl
    have y2:=hyU.cell (k:=2) rfl
    have k0:=hyU.free (k:=0) (by simp)
    have k1:=hyU.free (k:=1) (by simp)
    have k2:=hyU.free (k:=2) (by simp)
    have HYU:=Lib.hid hyU
    have HBA:=Lib.hid (HWR.out.trans (hbd.mono HWR.out.size))
    clear hyU hbd hU c5 x1
    go_wp2_with fail
    obtain ⟨hy3,hc3⟩:=ran_store HYU.out (.slice none 0 0) (.string ⟨#[]⟩) (.int .i64 0)
    refine bodyPost_ret (results_cell_tmp2N rfl rfl (load_ran (hy3.cell (k:=0) rfl) (hy3.cell (k:=1) rfl) (hy3.cell (k:=2) rfl))) rfl ?_
    rw [HRV.out]
    exact ⟨⟨_,_,_,rfl,Rec.Row.nil _,fun k hk => by cases hk⟩,HBA.out.trans (hc3.below (fun k hk => by rw [show k = B4 + 1 from hk,HB4.out]; exact Nat.le_succ _) HBA.out.size)⟩
   ·have i5 : ¬ (F : Int) ≤ (tr.length : Int):=by omega
    go_wp2_with fail
    go_quiet (fail)
    go_upto_region 6 with fail
    obtain ⟨U,hU⟩ : ∃ U,U = wr.drewN nq:=⟨_,rfl⟩
    have hbd : Below wr.heap.size wr U:=by rw [hU]; exact Below.drewN' _ _
    rw [← hU]
    have hmU:=HM.out.below hbd
    have c5 : U.cell? ⟨G,5,none⟩ = some (.int .i64 (pc : Int)):=hmU.cell (k:=5) rfl
    have hot : recJ.Own U G (.slice ta tr.length tc) tr:=hmU.loc (p:=ownPt recJ (.slice ta tr.length tc) tr) (by simp)
    have hgb : G ≤ U.heap.size:=hmU.size
    have hGl : G < U.heap.size:=hmU.blk.lt
    have hby : (tr.length + 1) * 8 ≤ 140737488355328:=by omega
    have HMU:=Lib.hid (hmU.below (b_alloc U (.cells (recJ.cells [(pc : Int)]).toArray 3)))
    have HOT:=Lib.hid hot
    have HBU:=Lib.hid ((HBW.out.trans (hbd.mono HM.out.size)).trans ((b_alloc U (.cells (recJ.cells [(pc : Int)]).toArray 3)).mono hgb))
    clear hU hbd hmU hot x1 HBW
    go_upto_region 7 with (at_builtin; go_must (refine recJ.append1V _ (pc : Int) rfl _ _ 168 rfl Tryz.underlying168 G (.slice ta tr.length tc) tr (HOT.out.below (b_alloc _ _)) rfl _ rfl (Rec.Row.new (R:=recJ) U [(pc : Int)] _).1 hby (Nat.le_trans hgb (b_alloc _ _).size) ?_); intro g gc w6 hown hc6 hg6; have hn:=HMU.out.newX hc6 (fun k hk => by cases hk; exact hg6) hown; have HN:=Lib.hid hn; clear hown hc6 hg6 hn)
    have HB6:=Lib.hid (HBU.out.trans HN.out.2)
    have hst6 : RS G w6 G ⟨.slice at_ texts.length ct,.slice ac code.length cc,.slice ai ins.length ci,ev,ow⟩ [ownPt recJ (.slice (some ⟨g,0,none⟩) (tr.length + 1) gc) (tr ++ [(pc : Int)])] (stS (pc : Int) st rg op pr):=⟨_,s0,r0,los,pr,sv,lv,prv,HN.out.1,rfl,HSS.out,HRR.out,HLL.out,rfl⟩
    have hST:=rstep_any HG.out hlt (by unfold inputsV; split <;> omega) (by rw [HEC.out]; exact hc256) HOK.out HPC.out rfl rfl hst6 (fun w' hB => HENV.out _ (HB6.out.trans hB)) HOWN.out
    have hdM : doM E (xM E ⟨pc,st,rg,op,pr⟩) ⟨pc,st,rg,op,pr⟩ = doN E (E.code.getD pc (0,0)).1.toNat (E.code.getD pc (0,0)).2 pc st rg op pr:=rfl
    have hok2:=doM_ok HG.out HOK.out HPC.out
    rw [hdM] at hok2
    have hrun2:=HRUN.out
    rw [show F - tr.length = (F - (tr.length + 1)) + 1 by omega] at hrun2
    obtain ⟨R,hR⟩ : ∃ R,R = doN E (E.code.getD pc (0,0)).1.toNat (E.code.getD pc (0,0)).2 pc st rg op pr:=⟨_,rfl⟩
    rw [← hR] at hST hdM hok2
    have HST6:=Lib.hid hST
    have HDM:=Lib.hid hdM
    have HOK2:=Lib.hid hok2
    have HRUN2:=Lib.hid hrun2
    clear hST hdM hok2 hrun2 hR hst6 c5 hgb hGl hby HMU HOT HBU
    by_cases h0 : R.1 = 0
    ·have HOK3:=Lib.hid (HOK2.out.2 h0)
     have HRUN3:=Lib.hid (show runM E (F - (tr.length + 1)) R.2 = runM E F startM by
      have:=HRUN2.out
      rwa [runM_on HPC.out (by rw [HDM.out]; exact h0),HDM.out] at this)
     rw [h0] at HST6
     have HME:=Lib.hid (show F - (tr.length + 1) < F - tr.length by omega)
     clear h0 HRUN2 HOK2 HDM
     go_wp2_with (go_at_call 153; refine HST6.out.mono ?_; rintro r w7 ⟨rfl,hst7,hB7⟩; have HST7:=Lib.hid (hst7 (by trivial)); have HB7:=Lib.hid (HB6.out.trans hB7); clear hst7 hB7)
     go_roundw
     case rel => exact ⟨R.2,tr ++ [(pc : Int)],some ⟨g,0,none⟩,gc,by rw [List.length_append]; rfl,by rw [List.length_append,List.length_singleton]; show tr.length + 1 ≤ F; omega,by rw [List.length_append]; exact HST7.out,HOK3.out,by rw [List.length_append,List.length_singleton]; exact HRUN3.out,HB7.out⟩
     case measure => exact HME.out
    ·have h1 : ((R.1 : Int) != 0) = true:=by rw [bne_iff_ne]; omega
     obtain ⟨c,hc⟩ : ∃ c,c = R.1:=⟨_,rfl⟩
     have HD:=Lib.hid (show (runM E F startM).1 = c by
      have:=HRUN2.out
      rw [runM_bad HPC.out (by rw [HDM.out]; exact h0),HDM.out] at this
      rw [← this,hc])
     rw [← hc] at h1 HST6
     have HC0:=Lib.hid (show ¬ c = 0 by rw [hc]; exact h0)
     have HRV:=Lib.hid (show vmV texts code role ins (F : Int) = (c,[],[]) by rw [HV.out]; unfold ranV; rw [HD.out,if_neg HC0.out])
     clear hc h0
     go_wp2_with (go_at_call 153; refine HST6.out.mono ?_; rintro r w7 ⟨rfl,-,hB7⟩; have hB7w:=HB6.out.trans hB7; have hyU:=HY2.out.low hB7w (by have:=HLE.out; omega); have HBA:=Lib.hid (show Below w.heap.size w w7 from HB2.out.trans (hB7w.mono (by have:=HLE.out; have:=HB4.out; omega))); have y0:=hyU.cell (k:=0) rfl; have y1:=hyU.cell (k:=1) rfl; have y2:=hyU.cell (k:=2) rfl; have k0:=hyU.free (k:=0) (by simp); have k1:=hyU.free (k:=1) (by simp); have k2:=hyU.free (k:=2) (by simp); have HYU:=Lib.hid hyU; clear hyU hB7 hB7w)
     obtain ⟨hy3,hc3⟩:=ran_store HYU.out (.slice none 0 0) (.string ⟨#[]⟩) (.int .i64 0)
     refine bodyPost_ret (results_cell_tmp2N rfl rfl (load_ran (hy3.cell (k:=0) rfl) (hy3.cell (k:=1) rfl) (hy3.cell (k:=2) rfl))) rfl ?_
     rw [HRV.out]
     exact ⟨⟨_,_,_,rfl,Rec.Row.nil _,fun k hk => by cases hk⟩,HBA.out.trans (hc3.below (fun k hk => by rw [show k = B4 + 1 from hk,HB4.out]; exact Nat.le_succ _) HBA.out.size)⟩
  ·have i4 : ¬ (pc : Int) < (code.length : Int):=by omega
   have HD:=Lib.hid (show runM E F startM = (0,⟨pc,st,rg,op,pr⟩) by rw [← HRUN.out]; exact runM_end _ _ (by rw [HEC.out]; exact hpc))
   obtain ⟨hsl,-⟩:=HST.out (by rw [HD.out])
   rw [HD.out] at hsl
   dsimp only at hsl
   have HRV:=Lib.hid (show vmV texts code role ins (F : Int) = (0,pr,if role = 1 then [] else (st.headD (0,[])).2) by rw [HV.out]; unfold ranV; rw [HD.out]; rfl)
   have HSL:=Lib.hid hsl
   clear hsl hpc
   obtain ⟨_,_,⟨pa,pc',rfl⟩⟩:=HM.out.slices
   go_wp2_with fail
   go_quiet (fail)
   go_upto_region 10 with fail
   obtain ⟨U,hU⟩ : ∃ U,U = wr.drewN nq:=⟨_,rfl⟩
   have hbd : Below wr.heap.size wr U:=by rw [hU]; exact Below.drewN' _ _
   rw [← hU]
   have hmU:=HM.out.below hbd
   have c32:=hmU.cellR (k:=1) (v:=.slice pa pr.length pc') rfl
   have hGl : G < U.heap.size:=hmU.blk.lt
   have HMU:=Lib.hid hmU
   have HYU:=Lib.hid (HY3.out.below hbd)
   have HBU:=Lib.hid (HWR.out.trans (hbd.mono HWR.out.size))
   clear hU hbd hmU c5 x1
   go_upto_region 11 with fail
   obtain ⟨T,hT⟩ : ∃ T,T = U.heap.size:=⟨_,rfl⟩
   obtain ⟨Z,hZ⟩ : ∃ Z,Z = U.alloc (.cells #[.slice pa pr.length pc',.string ⟨#[]⟩,.int .i64 (tr.length : Int)] 109):=⟨_,rfl⟩
   have hTb : G ≤ T:=by rw [hT]; exact HMU.out.size
   have hmZ : RM G Z G ⟨.slice at_ texts.length ct,.slice ac code.length cc,.slice ai ins.length ci,ev,ow⟩ (pc : Int) s0 r0 los pr sv lv (.slice pa pr.length pc') ([ownPt recJ (.slice ta tr.length tc) tr] ++ [blkPt T hTb 109 [.slice pa pr.length pc',.string ⟨#[]⟩,.int .i64 (tr.length : Int)]]):=by
    subst hT
    rw [hZ]
    exact HMU.out.add [.slice pa pr.length pc',.string ⟨#[]⟩,.int .i64 (tr.length : Int)] 109
   have hbZ : Below U.heap.size U Z:=by rw [hZ]; exact b_alloc _ _
   rw [← hZ,← hT]
   have HYZ:=Lib.hid (HYU.out.below hbZ)
   have HBZ:=Lib.hid (HBU.out.trans (hbZ.mono HBU.out.size))
   have HMZ:=Lib.hid hmZ
   have hgT : ¬ T = B4 + 1:=by have:=HLE.out; omega
   have hgT' : ¬ B4 + 1 = T:=fun e => hgT e.symm
   clear hZ hT hbZ hmZ c32 hGl HMU HYU HBU
   by_cases hr : role = 1
   ·have t1 : ((role.toNat : Int) != 1) = false:=by rw [hr]; rfl
    have HRV2:=Lib.hid (show vmV texts code role ins (F : Int) = (0,pr,[]) by rw [HRV.out,if_pos hr])
    have hbl:=HMZ.out.loc (p:=blkPt T hTb 109 [.slice pa pr.length pc',.string ⟨#[]⟩,.int .i64 (tr.length : Int)]) (by simp)
    have hbl : Blk Z T 109 [.slice pa pr.length pc',.string ⟨#[]⟩,.int .i64 (tr.length : Int)]:=hbl
    have z0:=hbl.cell (k:=0) rfl
    have z1:=hbl.cell (k:=1) rfl
    have z2:=hbl.cell (k:=2) rfl
    have y0:=HYZ.out.cell (k:=0) rfl
    have y1:=HYZ.out.cell (k:=1) rfl
    have y2:=HYZ.out.cell (k:=2) rfl
    have k0:=HYZ.out.free (k:=0) (by simp)
    have k1:=HYZ.out.free (k:=1) (by simp)
    have k2:=HYZ.out.free (k:=2) (by simp)
    clear hr hbl
    go_wp2_with fail
    obtain ⟨hy3,hc3⟩:=ran_store HYZ.out (.slice pa pr.length pc') (.string (bs [])) (.int .i64 (tr.length : Int))
    refine bodyPost_ret (results_cell_tmp2N rfl rfl (load_ran (hy3.cell (k:=0) rfl) (hy3.cell (k:=1) rfl) (hy3.cell (k:=2) rfl))) rfl ?_
    rw [HRV2.out]
    refine ⟨⟨_,_,_,rfl,(HMZ.out.op.chgV hc3 (fun k hk e => ?_)).row,fun k hk => by have:=(HMZ.out.op.ltV k hk).1; have:=HLE.out; have:=HB4.out; omega⟩,HBZ.out.trans (hc3.below (fun k hk => by rw [show k = B4 + 1 from hk,HB4.out]; exact Nat.le_succ _) HBZ.out.size)⟩
    have h9:=(HMZ.out.op.ltV k hk).1
    rw [show k = B4 + 1 from e] at h9
    have:=HLE.out
    omega
   ·have t1 : ((role.toNat : Int) != 1) = true:=by
     rw [bne_iff_ne]
     intro h
     exact hr (UInt8.toNat_inj.1 (by show role.toNat = 1; omega))
    obtain ⟨v,rfl⟩ : ∃ v,s0 = [v]:=by
     have h1:=HSL.out
     unfold wantV at h1
     rw [if_neg hr,← HSS.out,List.length_map] at h1
     match s0,h1 with
     | [v],_ => exact ⟨v,rfl⟩
    have HRV2:=Lib.hid (show vmV texts code role ins (F : Int) = (0,pr,v.2.2) by rw [HRV.out,if_neg hr,← HSS.out]; rfl)
    have HP:=Lib.hid (rpop_any v HMZ.out (by simp))
    clear hr HSL HRV
    go_wp2_with (go_at_call 154; refine HP.out.mono ?_; rintro r w5 ⟨rfl,⟨sv5,hm5⟩,hB5⟩; unfold rvV; have hbl : Blk w5 T 109 [.slice pa pr.length pc',.string ⟨#[]⟩,.int .i64 (tr.length : Int)]:=hm5.loc (p:=blkPt T hTb 109 [.slice pa pr.length pc',.string ⟨#[]⟩,.int .i64 (tr.length : Int)]) (by simp); have z0:=hbl.cell (k:=0) rfl; have z1:=hbl.cell (k:=1) rfl; have z2:=hbl.cell (k:=2) rfl; have f1:=hbl.free (k:=1) (by simp); have hy5:=HYZ.out.low hB5 (by have:=HLE.out; omega); have y0:=hy5.cell (k:=0) rfl; have y1:=hy5.cell (k:=1) rfl; have y2:=hy5.cell (k:=2) rfl; have k0:=hy5.free (k:=0) (by simp); have k1:=hy5.free (k:=1) (by simp); have k2:=hy5.free (k:=2) (by simp); have HM5:=Lib.hid hm5; have HBL:=Lib.hid hbl; have HY5:=Lib.hid hy5; have HB5:=Lib.hid hB5; clear hm5 hy5 hB5 hbl)
    have hc5 : Chg (fun k => k = T) w5 (w5.setCell ⟨T,1,none⟩ (.string (bs v.2.2))):=Chg.setCell _ _ _ rfl
    have hy6:=HY5.out.chg hc5 hgT'
    obtain ⟨hm6,hb6⟩:=HM5.out.updX (i:=1) rfl hc5 (fun k hk => hk) (blkPt T hTb 109 [.slice pa pr.length pc',.string (bs v.2.2),.int .i64 (tr.length : Int)]) (HBL.out.set 1 _) (fun k hk => hk)
    obtain ⟨hy3,hc3⟩:=ran_store hy6 (.slice pa pr.length pc') (.string (bs v.2.2)) (.int .i64 (tr.length : Int))
    refine bodyPost_ret (results_cell_tmp2N rfl rfl (load_ran (hy3.cell (k:=0) rfl) (hy3.cell (k:=1) rfl) (hy3.cell (k:=2) rfl))) rfl ?_
    rw [HRV2.out]
    have hball : Below w.heap.size w (w5.setCell ⟨T,1,none⟩ (.string (bs v.2.2))):=HBZ.out.trans ((HB5.out.trans hb6).mono (by have:=HLE.out; have:=HB4.out; omega))
    refine ⟨⟨_,_,_,rfl,(hm6.op.chgV hc3 (fun k hk e => ?_)).row,fun k hk => by have:=(hm6.op.ltV k hk).1; have:=HLE.out; have:=HB4.out; omega⟩,hball.trans (hc3.below (fun k hk => by rw [show k = B4 + 1 from hk,HB4.out]; exact Nat.le_succ _) hball.size)⟩
    have h9:=(hm6.op.ltV k hk).1
    rw [show k = B4 + 1 from e] at h9
    have:=HLE.out
    omega
theorem rMay14_any (tv cv iv : Value) (texts : List (List UInt8)) (code : List VI) (role : UInt8) (ins : List (List UInt8)) (fuel : Int) (w : World) (ht : recS.Row w tv texts) (hc : recIns.Row w cv code) (hi : recS.Row w iv ins) (hlt : texts.length ≤ 1000) (hcl : code.length ≤ 5000)
  (hm : ∀ s ∈ texts,s.length ≤ 140737488355328) (hil : ins.length ≤ 10) (his : ∀ s ∈ ins,s.length ≤ 140737488355328) (hf0 : -9223372036854775808 ≤ fuel) (hf1 : fuel ≤ 9223372036854775807) :
  Calls Tryz.prog 110 #[.agg #[tv,cv],.int .u8 (role.toNat : Int),iv,.int .i64 fuel] w fun e w' => e = .returned (.bool (askRun texts code role ins fuel)) ∧ Below w.heap.size w w':=by
 have HGO:=Lib.hid (fun w' (hB : Below w.heap.size w w') => rGo_any tv cv texts code role w' (ht.below hB) (hc.below hB) hlt hcl hm)
 obtain ⟨at_,ct,rfl,-,-⟩:=recS_open ht
 obtain ⟨ac,cc,rfl,-,-⟩:=recIns_open hc
 obtain ⟨ai,ci,rfl,-,-⟩:=recS_open hi
 have HI:=Lib.hid hi
 have HIS:=Lib.hid his
 obtain ⟨B4,hB4⟩ : ∃ B4,B4 = w.heap.size:=⟨_,rfl⟩
 obtain ⟨W1,hW1⟩ : ∃ W1,W1 = w.alloc (.cells #[.slice at_ texts.length ct,.slice ac code.length cc] 25):=⟨_,rfl⟩
 have hb1 : Below w.heap.size w W1:=by rw [hW1]; exact b_alloc _ _
 have hx : Blk W1 B4 25 [.slice at_ texts.length ct,.slice ac code.length cc]:=by rw [hB4,hW1]; exact Blk.new w _ _
 have x0:=hx.cell (k:=0) rfl
 have x1:=hx.cell (k:=1) rfl
 have HB1:=Lib.hid hb1
 go_enter Tryz.func110,Tryz.ntmps110
 go_upto_region 1 with fail
 rw [← hW1,← hB4]
 clear hW1 hB4 ht hc hi hm his hb1 hx
 go_upto_region 2 with (go_at_call 102; refine (HGO.out _ HB1.out).mono ?_; rintro e w2 ⟨⟨Gg,gb,bv,sv,ev,rfl,-⟩,hB2⟩)
 obtain ⟨e0,he0⟩ : ∃ e0,e0 = (throughV texts code role).2.1:=⟨_,rfl⟩
 have HE0:=Lib.hid he0
 rw [← he0]
 have HB2:=Lib.hid (bt HB1.out hB2)
 obtain ⟨N,hN⟩ : ∃ N,N = inputsV role:=⟨_,rfl⟩
 have HN:=Lib.hid hN
 have HIN:=Lib.hid (fun w' => rInputs_any role w')
 rw [← hN] at HIN
 clear hB2 he0 hN x0 x1
 by_cases k1 : e0 = 0
 ·have t1 : ((e0 : Int) != 0) = false:=by rw [k1]; rfl
  by_cases k2 : ins.length = N
  ·have t2 : ((ins.length : Int) != (N : Int)) = false:=bne_f k2
   by_cases k3 : fuel < 0
   ·have HF:=Lib.hid (askRun_false (texts:=texts) (code:=code) (role:=role) (ins:=ins) (fuel:=fuel) (fun h => by omega))
    clear k1 k2
    go_wp2_with (go_at_call 151; refine (HIN.out _).mono ?_; rintro r w3 ⟨rfl,rfl⟩)
    go_ret
    exact ⟨(congrArg (fun b => Ending.returned (Value.bool b)) HF.out).symm,HB2.out⟩
   ·by_cases k4 : 65536 < fuel
    ·have HF:=Lib.hid (askRun_false (texts:=texts) (code:=code) (role:=role) (ins:=ins) (fuel:=fuel) (fun h => by omega))
     clear k1 k2
     go_wp2_with (go_at_call 151; refine (HIN.out _).mono ?_; rintro r w3 ⟨rfl,rfl⟩)
     go_ret
     exact ⟨(congrArg (fun b => Ending.returned (Value.bool b)) HF.out).symm,HB2.out⟩
    ·have K1:=Lib.hid k1
     have K2:=Lib.hid k2
     have K3:=Lib.hid k3
     have K4:=Lib.hid k4
     have j1 : (ins.length : Int) ≤ 10:=by omega
     clear k1 k2
     obtain ⟨V,hV⟩ : ∃ V,V = w2:=⟨_,rfl⟩
     subst hV
     go_wp2_with (go_at_call 151; refine (HIN.out _).mono ?_; rintro r w3 ⟨rfl,hw3⟩; obtain rfl : V = w3:=hw3.symm)
     go_loopw [12] (fun t wr => ∃ k : Nat,k ≤ ins.length ∧ t = .int .i64 k ∧ wr = V ∧ Hid (∀ j (hj : j < ins.length),j < k → ins[j].length ≤ 1024)) (fun t _ => ins.length - (intOf t).toNat)
     case atStart => exact ⟨0,by omega,rfl,rfl,fun j _ h => by omega⟩
     case round =>
      obtain ⟨k,hk,rfl,hwr,HH⟩:=hrel
      obtain rfl : V = wr:=hwr.symm
      by_cases h0 : k < ins.length
      ·obtain ⟨ai',ci',hiv,-,hic⟩:=recS_open (HI.out.below HB2.out)
       obtain ⟨b,off,rfl,d0⟩:=hic k h0
       injection hiv with e1 e2 e3
       subst e1 e3
       have i0 : (0 : Int) ≤ (k : Int):=by omega
       have i1 : (k : Int) < (ins.length : Int):=by omega
       have hsl:=HIS.out _ (List.getElem_mem h0)
       obtain ⟨s,hs⟩ : ∃ s,s = ins[k]:=⟨_,rfl⟩
       rw [← hs] at d0 hsl
       have HS:=Lib.hid hs
       have hsl' : (s.length : Int) ≤ 140737488355328:=by omega
       clear hic hs
       by_cases hl : 1024 < s.length
       ·have t5 : (1024 : Int) < (s.length : Int):=by omega
        have HF:=Lib.hid (askRun_false (texts:=texts) (code:=code) (role:=role) (ins:=ins) (fuel:=fuel) (fun h => by have:=h.2.2.2.2 _ (List.getElem_mem h0); rw [← HS.out] at this; omega))
        go_wp2_with fail
        go_ret
        exact ⟨(congrArg (fun b => Ending.returned (Value.bool b)) HF.out).symm,HB2.out⟩
       ·have t5 : ¬ (1024 : Int) < (s.length : Int):=by omega
        have HL:=Lib.hid hl
        clear hl
        go_wp2_with fail
        go_roundw
        case rel => exact ⟨k + 1,by omega,by go_num,by trivial,fun j hj hjk => by
         by_cases hjk2 : j < k
         ·exact HH.out j hj hjk2
         ·obtain rfl : j = k:=by omega
          rw [← HS.out]; have:=HL.out; omega⟩
        case measure => simp [intOf]; omega
      ·have HAL:=Lib.hid (fun s (hs : s ∈ ins) => show s.length ≤ 1024 by
        obtain ⟨j,hj,rfl⟩:=List.getElem_of_mem hs
        exact HH.out j hj (by omega))
       have HF:=Lib.hid (askRun_of (texts:=texts) (code:=code) (role:=role) (ins:=ins) (fuel:=fuel) (by rw [← HE0.out]; exact K1.out) (by rw [← HN.out]; exact K2.out) (by have:=K3.out; omega) (by have:=K4.out; omega) HAL.out)
       have i1 : ¬ (k : Int) < (ins.length : Int):=by omega
       go_wp2_with fail
       go_ret
       exact ⟨(congrArg (fun b => Ending.returned (Value.bool b)) HF.out).symm,HB2.out⟩
  ·have t2 : ((ins.length : Int) != (N : Int)) = true:=bne_t k2
   have HF:=Lib.hid (askRun_false (texts:=texts) (code:=code) (role:=role) (ins:=ins) (fuel:=fuel) (fun h => by have:=HN.out; omega))
   clear k1 k2
   go_wp2_with (go_at_call 151; refine (HIN.out _).mono ?_; rintro r w3 ⟨rfl,rfl⟩)
   go_ret
   exact ⟨(congrArg (fun b => Ending.returned (Value.bool b)) HF.out).symm,HB2.out⟩
 ·have t1 : ((e0 : Int) != 0) = true:=by rw [bne_iff_ne]; omega
  have HF:=Lib.hid (askRun_false (texts:=texts) (code:=code) (role:=role) (ins:=ins) (fuel:=fuel) (fun h => by have:=HE0.out; omega))
  clear k1
  go_wp2_with fail
  go_ret
  exact ⟨(congrArg (fun b => Ending.returned (Value.bool b)) HF.out).symm,HB2.out⟩
def R15 (B : Nat) (r : Nat × List (List UInt8 × List UInt8) × List UInt8) (e : Ending) (w : World) : Prop :=
 ∃ a c n,e = .returned (.tuple #[.agg #[.slice a r.2.1.length c,.string (bs r.2.2),.int .i64 n],.int .i64 (r.1 : Int)]) ∧ recKq.Row w (.slice a r.2.1.length c) r.2.1 ∧ ∀ k,(Value.slice a r.2.1.length c).ownBlock = some k → B ≤ k
theorem rrun15_any (tv cv iv : Value) (texts : List (List UInt8)) (code : List VI) (role : UInt8) (ins : List (List UInt8)) (fuel : Int) (w : World) (ht : recS.Row w tv texts) (hc : recIns.Row w cv code) (hi : recS.Row w iv ins) (hlt : texts.length ≤ 1000) (hcl : code.length ≤ 5000)
  (hm : ∀ s ∈ texts,s.length ≤ 140737488355328) (hil : ins.length ≤ 10) (his : ∀ s ∈ ins,s.length ≤ 140737488355328) (hf0 : -9223372036854775808 ≤ fuel) (hf1 : fuel ≤ 9223372036854775807) (hGl : GlobV w) :
  Calls Tryz.prog 67 #[.agg #[tv,cv],.int .u8 (role.toNat : Int),iv,.int .i64 fuel] w fun e w' => R15 w.heap.size (vmV texts code role ins fuel) e w' ∧ Below w.heap.size w w':=by
 have HMAY:=Lib.hid (fun w' (hB : Below w.heap.size w w') => rMay14_any tv cv iv texts code role ins fuel w' (ht.below hB) (hc.below hB) (hi.below hB) hlt hcl hm hil his hf0 hf1)
 have HRUN:=Lib.hid (fun (F : Nat) (hF : askRun texts code role ins (F : Int) = true) w' (hB : Below w.heap.size w w') => rRun_any tv cv iv texts code role ins F w' (ht.below hB) (hc.below hB) (hi.below hB) hlt hcl hm (hGl.below hB) hF)
 obtain ⟨at_,ct,rfl,-,-⟩:=recS_open ht
 obtain ⟨ac,cc,rfl,-,-⟩:=recIns_open hc
 obtain ⟨ai,ci,rfl,-,-⟩:=recS_open hi
 obtain ⟨B4,hB4⟩ : ∃ B4,B4 = w.heap.size:=⟨_,rfl⟩
 obtain ⟨W1,hW1⟩ : ∃ W1,W1 = (w.alloc (.cells #[.slice at_ texts.length ct,.slice ac code.length cc] 25)).alloc (.cells #[.slice none 0 0,.string ⟨#[]⟩,.int .i64 0] 109):=⟨_,rfl⟩
 have hb1 : Below w.heap.size w W1:=by rw [hW1]; exact bt (b_alloc _ _) (b_alloc _ _)
 have hs1 : (w.alloc (.cells #[.slice at_ texts.length ct,.slice ac code.length cc] 25)).heap.size = B4 + 1:=by rw [hB4]; exact size_alV _ _
 have hx : Blk W1 B4 25 [.slice at_ texts.length ct,.slice ac code.length cc]:=by rw [hB4,hW1]; exact (Blk.new w _ _).below (b_alloc _ _)
 have hy : Blk W1 (B4 + 1) 109 [.slice none 0 0,.string ⟨#[]⟩,.int .i64 0]:=by rw [hW1,← hs1]; exact Blk.new _ _ _
 have hsz : W1.heap.size = B4 + 2:=by rw [hW1,size_alV,hs1]
 have x0:=hx.cell (k:=0) rfl
 have x1:=hx.cell (k:=1) rfl
 have HB1:=Lib.hid hb1
 have HX:=Lib.hid hx
 have HY:=Lib.hid hy
 have HB4:=Lib.hid hB4
 have HSZ:=Lib.hid hsz
 go_enter Tryz.func67,Tryz.ntmps67
 go_upto_region 1 with fail
 rw [← hW1,← hB4]
 clear hW1 hB4 ht hc hi hGl hb1 hx hy hs1 hsz hm his
 by_cases hyes : askRun texts code role ins fuel = true
 ·obtain ⟨-,-,a3,-,-⟩:=askRun_ok hyes
  obtain ⟨F,rfl⟩ : ∃ F : Nat,fuel = (F : Int):=⟨fuel.toNat,by omega⟩
  have HR:=Lib.hid (HRUN.out F hyes)
  rw [hyes] at HMAY
  obtain ⟨V,hV⟩ : ∃ V,V = vmV texts code role ins (F : Int):=⟨_,rfl⟩
  rw [← hV] at HR
  have HV:=Lib.hid hV
  clear hyes a3 hV HRUN
  go_upto_region 3 with (go_at_call 110; refine (HMAY.out _ HB1.out).mono ?_; rintro e w2 ⟨rfl,hB2⟩)
  have x0:=Below.keeps hB2 x0
  have x1:=Below.keeps hB2 x1
  have HB2:=Lib.hid (bt HB1.out hB2)
  have HY2:=Lib.hid (HY.out.below hB2)
  have HS2:=Lib.hid (show B4 + 2 ≤ w2.heap.size by rw [← HSZ.out]; exact hB2.size)
  clear hB2 HY HMAY
  go_upto_region 4 with (go_at_call 111; refine (HR.out _ HB2.out).mono ?_; rintro e w3 ⟨⟨pv,n,tr,rfl,hrow,hown⟩,hB3⟩; obtain ⟨pa,pc,rfl,-,-⟩:=Rec.Row.open hrow)
  obtain ⟨T,hT⟩ : ∃ T,T = w3.heap.size:=⟨_,rfl⟩
  obtain ⟨Z,hZ⟩ : ∃ Z,Z = w3.alloc (.cells #[.slice pa V.2.1.length pc,.string (bs V.2.2),.int .i64 n] 109):=⟨_,rfl⟩
  have hbZ : Below w3.heap.size w3 Z:=by rw [hZ]; exact b_alloc _ _
  have hbl : Blk Z T 109 [.slice pa V.2.1.length pc,.string (bs V.2.2),.int .i64 n]:=by rw [hT,hZ]; exact Blk.new _ _ _
  have hyZ:=HY2.out.below (bt hB3 hbZ)
  have HROW:=Lib.hid (hrow.below hbZ)
  have HOWN:=Lib.hid hown
  have HBZ:=Lib.hid (bt HB2.out (bt hB3 hbZ))
  have hgT : ¬ T = B4 + 1:=by have:=HS2.out; have:=hB3.size; omega
  have z0:=hbl.cell (k:=0) rfl
  have z1:=hbl.cell (k:=1) rfl
  have z2:=hbl.cell (k:=2) rfl
  have y0:=hyZ.cell (k:=0) rfl
  have y1:=hyZ.cell (k:=1) rfl
  have y2:=hyZ.cell (k:=2) rfl
  have k0:=hyZ.free (k:=0) (by simp)
  have k1:=hyZ.free (k:=1) (by simp)
  have k2:=hyZ.free (k:=2) (by simp)
  have HYZ:=Lib.hid hyZ
  rw [← hZ,← hT]
  clear hZ hT hbZ hbl hyZ hrow hown hB3 x0 x1
  go_wp2_with fail
  obtain ⟨hy3,hc3⟩:=ran_store HYZ.out (.slice pa V.2.1.length pc) (.string (bs V.2.2)) (.int .i64 n)
  refine bodyPost_ret (results_cell_tmpM rfl rfl (load_ran (hy3.cell (k:=0) rfl) (hy3.cell (k:=1) rfl) (hy3.cell (k:=2) rfl))) rfl ?_
  rw [← HV.out]
  refine ⟨⟨_,_,_,rfl,HROW.out.chgN hc3 (fun b hb e => ?_),fun k hk => Nat.le_trans HB2.out.size (HOWN.out k hk)⟩,HBZ.out.trans (hc3.below (fun k hk => by rw [show k = B4 + 1 from hk,HB4.out]; exact Nat.le_succ _) HBZ.out.size)⟩
  have h1:=HOWN.out b hb
  rw [show b = B4 + 1 from e] at h1
  have:=HS2.out
  omega
 ·have hno : askRun texts code role ins fuel = false:=by cases h : askRun texts code role ins fuel with
   | false => rfl
   | true => exact absurd h hyes
  have HN:=Lib.hid (vmV_no hno)
  rw [hno] at HMAY
  clear hyes hno HRUN
  go_wp2_with (go_at_call 110; refine (HMAY.out _ HB1.out).mono ?_; rintro e w2 ⟨rfl,hB2⟩; have hyU:=HY.out.below hB2; have y0:=hyU.cell (k:=0) rfl; have y1:=hyU.cell (k:=1) rfl; have y2:=hyU.cell (k:=2) rfl; have k0:=hyU.free (k:=0) (by simp); have k1:=hyU.free (k:=1) (by simp); have k2:=hyU.free (k:=2) (by simp); have HYU:=Lib.hid hyU; have HB2:=Lib.hid (bt HB1.out hB2); clear hyU hB2)
  obtain ⟨hy3,hc3⟩:=ran_store HYU.out (.slice none 0 0) (.string ⟨#[]⟩) (.int .i64 0)
  refine bodyPost_ret (results_cell_tmpM rfl rfl (load_ran (hy3.cell (k:=0) rfl) (hy3.cell (k:=1) rfl) (hy3.cell (k:=2) rfl))) rfl ?_
  rw [HN.out]
  exact ⟨⟨_,_,_,rfl,Rec.Row.nil _,fun k hk => by cases hk⟩,HB2.out.trans (hc3.below (fun k hk => by rw [show k = B4 + 1 from hk,HB4.out]; exact Nat.le_succ _) HB2.out.size)⟩
end Go.Proofs.YtehllcbnheicoaaGreatDoor
