/- Lemmas for FoldTells, part 36: walks of the functions that it reaches, and the plain laws behind them. -/
import Derived.Test.YtehllcbnheicoaaGreatDoorFoldTellsK32
set_option linter.unusedSimpArgs false
set_option linter.unusedVariables false
set_option maxRecDepth 100000
set_option maxHeartbeats 16000000
namespace Go.Proofs.YtehllcbnheicoaaGreatDoor
open Go.RowKit Oct
attribute [local irreducible] wpG
section
variable {base G : Nat} {w w' w3 : World} {f : Mf} {at_ : Int} {st rg : List MV} {eos : List Eo} {pr : List (List UInt8 × List UInt8)} {tr : List Int} {stv opv prv trv : Value} {X : List (Pt base)}
theorem MR.setSn (h : MR base w G f at_ st rg eos pr tr stv opv prv trv X) (n : Int) : MR base (w.setCell ⟨G,26,none⟩ (.int .i64 n)) G { f with sn:=n } at_ st rg eos pr tr stv opv prv trv X ∧ Below base w (w.setCell ⟨G,26,none⟩ (.int .i64 n)):=by
 have hs : Chg (fun k => k = G) w (w.setCell ⟨G,26,none⟩ (.int .i64 n)):=Chg.setCell _ _ _ rfl
 have hcs : (mCells f at_ stv rg opv prv f.tx f.sn trv).set 26 (.int .i64 n) = mCells { f with sn:=n } at_ stv rg opv prv f.tx n trv:=by
  obtain ⟨a,b,c,d,e,f',g,j,hr⟩:=eightM h.rl
  rw [hr]; rfl
 have hb:=h.blk.set 26 (.int .i64 n)
 rw [hcs] at hb
 have s2:=h.sep.upd (i:=0) rfl hs (fun k hk => hk) (blkPt G h.gb 227 (mCells { f with sn:=n } at_ stv rg opv prv f.tx n trv)) hb (fun k hk => .inl hk)
 exact ⟨⟨h.gb,h.rl,s2⟩,h.sep.updB (i:=0) rfl hs (fun k hk => hk) h.size⟩
theorem MR.setTx (h : MR base w G f at_ st rg eos pr tr stv opv prv trv X) (s : List UInt8) : MR base (w.setCell ⟨G,25,none⟩ (.string (bs s))) G { f with tx:=s } at_ st rg eos pr tr stv opv prv trv X ∧ Below base w (w.setCell ⟨G,25,none⟩ (.string (bs s))):=by
 have hs : Chg (fun k => k = G) w (w.setCell ⟨G,25,none⟩ (.string (bs s))):=Chg.setCell _ _ _ rfl
 have hcs : (mCells f at_ stv rg opv prv f.tx f.sn trv).set 25 (.string (bs s)) = mCells { f with tx:=s } at_ stv rg opv prv s f.sn trv:=by
  obtain ⟨a,b,c,d,e,f',g,j,hr⟩:=eightM h.rl
  rw [hr]; rfl
 have hb:=h.blk.set 25 (.string (bs s))
 rw [hcs] at hb
 have s2:=h.sep.upd (i:=0) rfl hs (fun k hk => hk) (blkPt G h.gb 227 (mCells { f with tx:=s } at_ stv rg opv prv s f.sn trv)) hb (fun k hk => .inl hk)
 exact ⟨⟨h.gb,h.rl,s2⟩,h.sep.updB (i:=0) rfl hs (fun k hk => hk) h.size⟩
end
theorem results_cell_tmpM {P : Program} {fn : Func} {p u : Tmp} {ty : TypeId} {tmps : Array Value} {w : World} {v : Value} {b : Nat} (hr : fn.results = #[.cell p ty,.tmp u]) (hp : tmps.getD p undef = .pointer (some ⟨b,0,none⟩))
  (hl : (loadVar ty ⟨b,0,none⟩).run P w = .ok v w) : (results fn tmps).run P w = .ok (.tuple #[v,tmps.getD u undef]) w:=by
 simp only [Array.getD_eq_getD_getElem?] at hp ⊢
 simp [results,hr,Sem.run_bind,Result.andThen,hp,asAddr,hl]
theorem ran_stack {texts : List (List UInt8)} {code : List VI} {role : UInt8} {ins : List (List UInt8)} {fuel : Int} (h : askRun texts code role ins fuel = true) (F : Nat) (h0 : (runM ⟨texts,code,ins,(throughV texts code role).2.2.ends⟩ F startM).1 = 0) :
  (runM ⟨texts,code,ins,(throughV texts code role).2.2.ends⟩ F startM).2.st.length = (wantV role).length ∧ (runM ⟨texts,code,ins,(throughV texts code role).2.2.ends⟩ F startM).2.pr.length ≤ 256:=by
 obtain ⟨h1,h2,-,-,h5⟩:=askRun_ok h
 obtain ⟨hg,hk⟩:=goodM_of h1 h2 h5
 obtain ⟨hok,hpc⟩:=runM_ok hg F startM startM_ok h0
 have hst:=hok.st
 rw [hpc] at hst
 exact ⟨by rw [hst]; exact congrArg List.length hk,hok.pr⟩
theorem load_ran {w : World} {b : Nat} {v0 v1 v2 : Value} (h0 : w.cell? ⟨b,0,none⟩ = some v0) (h1 : w.cell? ⟨b,1,none⟩ = some v1) (h2 : w.cell? ⟨b,2,none⟩ = some v2) : (loadVar 109 ⟨b,0,none⟩).run Tryz.prog w = .ok (.agg #[v0,v1,v2]) w:=by
 go_simp
theorem ran_store {w : World} {b : Nat} {t : TypeId} {a0 a1 a2 : Value} (hx : Blk w b t [a0,a1,a2]) (v0 v1 v2 : Value) :
  Blk (((w.setCell ⟨b,0,none⟩ v0).setCell ⟨b,1,none⟩ v1).setCell ⟨b,2,none⟩ v2) b t [v0,v1,v2] ∧ Chg (fun x => x = b) w (((w.setCell ⟨b,0,none⟩ v0).setCell ⟨b,1,none⟩ v1).setCell ⟨b,2,none⟩ v2) :=
 ⟨((hx.set 0 v0).set 1 v1).set 2 v2,Chg.trans (Chg.trans (Chg.setCell w ⟨b,0,none⟩ v0 rfl) (Chg.setCell _ ⟨b,1,none⟩ v1 rfl)) (Chg.setCell _ ⟨b,2,none⟩ v2 rfl)⟩
theorem Blk.low {w w' : World} {b base : Nat} {t : TypeId} {cs : List Value} (h : Blk w b t cs) (hB : Below base w w') (hb : b < base) : Blk w' b t cs:=by
 unfold Blk at h ⊢
 rw [hB.block b hb]; exact h
def RanRes (B : Nat) (r : Nat × List (List UInt8 × List UInt8) × List UInt8) (e : Ending) (w : World) : Prop :=
 ∃ pv n,e = .returned (.tuple #[.agg #[pv,.string (bs r.2.2),.int .i64 n],.int .i64 (r.1 : Int)]) ∧ recKv.Row w pv r.2.1 ∧ ∀ k,pv.ownBlock = some k → B ≤ k
theorem Run_any (tv cv iv : Value) (texts : List (List UInt8)) (code : List VI) (role : UInt8) (ins : List (List UInt8)) (fuel : Int) (w : World) (hA : AskV w tv cv texts code) (hi : recS.Row w iv ins) (hil : ins.length ≤ 10) (hcl : code.length ≤ 5000)
  (his : ∀ s ∈ ins,s.length ≤ 140737488355328) (hf0 : -9223372036854775808 ≤ fuel) (hf1 : fuel ≤ 9223372036854775807) (hGl : GlobV w) (hdo : doesAt w) :
  Calls Tryz.prog 109 #[.agg #[tv,cv],.int .u8 (role.toNat : Int),iv,.int .i64 fuel] w fun e w' => RanRes w.heap.size (vmV texts code role ins fuel) e w' ∧ Below w.heap.size w w':=by
 obtain ⟨at_,ct,rfl,-,-⟩:=recS_open hA.t
 obtain ⟨ac,cc,rfl,-,-⟩:=recIns_open hA.c
 obtain ⟨ai,ci,rfl,-,-⟩:=recS_open hi
 have HMA:=Lib.hid (fun w' (hB : Below w.heap.size w w') => made_any _ _ _ texts code role ins fuel w' (hA.below hB) (hi.below hB) hil hcl his hf0 hf1 (hGl.below hB) (hdo.below hB))
 have HLT:=Lib.hid hA.lt
 obtain ⟨B4,hB4⟩ : ∃ B4,B4 = w.heap.size:=⟨_,rfl⟩
 obtain ⟨W1,hW1⟩ : ∃ W1,W1 = (w.alloc (.cells #[.slice at_ texts.length ct,.slice ac code.length cc] 25)).alloc (.cells #[.slice none 0 0,.string ⟨#[]⟩,.int .i64 0] 109):=⟨_,rfl⟩
 have hb1 : Below w.heap.size w W1:=by rw [hW1]; exact bt (b_alloc _ _) (b_alloc _ _)
 have hs1 : (w.alloc (.cells #[.slice at_ texts.length ct,.slice ac code.length cc] 25)).heap.size = B4 + 1:=by rw [hB4]; exact size_alV _ _
 have hx : Blk W1 B4 25 [.slice at_ texts.length ct,.slice ac code.length cc]:=by rw [hB4,hW1]; exact (Blk.new w _ _).below (b_alloc _ _)
 have hy : Blk W1 (B4 + 1) 109 [.slice none 0 0,.string ⟨#[]⟩,.int .i64 0]:=by rw [hW1,← hs1]; exact Blk.new _ _ _
 have hsz : W1.heap.size = B4 + 2:=by rw [hW1,size_alV,hs1]
 have x0:=hx.cell (k:=0) rfl
 have x1:=hx.cell (k:=1) rfl
 have HB1:=Lib.hid hb1
 have HY:=Lib.hid hy
 have HB4:=Lib.hid hB4
 have HSZ:=Lib.hid hsz
 go_enter Tryz.func109,Tryz.ntmps109
 go_upto_region 1 with fail
 rw [← hW1,← hB4]
 clear hW1 hB4 hA hi hGl hdo his hb1 hx hy hs1 hsz
 go_upto_if 22 with (go_at_call 148; refine (HMA.out _ HB1.out).mono ?_; rintro e w2 ⟨hres,hB2⟩; (rcases hres with ⟨hno,rfl⟩ | ⟨hyes,base,G,M,ev,rfl,hle,hMS,hEnv⟩))
 ·have HN:=Lib.hid (vmV_no hno)
  have hB12:=bt HB1.out hB2
  have hy2:=HY.out.below hB2
  have y0:=hy2.cell (k:=0) rfl
  have y1:=hy2.cell (k:=1) rfl
  have y2:=hy2.cell (k:=2) rfl
  have k0:=hy2.free (k:=0) (by simp)
  have k1:=hy2.free (k:=1) (by simp)
  have k2:=hy2.free (k:=2) (by simp)
  have HY2:=Lib.hid hy2
  have HB12:=Lib.hid hB12
  clear hno hy2 hB12 hB2 x0 x1
  go_wp2_with fail
  obtain ⟨hy3,hc3⟩:=ran_store HY2.out (.slice none 0 0) (.string ⟨#[]⟩) (.int .i64 0)
  refine bodyPost_ret (results_cell_tmpM rfl rfl (load_ran (hy3.cell (k:=0) rfl) (hy3.cell (k:=1) rfl) (hy3.cell (k:=2) rfl))) rfl ?_
  rw [HN.out]
  exact ⟨⟨_,_,rfl,Rec.Row.nil _,fun k hk => by cases hk⟩,HB12.out.trans (hc3.below (fun k hk => by rw [show k = B4 + 1 from hk,HB4.out]; exact Nat.le_succ _) HB12.out.size)⟩
 ·obtain ⟨a1,a2,a3,a4,a5⟩:=askRun_ok hyes
  obtain ⟨F,rfl⟩ : ∃ F : Nat,fuel = (F : Int):=⟨fuel.toNat,by omega⟩
  have hg:=(goodM_of a1 a2 a5).1
  have hF6 : F ≤ 65536:=by omega
  have hc256 : code.length ≤ 256:=by
   obtain ⟨hm,-⟩:=throughV_ok a1
   unfold mayV at hm
   simp only [Bool.and_eq_true,decide_eq_true_eq] at hm
   exact hm.1.1.2
  have HV:=Lib.hid (vmV_yes hyes)
  rw [Int.toNat_natCast] at HV
  have HST:=Lib.hid (ran_stack hyes F)
  obtain ⟨E,hE⟩ : ∃ E : Me,E = ⟨texts,code,ins,(throughV texts code role).2.2.ends⟩:=⟨_,rfl⟩
  have hEc : E.code.length = code.length:=by rw [hE]
  rw [← hE] at hg hMS hEnv HV HST
  have HR:=Lib.hid (vrun_any hg (by have:=HLT.out; omega) (by unfold inputsV; split <;> omega) (by omega) F (by omega) hMS hEnv)
  have hb12:=bt HB1.out hB2
  have HY2:=Lib.hid (HY.out.below hB2)
  have HB12:=Lib.hid hb12
  have HSB:=Lib.hid (show base ≤ w2.heap.size by obtain ⟨_,_,_,_,_,_,hm,_⟩:=hMS.mr; exact hm.size)
  have HLE : Hid (B4 + 2 ≤ base):=by rw [← HSZ.out]; exact hle
  obtain ⟨c,hc⟩ : ∃ c,c = (runM E F startM).1:=⟨_,rfl⟩
  rw [← hc] at HR HST
  have HC:=Lib.hid hc
  clear hg hMS hEnv hE hEc hb12 hB2 hle hc a1 a2 a3 a4 a5 hyes x0 x1 HMA HB1 HY hc256
  by_cases h0 : c = 0
  ·subst h0
   obtain ⟨hsl,-⟩:=HST.out rfl
   obtain ⟨FIN,hFIN⟩ : ∃ FIN,FIN = (runM E F startM).2:=⟨_,rfl⟩
   have HRV:=Lib.hid (show ranV E role F = (0,FIN.pr,if role = 1 then [] else (FIN.st.headD (0,[])).2) by unfold ranV; rw [← HC.out,if_pos rfl,hFIN])
   rw [← hFIN] at HR hsl
   have HSL:=Lib.hid hsl
   clear hFIN hsl HST
   go_upto_if 42 with (go_at_call 149; refine HR.out.mono ?_; rintro r w3 ⟨rfl,hMS3,hB3⟩; obtain ⟨tr,htr,hMS3⟩:=hMS3 rfl; obtain ⟨eos,sv,ov,pv,ta,tc,hm3,-,-⟩:=hMS3.mr; have c27:=hm3.cellR (k:=4) rfl; have f26:=hm3.free (k:=26) (by decide); have c26 : w3.cell? ⟨G,26,none⟩ = some (.int .i64 0):=hm3.cellR (k:=3) rfl; have HM3:=Lib.hid hm3; have HB3:=Lib.hid hB3; have hty : (tr.length : Int) ≤ 65536:=(by omega); clear hMS3 hm3 hB3 htr)
   obtain ⟨n,hn⟩ : ∃ n,n = (tr.length : Int):=⟨_,rfl⟩
   obtain ⟨hm4,hb4⟩:=HM3.out.setSn n
   obtain ⟨W4,hW4⟩ : ∃ W4,W4 = w3.setCell ⟨G,26,none⟩ (.int .i64 n):=⟨_,rfl⟩
   rw [← hn,← hW4]
   rw [← hW4] at hm4 hb4
   have hB4':=HB3.out.trans hb4
   have HM4:=Lib.hid hm4
   have HB5:=Lib.hid hB4'
   have HY4:=Lib.hid (HY2.out.low hB4' (by have:=HLE.out; omega))
   clear hn hW4 c27 f26 c26 HM3 HB3 hty hm4 hb4 hB4'
   by_cases hr : role = 1
   ·have t1 : ((role.toNat : Int) != 1) = false:=by rw [hr]; rfl
    have HRV2:=Lib.hid (show vmV texts code role ins F = (0,FIN.pr,[]) by rw [HV.out,HRV.out,if_pos hr])
    have hm4:=HM4.out
    have c24:=hm4.cellR (k:=1) rfl
    have c25:=hm4.cellR (k:=2) rfl
    have c26:=hm4.cellR (k:=3) rfl
    have y0:=HY4.out.cell (k:=0) rfl
    have y1:=HY4.out.cell (k:=1) rfl
    have y2:=HY4.out.cell (k:=2) rfl
    have k0:=HY4.out.free (k:=0) (by simp)
    have k1:=HY4.out.free (k:=1) (by simp)
    have k2:=HY4.out.free (k:=2) (by simp)
    obtain ⟨_,_,⟨pa,pc,rfl⟩,_⟩:=hm4.slices
    clear hr hm4
    dsimp only at c24 c25 c26
    go_wp2_with fail
    obtain ⟨hy3,hc3⟩:=ran_store HY4.out (.slice pa FIN.pr.length pc) (.string (bs [])) (.int .i64 n)
    refine bodyPost_ret (results_cell_tmpM rfl rfl (load_ran (hy3.cell (k:=0) rfl) (hy3.cell (k:=1) rfl) (hy3.cell (k:=2) rfl))) rfl ?_
    rw [HRV2.out]
    refine ⟨⟨_,_,rfl,(HM4.out.op.chgV hc3 (fun k hk e => ?_)).row,fun k hk => by have:=(HM4.out.op.ltV k hk).1; have:=HLE.out; have:=HB4.out; omega⟩,(HB12.out.trans (HB5.out.mono (by have:=HLE.out; have:=HB4.out; omega))).trans (hc3.below (fun k hk => by rw [show k = B4 + 1 from hk,HB4.out]; exact Nat.le_succ _) (by have:=HB12.out.size; have:=HB5.out.size; omega))⟩
    have h9:=(HM4.out.op.ltV k hk).1
    rw [show k = B4 + 1 from e] at h9
    have:=HLE.out
    omega
   ·have t1 : ((role.toNat : Int) != 1) = true:=by
     rw [bne_iff_ne]
     intro h
     exact hr (UInt8.toNat_inj.1 (by show role.toNat = 1; omega))
    obtain ⟨v,hv⟩ : ∃ v,FIN.st = [v]:=by
     have h1:=HSL.out
     unfold wantV at h1
     rw [if_neg hr] at h1
     match hq : FIN.st,h1 with
     | [v],_ => exact ⟨v,rfl⟩
    have HRV2:=Lib.hid (show vmV texts code role ins F = (0,FIN.pr,v.2) by rw [HV.out,HRV.out,if_neg hr,hv]; rfl)
    rw [hv] at HM4
    obtain ⟨_,_,⟨pa,pc,rfl⟩,_⟩:=HM4.out.slices
    have HP:=Lib.hid (pop_any v HM4.out (by simp))
    clear hr hv HSL HRV
    go_wp2_with (go_at_call 150; refine HP.out.mono ?_; rintro r w5 ⟨rfl,⟨sv5,hm5⟩,hB5⟩; unfold mvV; have f25:=hm5.free (k:=25) (by decide); have c24:=hm5.cellR (k:=1) rfl; have c25:=hm5.cellR (k:=2) rfl; have c26:=hm5.cellR (k:=3) rfl; dsimp only at c24 c25 c26; have hy5:=HY4.out.low hB5 (by have:=HLE.out; omega); have y0:=hy5.cell (k:=0) rfl; have y1:=hy5.cell (k:=1) rfl; have y2:=hy5.cell (k:=2) rfl; have k0:=hy5.free (k:=0) (by simp); have k1:=hy5.free (k:=1) (by simp); have k2:=hy5.free (k:=2) (by simp); have hgb : G ≠ B4 + 1:=(by have:=hm5.gb; have:=HLE.out; omega); have hgb' : ¬ B4 + 1 = G:=(fun e => hgb e.symm); have HM5:=Lib.hid hm5; have HY5:=Lib.hid hy5; have HB6:=Lib.hid (HB5.out.trans hB5); clear hm5 hy5 hB5)
    obtain ⟨hm6,hb6⟩:=HM5.out.setTx v.2
    have hy6 : Blk (w5.setCell ⟨G,25,none⟩ (.string (bs v.2))) (B4 + 1) 109 [.slice none 0 0,.string ⟨#[]⟩,.int .i64 0]:=HY5.out.chg (Chg.setCell w5 ⟨G,25,none⟩ (.string (bs v.2)) (X:=fun k => k = G) rfl) hgb'
    obtain ⟨hy3,hc3⟩:=ran_store hy6 (.slice pa FIN.pr.length pc) (.string (bs v.2)) (.int .i64 n)
    refine bodyPost_ret (results_cell_tmpM rfl rfl (load_ran (hy3.cell (k:=0) rfl) (hy3.cell (k:=1) rfl) (hy3.cell (k:=2) rfl))) rfl ?_
    rw [HRV2.out]
    have hball:=HB6.out.trans hb6
    refine ⟨⟨_,_,rfl,(hm6.op.chgV hc3 (fun k hk e => ?_)).row,fun k hk => by have:=(hm6.op.ltV k hk).1; have:=HLE.out; have:=HB4.out; omega⟩,(HB12.out.trans (hball.mono (by have:=HLE.out; have:=HB4.out; omega))).trans (hc3.below (fun k hk => by rw [show k = B4 + 1 from hk,HB4.out]; exact Nat.le_succ _) (by have:=HB12.out.size; have:=hball.size; omega))⟩
    have h9:=(hm6.op.ltV k hk).1
    rw [show k = B4 + 1 from e] at h9
    have:=HLE.out
    omega
  ·have t1 : ((c : Int) != 0) = true:=by rw [bne_iff_ne]; omega
   have HRV:=Lib.hid (show ranV E role F = (c,[],[]) by unfold ranV; rw [← HC.out,if_neg h0])
   clear h0
   go_wp2_with (go_at_call 149; refine HR.out.mono ?_; rintro r w3 ⟨rfl,-,hB3⟩; have hy2:=HY2.out.low hB3 (by have:=HLE.out; omega); have y0:=hy2.cell (k:=0) rfl; have y1:=hy2.cell (k:=1) rfl; have y2:=hy2.cell (k:=2) rfl; have k0:=hy2.free (k:=0) (by simp); have k1:=hy2.free (k:=1) (by simp); have k2:=hy2.free (k:=2) (by simp); have HY3:=Lib.hid hy2; have HB3:=Lib.hid (HB12.out.trans (hB3.mono (by have:=HLE.out; have:=HB4.out; omega))); clear hy2 hB3)
   obtain ⟨hy3,hc3⟩:=ran_store HY3.out (.slice none 0 0) (.string ⟨#[]⟩) (.int .i64 0)
   refine bodyPost_ret (results_cell_tmpM rfl rfl (load_ran (hy3.cell (k:=0) rfl) (hy3.cell (k:=1) rfl) (hy3.cell (k:=2) rfl))) rfl ?_
   rw [HV.out,HRV.out]
   exact ⟨⟨_,_,rfl,Rec.Row.nil _,fun k hk => by cases hk⟩,HB3.out.trans (hc3.below (fun k hk => by rw [show k = B4 + 1 from hk,HB4.out]; exact Nat.le_succ _) HB3.out.size)⟩
end Go.Proofs.YtehllcbnheicoaaGreatDoor
