/- Lemmas for JobRuns, part 11: walks of the functions that it reaches, and the plain laws behind them. -/
import Derived.Test.YtndagciefnddmaaGreatDoorJobRunsK10
set_option linter.unusedSimpArgs false
set_option linter.unusedVariables false
namespace Go.Proofs.YtndagciefnddmaaGreatDoor
open Go.RowKit Oct
attribute [local irreducible] wpG
def sm (d : Bool) (v u : Value) : Value := bif d then v else u
@[go_sem] theorem sm_true (v u : Value) : sm true v u = v := rfl
@[go_sem] theorem sm_false (v u : Value) : sm false v u = u := rfl
def blkPq {base : Nat} (b : Nat) (t : TypeId) (cs : List Value) : Pt base :=
  ⟨fun k => k = b, fun w => base ≤ b ∧ Blk w b t cs, fun h hc hX => ⟨h.1, h.2.chg hc (hX _ rfl)⟩, fun h k hk => by subst hk; exact ⟨h.1, h.2.lt⟩⟩
def eachE (pc M : Nat) (a : MV) (y : UInt8) : Eo := ⟨pc, M + 2, M, M + 1, !a.2.isEmpty, a.2, y⟩
section
variable {base G M pc b5 : Nat} {w0 w w' w3 : World} {f : Mf} {at_ : Int} {a : MV} {y : UInt8} {st rg : List MV} {eos l : List Eo} {pr : List (List UInt8 × List UInt8)} {tr : List Int} {tv cv iv ev lv stv opv opv' prv trv trv' : Value} {L L' X Y : List (Pt base)} {e : Eo} {d5 d8 d10 d11 : Bool}
theorem Sep.perm (h : Sep base w L) (hp : L.Perm L') : Sep base w L' := ⟨fun p hp' => h.1 p (hp.mem_iff.2 hp'), hp.pairwise h.2 (fun hab k hk hk' => hab k hk' hk)⟩
theorem MR.perm (h : MR base w G f at_ st rg eos pr tr stv opv prv trv X) (hp : X.Perm Y) : MR base w G f at_ st rg eos pr tr stv opv prv trv Y :=
  ⟨h.gb, h.rl, h.sep.perm ((((((hp.cons _).cons _).cons _).cons _).cons _).cons _)⟩
def eachX (base pc M b5 : Nat) (a : MV) (y : UInt8) (d8 d10 d11 : Bool) : List (Pt base) :=
  (bif d8 then [boxPt [eachE pc M a y]] else []) ++ (bif d10 then [blkPq b5 299 (bif d11 then [.int .i64 (pc : Int), eoF (eachE pc M a y)] else [.int .i64 0, .nilFunc])] else [])
def EB (base : Nat) (w0 w : World) (G : Nat) (f : Mf) (pc : Nat) (a : MV) (y : UInt8) (st rg : List MV) (eos : List Eo) (pr : List (List UInt8 × List UInt8)) (tr : List Int) (opv prv trv : Value) (X : List (Pt base)) (d5 d8 d10 d11 : Bool) (M b5 : Nat) : Prop :=
  (∃ stv, MR base w G f (pc : Int) (bif d5 then st else a :: st) rg eos pr tr stv opv prv trv (X ++ eachX base pc M b5 a y d8 d10 d11)) ∧ Below base w0 w ∧ (d8 = true → d5 = true) ∧ (d11 = true → d10 = true ∧ d8 = true)
theorem no_of {d : Bool} (h : d = true → False) : d = false := by cases d <;> simp_all
theorem EB.at5 (h : EB base w0 w G f pc a y st rg eos pr tr opv prv trv X d5 d8 d10 d11 M b5) : w.cell? ⟨G, 5, none⟩ = some (.int .i64 (pc : Int)) := by
  obtain ⟨⟨sv, h⟩, -⟩ := h
  exact h.cell (k := 5) rfl
theorem EB.pop (h : EB base w0 w G f pc a y st rg eos pr tr opv prv trv X false d8 d10 d11 M b5) (hl : st.length ≤ 1000) :
    Calls Tryz.prog 88 #[.pointer (some ⟨G, 0, none⟩)] w fun r w' => r = .returned (mvV a) ∧ EB base w0 w' G f pc a y st rg eos pr tr opv prv trv X true d8 d10 d11 M b5 := by
  obtain ⟨⟨sv, hm⟩, hB, h8, h11⟩ := h
  obtain rfl := no_of (fun e => Bool.noConfusion (h8 e))
  obtain rfl := no_of (fun e => Bool.noConfusion (h11 e).2)
  refine (pop_any a hm hl).mono ?_
  rintro r w' ⟨hr, hm', hB'⟩
  exact ⟨hr, hm', hB.trans hB', fun _ => rfl, h11⟩
theorem EB.pieces (h : EB base w0 w G f pc a y st rg eos pr tr opv prv trv X true false d10 d11 M b5) :
    Calls Tryz.prog 237 #[.string (bs a.2), .int .u8 (y.toNat : Int)] w fun r w' => r = .returned (eoF (eachE pc w.heap.size a y)) ∧ EB base w0 w' G f pc a y st rg eos pr tr opv prv trv X true true d10 d11 w.heap.size b5 := by
  obtain ⟨⟨sv, hm⟩, hB, h8, h11⟩ := h
  obtain rfl := no_of (fun e => Bool.noConfusion (h11 e).2)
  refine (pieces_any a.2 y w pc hm.size).mono ?_
  rintro r w' ⟨hr, hbx, hB'⟩
  refine ⟨hr, ⟨sv, ?_⟩, hB.trans (hB'.mono hm.size), fun _ => rfl, fun e => Bool.noConfusion e⟩
  have h1 := hm.addBox (e := eachE pc w.heap.size a y) hB' hbx (fun k hk => by unfold eoIn eachE at hk; simp only at hk; omega)
  refine h1.perm ?_
  rw [List.append_assoc]
  refine List.Perm.append_left X ?_
  show List.Perm (([] ++ _) ++ [_]) ([_] ++ _)
  rw [List.nil_append]
  exact List.perm_append_comm
theorem EB.alloc (h : EB base w0 w G f pc a y st rg eos pr tr opv prv trv X d5 d8 false d11 M b5) :
    EB base w0 (w.alloc (.cells #[.int .i64 0, .nilFunc] 299)) G f pc a y st rg eos pr tr opv prv trv X d5 d8 true d11 M w.heap.size := by
  obtain ⟨⟨sv, hm⟩, hB, h8, h11⟩ := h
  obtain rfl := no_of (fun e => Bool.noConfusion (h11 e).1)
  refine ⟨⟨sv, ?_⟩, hB.trans ((b_alloc _ _).mono hm.size), h8, fun e => Bool.noConfusion e⟩
  have h1 : MR base (w.alloc (.cells #[.int .i64 0, .nilFunc] 299)) G f (pc : Int) (bif d5 then st else a :: st) rg eos pr tr sv opv prv trv ((X ++ eachX base pc M b5 a y d8 false false) ++ [blkPq w.heap.size 299 [.int .i64 0, .nilFunc]]) :=
    ⟨hm.gb, hm.rl, hm.sep.snoc (b_alloc _ _) (blkPq w.heap.size 299 [.int .i64 0, .nilFunc]) ⟨hm.size, Blk.new w _ _⟩ (fun k hk => by rw [show k = w.heap.size from hk]; exact Nat.le_refl _)⟩
  have h2 : (X ++ eachX base pc M b5 a y d8 false false) ++ [blkPq w.heap.size 299 [.int .i64 0, .nilFunc]] = X ++ eachX base pc M w.heap.size a y d8 true false := by
    unfold eachX
    cases d8 <;> simp
  rw [h2] at h1
  exact h1
theorem EB.store (h : EB base w0 w G f pc a y st rg eos pr tr opv prv trv X true true true false M b5) :
    EB base w0 ((w.setCell ⟨b5, 0, none⟩ (.int .i64 (pc : Int))).setCell ⟨b5, 1, none⟩ (eoF (eachE pc M a y))) G f pc a y st rg eos pr tr opv prv trv X true true true true M b5 := by
  obtain ⟨⟨sv, hm⟩, hB, h8, h11⟩ := h
  have hm : MR base w G f (pc : Int) st rg eos pr tr sv opv prv trv (X ++ [boxPt [eachE pc M a y], blkPq b5 299 [.int .i64 0, .nilFunc]]) := hm
  have hb : base ≤ b5 ∧ Blk w b5 299 [.int .i64 0, .nilFunc] := hm.loc (p := blkPq b5 299 [.int .i64 0, .nilFunc]) (by simp)
  obtain ⟨k1, k2⟩ := mv_store hb.2 (.int .i64 (pc : Int)) (eoF (eachE pc M a y))
  obtain ⟨h1, h2⟩ := hm.updX (i := X.length + 1) (p := blkPq b5 299 [.int .i64 0, .nilFunc]) (by simp) k2 (fun k hk => hk) (blkPq b5 299 [.int .i64 (pc : Int), eoF (eachE pc M a y)]) ⟨hb.1, k1⟩ (fun k hk => hk)
  refine ⟨⟨sv, ?_⟩, hB.trans h2, h8, fun _ => ⟨rfl, rfl⟩⟩
  rw [List.set_append_right _ _ (by omega), show X.length + 1 - X.length = 1 by omega] at h1
  exact h1
theorem EB.cells (h : EB base w0 w G f pc a y st rg eos pr tr opv prv trv X true true true d11 M b5) : ∃ v0 v1, w.cell? ⟨b5, 0, none⟩ = some v0 ∧ w.cell? ⟨b5, 1, none⟩ = some v1 ∧ w.frozen? ⟨b5, 0, none⟩ = false ∧ w.frozen? ⟨b5, 1, none⟩ = false := by
  obtain ⟨⟨sv, hm⟩, -⟩ := h
  cases d11
  · have hb : base ≤ b5 ∧ Blk w b5 299 [.int .i64 0, .nilFunc] := hm.loc (p := blkPq b5 299 [.int .i64 0, .nilFunc]) (by simp [eachX])
    exact ⟨_, _, hb.2.cell (k := 0) rfl, hb.2.cell (k := 1) rfl, hb.2.free (k := 0) (by simp), hb.2.free (k := 1) (by simp)⟩
  · have hb : base ≤ b5 ∧ Blk w b5 299 [.int .i64 (pc : Int), eoF (eachE pc M a y)] := hm.loc (p := blkPq b5 299 [.int .i64 (pc : Int), eoF (eachE pc M a y)]) (by simp [eachX])
    exact ⟨_, _, hb.2.cell (k := 0) rfl, hb.2.cell (k := 1) rfl, hb.2.free (k := 0) (by simp), hb.2.free (k := 1) (by simp)⟩
set_option maxRecDepth 100000 in
set_option maxHeartbeats 8000000 in
theorem veach_any (a : MV) (y : UInt8) (pc : Nat) (h : MR base w G ⟨tv, cv, iv, ev, lv, [], 0⟩ (pc : Int) (a :: st) rg eos pr tr stv opv prv trv X) (hl : st.length ≤ 900) (he : eos.length ≤ 900) (ha : a.2.length ≤ 1024) (hG : ∀ w', Below base w w' → GlobV w')
    {l : List Int} (ht : ∀ w', Below base w w' → recJ.Row w' ev l) (hp : pc < l.length) (hl2 : l.length ≤ 1000) :
    Calls Tryz.prog 232 #[.pointer (some ⟨G, 0, none⟩), .int .u8 (y.toNat : Int)] w fun r w' => r = .returned (.int .i64 0) ∧
      ((a.2 = [] ∧ ∃ stv', MR base w' G ⟨tv, cv, iv, ev, lv, [], 0⟩ l[pc] st rg eos pr tr stv' opv prv trv X) ∨
       (∃ p ps, piecesM a.2 y = p :: ps ∧ ∃ stv' opv' e', leftE e' = ps ∧ e'.at_ = pc ∧ e'.rest.length ≤ 1024 ∧ MR base w' G ⟨tv, cv, iv, ev, lv, [], 0⟩ (pc : Int) ((0, p) :: st) rg (eos ++ [e']) pr tr stv' opv' prv trv X)) ∧ Below base w w' := by
  have hd : EB base w w.drew G ⟨tv, cv, iv, ev, lv, [], 0⟩ pc a y st rg eos pr tr opv prv trv X false false false false 0 0 := ⟨⟨stv, by
    have := h.below (b_drew w)
    unfold eachX
    simpa using this⟩, (b_drew w).mono h.size, fun e => Bool.noConfusion e, fun e => Bool.noConfusion e⟩
  have HD := Lib.hid hd
  have HG := Lib.hid hG
  have HT := Lib.hid ht
  have HL := Lib.hid hl
  clear h hd hG ht
  go_enter Tryz.func232, Tryz.ntmps232
  go_wp2_with fail
  have hI0 : ∃ I : Array Bool → Act → World → Prop, I = (fun listed ax wx => ∃ d0 d1 d2 d3 d4 d5 d6 d7 d8 d9 d10 d11 : Bool, ∃ M b5 : Nat, listed = #[d0, d1, d2, d3, d4, d5, d6, d7, d8, d9, d10, d11] ∧ ax = { tmps := List.toArray ((.pointer (some ⟨G, 0, none⟩)) :: (.int .u8 (y.toNat : Int)) :: undef :: undef :: (.int .i64 0) :: (sm d10 (.pointer (some ⟨b5, 0, none⟩)) undef) :: undef :: undef :: (sm d0 (.pointer (some ⟨G, 0, none⟩)) undef) :: (sm d1 (.pointer (some ⟨G, 0, none⟩)) undef) :: (sm d2 (.pointer (some ⟨G, 5, none⟩)) undef) :: (sm d3 (.int .i64 (pc : Int)) undef) :: (sm d4 (.pointer (some ⟨G, 0, none⟩)) undef) :: (sm d5 (.agg #[.int .i64 a.1, .string (bs a.2)]) undef) :: (sm d6 (.string (bs a.2)) undef) :: (sm d7 (.int .u8 (y.toNat : Int)) undef) :: (sm d8 (eoF (eachE pc M a y)) undef) :: (sm d9 (.agg #[.int .i64 (pc : Int), eoF (eachE pc M a y)]) undef) :: undef :: undef :: undef :: undef :: undef :: undef :: undef :: undef :: undef :: undef :: undef :: undef :: undef :: undef :: undef :: undef :: undef :: undef :: undef :: undef :: undef :: undef :: undef :: undef :: undef :: undef :: undef :: undef :: undef :: undef :: undef :: undef :: undef :: undef :: undef :: []), defers := [] } ∧ Hid (EB base w wx G ⟨tv, cv, iv, ev, lv, [], 0⟩ pc a y st rg eos pr tr opv prv trv X d5 d8 d10 d11 M b5) ∧ (d9 = true → d8 = true)) := ⟨_, rfl⟩
  obtain ⟨INV, hINV⟩ := hI0
  have HINV := Lib.hid hINV
  clear hINV
  refine region_inv INV (by kernel_rfl) (by kernel_rfl) (by rw [HINV.out]; exact ⟨false, false, false, false, false, false, false, false, false, false, false, false, 0, 0, rfl, rfl, HD.out, fun e => Bool.noConfusion e⟩) ?_ ?_
  · intro listed ax wx hI hs hall
    rw [HINV.out] at hI
    clear HINV HD
    obtain ⟨d0, d1, d2, d3, d4, d5, d6, d7, d8, d9, d10, d11, M, b5, rfl, rfl, hBI, h9⟩ := hI
    have e0 : d0 = true := by simpa using hall 0 (by decide)
    have e1 : d1 = true := by simpa using hall 1 (by decide)
    have e2 : d2 = true := by simpa using hall 2 (by decide)
    have e3 : d3 = true := by simpa using hall 3 (by decide)
    have e4 : d4 = true := by simpa using hall 4 (by decide)
    have e5 : d5 = true := by simpa using hall 5 (by decide)
    have e6 : d6 = true := by simpa using hall 6 (by decide)
    have e7 : d7 = true := by simpa using hall 7 (by decide)
    have e8 : d8 = true := by simpa using hall 8 (by decide)
    have e9 : d9 = true := by simpa using hall 9 (by decide)
    have e10 : d10 = true := by simpa using hall 10 (by decide)
    have e11 : d11 = true := by simpa using hall 11 (by decide)
    simp only [e0, e1, e2, e3, e4, e5, e6, e7, e8, e9, e10, e11, sm_true] at hBI ⊢
    clear e0 e1 e2 e3 e4 e5 e6 e7 e8 e9 e10 e11 hall hs h9
    clear d0 d1 d2 d3 d4 d5 d6 d7 d8 d9 d10 d11
    obtain ⟨⟨sv, hm0⟩, hB, -, -⟩ := hBI.out
    have hm : MR base wx G ⟨tv, cv, iv, ev, lv, [], 0⟩ (pc : Int) st rg eos pr tr sv opv prv trv ((X ++ [blkPq b5 299 [.int .i64 (pc : Int), eoF (eachE pc M a y)]]) ++ [boxPt [eachE pc M a y]]) := by
      refine MR.perm hm0 ?_
      rw [List.append_assoc]
      exact List.Perm.append_left X (List.Perm.swap _ _ _)
    have hLE : leftE (eachE pc M a y) = piecesM a.2 y := leftE_start pc M a.2 y
    obtain ⟨bm, hbm⟩ : ∃ bm, bm = M + 2 := ⟨_, rfl⟩
    obtain ⟨bt', hbt⟩ : ∃ bt', bt' = M := ⟨_, rfl⟩
    obtain ⟨bc, hbc⟩ : ∃ bc, bc = M + 1 := ⟨_, rfl⟩
    have hE : eachE pc M a y = ⟨pc, bm, bt', bc, !a.2.isEmpty, a.2, y⟩ := by subst hbm hbt hbc; rfl
    rw [hE] at hm hLE ⊢
    clear hbm hbt hbc hE hBI hm0
    have hbx : boxOk base wx ⟨pc, bm, bt', bc, !a.2.isEmpty, a.2, y⟩ := (hm.loc (p := boxPt [⟨pc, bm, bt', bc, !a.2.isEmpty, a.2, y⟩]) (by simp)).1 _ (List.mem_singleton.2 rfl)
    have hb5 : base ≤ b5 ∧ Blk wx b5 299 [.int .i64 (pc : Int), eoF ⟨pc, bm, bt', bc, !a.2.isEmpty, a.2, y⟩] := hm.loc (p := blkPq b5 299 [.int .i64 (pc : Int), eoF ⟨pc, bm, bt', bc, !a.2.isEmpty, a.2, y⟩]) (by simp)
    have x1 := hb5.2.cell (k := 1) rfl
    unfold eoF at x1 ⊢
    dsimp only at x1 ⊢
    have HM := Lib.hid hm
    have HB := Lib.hid hB
    have HLE := Lib.hid hLE
    have HX := Lib.hid hbx
    have HA := Lib.hid ha
    clear hm hB hLE hb5 hbx ha
    by_cases hne : a.2 = []
    · have HN := Lib.hid hne
      have hmo : (!a.2.isEmpty) = false := by rw [hne]; rfl
      go_wp2_with (go_at_call 238; refine (nextM_no HX.out hmo).mono ?_; rintro r w2 ⟨rfl, rfl⟩)
      have i0 : (0 : Int) ≤ (pc : Int) := by omega
      have i1 : (pc : Int) < (l.length : Int) := by omega
      have i2 : (l.length : Int) ≤ 1000 := by omega
      obtain ⟨a', n, hev, hc⟩ := recJ_openM (HT.out _ HB.out)
      obtain ⟨b, off, rfl, d0⟩ := hc pc hp
      subst hev
      obtain ⟨v, hv'⟩ : ∃ v, v = l[pc] := ⟨_, rfl⟩
      rw [← hv'] at d0
      have HV := Lib.hid hv'
      have c3 := HM.out.cell (k := 3) rfl
      have c5 := HM.out.cell (k := 5) rfl
      have f5 := HM.out.free (k := 5) (by decide)
      have HD := Lib.hid (HM.out.below (b_drew w2))
      clear hc hv' hmo hne x1
      go_region
      all_goals
        go_wp2_with fail
        go_ret
        obtain ⟨m5, b6⟩ := HD.out.setAt v
        exact ⟨rfl, .inl ⟨HN.out, _, by rw [← HV.out]; exact (m5.drop).drop⟩, (HB.out.trans ((b_drew w2).mono HM.out.size)).trans b6⟩
    · have hmo : (!a.2.isEmpty) = true := by cases h2 : a.2 with | nil => exact absurd h2 hne | cons _ _ => rfl
      obtain ⟨hl1, -, hl3⟩ := leftE_next (e := ⟨pc, bm, bt', bc, !a.2.isEmpty, a.2, y⟩) hmo
      rw [HLE.out] at hl1
      dsimp only at hl1
      obtain ⟨p, hp'⟩ : ∃ p, p = (Lib.cut a.2 [y]).1 := ⟨_, rfl⟩
      rw [← hp'] at hl1
      have HY := Lib.hid (nextM_yes HX.out hmo HA.out (HG.out _ HB.out).mx)
      rw [← hp'] at HY
      obtain ⟨mo, hmo'⟩ : ∃ mo, mo = (Lib.cut a.2 [y]).2.2 := ⟨_, rfl⟩
      obtain ⟨re, hre'⟩ : ∃ re, re = (Lib.cut a.2 [y]).2.1 := ⟨_, rfl⟩
      have he' : nextE ⟨pc, bm, bt', bc, !a.2.isEmpty, a.2, y⟩ = ⟨pc, bm, bt', bc, mo, re, y⟩ := by rw [hmo', hre']; rfl
      rw [he'] at HY hl1 hl3
      have HL1 := Lib.hid hl1
      have HL3 := Lib.hid hl3
      clear hl1 hl3 hp' he' hmo' hre' hne
      go_wp2_with (go_at_call 238; refine HY.out.mono ?_; rintro r w2 ⟨rfl, hbx2, hc2⟩; obtain ⟨hm2, hb2⟩ := HM.out.turnBox hc2 hbx2 rfl rfl rfl; have HM2 := Lib.hid hm2; have HB2 := Lib.hid (HB.out.trans hb2); clear hm2 hb2 hc2 hbx2)
      obtain ⟨_, ⟨oa, oc, rfl⟩, _, _⟩ := HM2.out.slices
      have hb5 : base ≤ b5 ∧ Blk w2 b5 299 [.int .i64 (pc : Int), eoF ⟨pc, bm, bt', bc, !a.2.isEmpty, a.2, y⟩] := HM2.out.loc (p := blkPq b5 299 [.int .i64 (pc : Int), eoF ⟨pc, bm, bt', bc, !a.2.isEmpty, a.2, y⟩]) (by simp)
      have z0 := hb5.2.cell (k := 0) rfl
      have z1 := hb5.2.cell (k := 1) rfl
      have z2 := hb5.2.lt
      unfold eoF at z1
      dsimp only at z1
      have c23 : w2.cell? ⟨G, 23, none⟩ = some (.slice oa eos.length oc) := HM2.out.cellR (k := 0) rfl
      have hGl : G < w2.heap.size := HM2.out.blk.lt
      have h3d := HM2.out.below (b_drew w2)
      have hgb : base ≤ w2.drew.heap.size := h3d.size
      have hby : (eos.length + 1) * 16 ≤ 140737488355328 := by omega
      have hoo := h3d.oo
      have H3D := Lib.hid h3d
      have he9 : (eos.length : Int) ≤ 900 := by omega
      clear h3d hb5 x1 hmo
      go_region_law (refine recEa.step_append1V w2.drew ⟨pc, bm, bt', bc, mo, re, y⟩ rfl _ _ 158 rfl Tryz.underlying158 base (.slice oa eos.length oc) eos rfl hoo _ rfl _ rfl _ rfl hby hgb ?_; intro g gc w4 hown hc hg; have hn := H3D.out.newO2 (opv' := .slice (some ⟨g, 0, none⟩) (eos.length + 1) gc) hc (fun k hk => by cases hk; exact hg) hown; have f23 := hn.2.2.1; have c23' := hn.2.2.2; have HN := Lib.hid hn; clear hn hown hc hg)
      all_goals
        (try simp only [List.getElem_toArray, List.getElem_cons_succ, List.getElem_cons_zero])
        (try go_frame)
        go_wp2_with (go_at_call 234; refine (push_any (0, p) HN.out.1 (by have := HL.out; omega)).mono ?_; rintro r w6 ⟨rfl, ⟨sv6, hm6⟩, hB6⟩)
        go_ret
        exact ⟨rfl, .inr ⟨p, _, HL1.out, sv6, _, ⟨pc, bm, bt', bc, mo, re, y⟩, rfl, rfl, Nat.le_trans HL3.out HA.out, hm6.drop⟩, ((HB2.out.trans ((b_drew w2).mono HM2.out.size)).trans HN.out.2.1).trans hB6⟩
  refine ⟨fun listed ax wx hI hd hdep => ?_, fun listed ax wx hI hd hdep => ?_, fun listed ax wx hI hd hdep => ?_, fun listed ax wx hI hd hdep => ?_, fun listed ax wx hI hd hdep => ?_, fun listed ax wx hI hd hdep => ?_, fun listed ax wx hI hd hdep => ?_, fun listed ax wx hI hd hdep => ?_, fun listed ax wx hI hd hdep => ?_, fun listed ax wx hI hd hdep => ?_, fun listed ax wx hI hd hdep => ?_, fun listed ax wx hI hd hdep => ?_, True.intro⟩
  · rw [HINV.out] at hI
    obtain ⟨d0, d1, d2, d3, d4, d5, d6, d7, d8, d9, d10, d11, M, b5, rfl, rfl, hBI, h9⟩ := hI
    obtain rfl : d0 = false := by simpa using hd
    rw [if_pos (by rfl)]
    unfold Oper.wp
    clear hd hdep
    go_simp
    rw [HINV.out]
    exact ⟨true, d1, d2, d3, d4, d5, d6, d7, d8, d9, d10, d11, M, b5, rfl, rfl, hBI, h9⟩
  · rw [HINV.out] at hI
    obtain ⟨d0, d1, d2, d3, d4, d5, d6, d7, d8, d9, d10, d11, M, b5, rfl, rfl, hBI, h9⟩ := hI
    obtain rfl : d1 = false := by simpa using hd
    simp [Region.binds] at hdep
    have e0 : d0 = true := by simp [hdep]
    clear hdep
    simp only [e0] at hBI ⊢
    rw [if_pos (by rfl)]
    unfold Oper.wp
    clear hd
    go_simp
    rw [HINV.out]
    exact ⟨true, true, d2, d3, d4, d5, d6, d7, d8, d9, d10, d11, M, b5, rfl, rfl, hBI, h9⟩
  · rw [HINV.out] at hI
    obtain ⟨d0, d1, d2, d3, d4, d5, d6, d7, d8, d9, d10, d11, M, b5, rfl, rfl, hBI, h9⟩ := hI
    obtain rfl : d2 = false := by simpa using hd
    simp [Region.binds] at hdep
    have e1 : d1 = true := by simp [hdep]
    clear hdep
    simp only [e1] at hBI ⊢
    rw [if_pos (by rfl)]
    unfold Oper.wp
    clear hd
    go_simp
    rw [HINV.out]
    exact ⟨d0, true, true, d3, d4, d5, d6, d7, d8, d9, d10, d11, M, b5, rfl, rfl, hBI, h9⟩
  · rw [HINV.out] at hI
    obtain ⟨d0, d1, d2, d3, d4, d5, d6, d7, d8, d9, d10, d11, M, b5, rfl, rfl, hBI, h9⟩ := hI
    obtain rfl : d3 = false := by simpa using hd
    simp [Region.binds] at hdep
    have e2 : d2 = true := by simp [hdep]
    clear hdep
    simp only [e2] at hBI ⊢
    rw [if_pos (by rfl)]
    unfold Oper.wp
    clear hd
    have y0 := hBI.out.at5
    go_simp
    rw [HINV.out]
    exact ⟨d0, d1, true, true, d4, d5, d6, d7, d8, d9, d10, d11, M, b5, rfl, rfl, hBI, h9⟩
  · rw [HINV.out] at hI
    obtain ⟨d0, d1, d2, d3, d4, d5, d6, d7, d8, d9, d10, d11, M, b5, rfl, rfl, hBI, h9⟩ := hI
    obtain rfl : d4 = false := by simpa using hd
    rw [if_pos (by rfl)]
    unfold Oper.wp
    clear hd hdep
    go_simp
    rw [HINV.out]
    exact ⟨d0, d1, d2, d3, true, d5, d6, d7, d8, d9, d10, d11, M, b5, rfl, rfl, hBI, h9⟩
  · rw [HINV.out] at hI
    obtain ⟨d0, d1, d2, d3, d4, d5, d6, d7, d8, d9, d10, d11, M, b5, rfl, rfl, hBI, h9⟩ := hI
    obtain rfl : d5 = false := by simpa using hd
    simp [Region.binds] at hdep
    have e4 : d4 = true := by simp [hdep]
    clear hdep
    simp only [e4] at hBI ⊢
    rw [if_pos (by rfl)]
    unfold Oper.wp
    clear hd
    go_simp
    refine (hBI.out.pop (by have := HL.out; omega)).mono ?_
    rintro r w2 ⟨rfl, hBI2⟩
    rw [HINV.out]
    exact ⟨d0, d1, d2, d3, true, true, d6, d7, d8, d9, d10, d11, M, b5, rfl, rfl, hBI2, h9⟩
  · rw [HINV.out] at hI
    obtain ⟨d0, d1, d2, d3, d4, d5, d6, d7, d8, d9, d10, d11, M, b5, rfl, rfl, hBI, h9⟩ := hI
    obtain rfl : d6 = false := by simpa using hd
    simp [Region.binds] at hdep
    have e5 : d5 = true := by simp [hdep]
    clear hdep
    simp only [e5] at hBI ⊢
    rw [if_pos (by rfl)]
    unfold Oper.wp
    clear hd
    go_simp
    rw [HINV.out]
    exact ⟨d0, d1, d2, d3, d4, true, true, d7, d8, d9, d10, d11, M, b5, rfl, rfl, hBI, h9⟩
  · rw [HINV.out] at hI
    obtain ⟨d0, d1, d2, d3, d4, d5, d6, d7, d8, d9, d10, d11, M, b5, rfl, rfl, hBI, h9⟩ := hI
    obtain rfl : d7 = false := by simpa using hd
    rw [if_pos (by rfl)]
    unfold Oper.wp
    clear hd hdep
    go_simp
    rw [HINV.out]
    exact ⟨d0, d1, d2, d3, d4, d5, d6, true, d8, d9, d10, d11, M, b5, rfl, rfl, hBI, h9⟩
  · rw [HINV.out] at hI
    obtain ⟨d0, d1, d2, d3, d4, d5, d6, d7, d8, d9, d10, d11, M, b5, rfl, rfl, hBI, h9⟩ := hI
    obtain rfl : d8 = false := by simpa using hd
    simp [Region.binds] at hdep
    have e5 : d5 = true := by simp [hdep]
    have e6 : d6 = true := by simp [hdep]
    have e7 : d7 = true := by simp [hdep]
    clear hdep
    simp only [e5, e6, e7] at hBI ⊢
    have e9 : d9 = false := no_of (fun e => Bool.noConfusion (h9 e))
    simp only [e9] at ⊢
    rw [if_pos (by rfl)]
    unfold Oper.wp
    clear hd
    go_simp
    refine hBI.out.pieces.mono ?_
    rintro r w2 ⟨rfl, hBI2⟩
    rw [HINV.out]
    exact ⟨d0, d1, d2, d3, d4, true, true, true, true, false, d10, d11, _, b5, rfl, rfl, hBI2, fun _ => rfl⟩
  · rw [HINV.out] at hI
    obtain ⟨d0, d1, d2, d3, d4, d5, d6, d7, d8, d9, d10, d11, M, b5, rfl, rfl, hBI, h9⟩ := hI
    obtain rfl : d9 = false := by simpa using hd
    simp [Region.binds] at hdep
    have e3 : d3 = true := by simp [hdep]
    have e8 : d8 = true := by simp [hdep]
    clear hdep
    simp only [e3, e8] at hBI ⊢
    rw [if_pos (by rfl)]
    unfold Oper.wp
    clear hd
    go_simp
    rw [HINV.out]
    exact ⟨d0, d1, d2, true, d4, d5, d6, d7, true, true, d10, d11, M, b5, rfl, rfl, hBI, fun _ => rfl⟩
  · rw [HINV.out] at hI
    obtain ⟨d0, d1, d2, d3, d4, d5, d6, d7, d8, d9, d10, d11, M, b5, rfl, rfl, hBI, h9⟩ := hI
    obtain rfl : d10 = false := by simpa using hd
    rw [if_pos (by rfl)]
    unfold Oper.wp
    clear hd hdep
    go_simp
    rw [HINV.out]
    exact ⟨d0, d1, d2, d3, d4, d5, d6, d7, d8, d9, true, d11, M, wx.heap.size, rfl, rfl, hBI.out.alloc, h9⟩
  · rw [HINV.out] at hI
    obtain ⟨d0, d1, d2, d3, d4, d5, d6, d7, d8, d9, d10, d11, M, b5, rfl, rfl, hBI, h9⟩ := hI
    obtain rfl : d11 = false := by simpa using hd
    simp [Region.binds] at hdep
    have e8 : d8 = true := by simp [hdep]
    have e9 : d9 = true := by simp [hdep]
    have e10 : d10 = true := by simp [hdep]
    have e5 : d5 = true := hBI.out.2.2.1 e8
    clear hdep
    simp only [e8, e9, e10, e5] at hBI ⊢
    rw [if_pos (by rfl)]
    unfold Oper.wp
    clear hd
    obtain ⟨v0, v1, y0, y1, y2, y3⟩ := hBI.out.cells
    unfold eoF
    go_simp
    rw [HINV.out]
    exact ⟨d0, d1, d2, d3, d4, true, d6, d7, true, true, true, true, M, b5, rfl, rfl, hBI.out.store, fun _ => rfl⟩
end
end Go.Proofs.YtndagciefnddmaaGreatDoor
namespace Go.Proofs.YtndagciefnddmaaGreatDoor
open Go.RowKit Oct
def doesL : List FuncId := [0, 211, 212, 213, 214, 215, 216, 217, 218, 219, 220, 221, 222, 223, 224, 225, 226, 227, 228, 229, 230, 231, 232, 233]
theorem asc_len : ∀ (l : List Nat) (a n : Nat), l.Pairwise (· < ·) → (∀ x ∈ l, a ≤ x ∧ x < n) → l.length ≤ n - a
  | [], _, _, _, _ => Nat.zero_le _
  | x :: l, a, n, hp, h => by
    obtain ⟨h1, h2⟩ := List.pairwise_cons.1 hp
    obtain ⟨h3, h4⟩ := h x (List.mem_cons_self ..)
    have := asc_len l (x + 1) n h2 (fun y hy => ⟨h1 y hy, (h y (List.mem_cons_of_mem _ hy)).2⟩)
    rw [List.length_cons]
    omega
set_option maxRecDepth 100000 in
theorem does_call : ∀ n, 1 ≤ n → n ≤ 23 → ∀ (args : Array Value) (w : World), (callFunc (doesL.getD n 0) args).run Tryz.prog w = .ok (.enter (doesL.getD n 0) args) w := by
  intro n h1 h2
  rcases (show n = 1 ∨ n = 2 ∨ n = 3 ∨ n = 4 ∨ n = 5 ∨ n = 6 ∨ n = 7 ∨ n = 8 ∨ n = 9 ∨ n = 10 ∨ n = 11 ∨ n = 12 ∨ n = 13 ∨ n = 14 ∨ n = 15 ∨ n = 16 ∨ n = 17 ∨ n = 18 ∨ n = 19 ∨ n = 20 ∨ n = 21 ∨ n = 22 ∨ n = 23 by omega) with rfl | rfl | rfl | rfl | rfl | rfl | rfl | rfl | rfl | rfl | rfl | rfl | rfl | rfl | rfl | rfl | rfl | rfl | rfl | rfl | rfl | rfl | rfl <;> (intro args w; kernel_rfl)
structure EnvV (w : World) (E : Me) (tv cv iv ev : Value) : Prop where
  t : recS.Row w tv E.tx
  c : recIns.Row w cv E.code
  i : recS.Row w iv E.ins
  e : recJ.Row w ev E.ends
  g : GlobV w
  d : ∀ k, 1 ≤ k → k ≤ 23 → w.cell? ⟨0, k, none⟩ = some (.func (.func (doesL.getD k 0)) #[] #[])
def mapPq {base : Nat} (M : Nat) (n : Nat) (c : Int → Nat) : Pt base :=
  ⟨fun k => k = M, fun w => base ≤ M ∧ mapI w M n c, fun h hc hX => ⟨h.1, h.2.block (hc.block _ h.2.lt (hX _ rfl))⟩, fun h k hk => by subst hk; exact ⟨h.1, h.2.lt⟩⟩
def MS (base : Nat) (w : World) (G M : Nat) (E : Me) (tv cv iv ev : Value) (tr : List Int) (at_ : Int) (st rg : List MV) (op : List (Nat × List (List UInt8))) (pr : List (List UInt8 × List UInt8)) : Prop :=
  ∃ eos stv opv prv trv, MR base w G ⟨tv, cv, iv, ev, .map (some M), [], 0⟩ at_ st rg eos pr tr stv opv prv trv [mapPq M E.code.length (cntEnd E.code E.ends E.code.length)] ∧ opsOf eos = op ∧ ∀ e ∈ eos, e.rest.length ≤ 1024
section
variable {nt inp : Nat} {role : UInt8} {E : Me}
theorem loops_le (G : GoodM nt inp role E) {i : Nat} (hi : i ≤ E.code.length) : (loopsB (sM nt inp role E i)).length ≤ i := by
  have hr := (G.run hi).inv
  unfold loopsB
  rw [List.length_reverse, List.length_map]
  refine Nat.le_trans (List.length_filter_le _ _) ?_
  have := asc_len _ 0 i hr.st (fun x hx => by
    obtain ⟨b, hb, rfl⟩ := List.mem_map.1 hx
    exact ⟨Nat.zero_le _, (hr.bl b hb).1⟩)
  rw [List.length_map] at this
  omega
theorem ends_len (G : GoodM nt inp role E) : E.ends.length = E.code.length := by
  rw [G.ends]; exact (G.run (Nat.le_refl _)).inv.el
set_option maxRecDepth 100000 in
set_option maxHeartbeats 4000000 in
theorem step_any {base Gb M : Nat} {w : World} {tv cv iv ev : Value} {tr : List Int} {pc : Nat} {st rg : List MV} {op : List (Nat × List (List UInt8))} {pr : List (List UInt8 × List UInt8)} {n : Nat} {y : UInt8}
    (G : GoodM nt inp role E) (hnt : nt ≤ 1000) (hinp : inp ≤ 1000) (hcl : E.code.length ≤ 256) (h : OkM (sM nt inp role E) E ⟨pc, st, rg, op, pr⟩) (hpc : pc < E.code.length) (hn : (E.code.getD pc (0, 0)).1.toNat = n) (hy : (E.code.getD pc (0, 0)).2 = y)
    (hM : MS base w Gb M E tv cv iv ev tr (pc : Int) st rg op pr) (hE : ∀ w', Below base w w' → EnvV w' E tv cv iv ev) :
    Calls Tryz.prog (doesL.getD n 0) #[.pointer (some ⟨Gb, 0, none⟩), .int .u8 (y.toNat : Int)] w fun r w' => r = .returned (.int .i64 ((doN E n y pc st rg op pr).1 : Int)) ∧
      ((doN E n y pc st rg op pr).1 = 0 → MS base w' Gb M E tv cv iv ev tr (((doN E n y pc st rg op pr).2.pc : Int) - 1) (doN E n y pc st rg op pr).2.st (doN E n y pc st rg op pr).2.rg (doN E n y pc st rg op pr).2.op (doN E n y pc st rg op pr).2.pr) ∧ Below base w w' := by
  have hst : st.length = (sM nt inp role E pc).kinds.length := h.st
  have hopl : op.map (·.1) = loopsB (sM nt inp role E pc) := h.op
  have hsv : ∀ v ∈ st, vOk v := h.sv
  have hpr : pr.length ≤ 256 := h.pr
  have hk16 := (G.run (Nat.le_of_lt hpc)).k
  have hl16 : st.length ≤ 16 := by rw [hst]; exact hk16
  have hel := ends_len G
  obtain ⟨eos, stv, opv, prv, trv, hm, hop, hre⟩ := hM
  have heo : eos.length ≤ 256 := by
    have h1 := loops_le G (Nat.le_of_lt hpc)
    rw [← hopl, List.length_map, ← hop, opsOf_length] at h1
    omega
  have hx : insOk (E.code.getD pc (0, 0)) = true := getD_ok (P := fun x => insOk x = true) G.may hpc _
  have hx1 : 1 ≤ (E.code.getD pc (0, 0)).1.toNat ∧ (E.code.getD pc (0, 0)).1.toNat ≤ 23 := by
    unfold insOk at hx
    simp at hx
    exact hx.1
  obtain ⟨hs, ho⟩ := G.step hpc
  obtain ⟨g1, g3, g17, g23⟩ := there_args ho.th
  have hu : ∀ k : UInt8, k.toNat = n → (E.code.getD pc (0, 0)).1 = k := fun k hk => UInt8.toNat_inj.1 (hn.trans hk.symm)
  have hpl := fun (h19 : n ≠ 19) (h20 : n ≠ 20) (h21 : n ≠ 21) (h22 : n ≠ 22) => plain_step G hpc hn (by omega) h19 h20 h21 h22
  rw [hn] at hx1
  rw [← hst] at hpl
  rw [hy] at g1 g3 g17
  have hp1 : ((pc + 1 : Nat) : Int) - 1 = (pc : Int) := by omega
  have hEw := hE w (Below.refl _ _)
  have hGl : ∀ w', Below base w w' → GlobV w' := fun w' hB => (hE w' hB).g
  have hJ : ∀ w', Below base w w' → recJ.Row w' ev E.ends := fun w' hB => (hE w' hB).e
  clear hx hn
  rcases (show n = 1 ∨ n = 2 ∨ n = 3 ∨ n = 4 ∨ n = 5 ∨ n = 6 ∨ n = 7 ∨ n = 8 ∨ n = 9 ∨ n = 10 ∨ n = 11 ∨ n = 12 ∨ n = 13 ∨ n = 14 ∨ n = 15 ∨ n = 16 ∨ n = 17 ∨ n = 18 ∨ n = 19 ∨ n = 20 ∨ n = 21 ∨ n = 22 ∨ n = 23 by omega) with rfl | rfl | rfl | rfl | rfl | rfl | rfl | rfl | rfl | rfl | rfl | rfl | rfl | rfl | rfl | rfl | rfl | rfl | rfl | rfl | rfl | rfl | rfl
  · obtain ⟨l1, l2, l3⟩ := hpl (by decide) (by decide) (by decide) (by decide)
    have hd : doN E 1 y pc (st) rg op pr = (0, ⟨pc + 1, (0, E.tx.getD y.toNat []) :: st, rg, op, pr⟩) := rfl
    rw [hd]
    refine (vtext_any y hm (by omega) hEw.t (by rw [G.txl]; exact g1 (hu 1 rfl)) (by rw [G.txl]; omega)).mono ?_
    rintro r w' ⟨rfl, ⟨sv, hm'⟩, hB⟩
    exact ⟨rfl, fun _ => ⟨eos, _, _, _, _, by show MR base w' Gb _ (((pc + 1 : Nat) : Int) - 1) _ _ eos pr tr _ _ _ _ _; rw [hp1]; exact hm', hop, hre⟩, hB⟩
  · obtain ⟨l1, l2, l3⟩ := hpl (by decide) (by decide) (by decide) (by decide)
    have hd : doN E 2 y pc (st) rg op pr = (0, ⟨pc + 1, ((y.toNat : Int), []) :: st, rg, op, pr⟩) := rfl
    rw [hd]
    refine (vnum_any y hm (by omega)).mono ?_
    rintro r w' ⟨rfl, ⟨sv, hm'⟩, hB⟩
    exact ⟨rfl, fun _ => ⟨eos, _, _, _, _, by show MR base w' Gb _ (((pc + 1 : Nat) : Int) - 1) _ _ eos pr tr _ _ _ _ _; rw [hp1]; exact hm', hop, hre⟩, hB⟩
  · obtain ⟨l1, l2, l3⟩ := hpl (by decide) (by decide) (by decide) (by decide)
    have hd : doN E 3 y pc (st) rg op pr = (0, ⟨pc + 1, (0, E.ins.getD y.toNat []) :: st, rg, op, pr⟩) := rfl
    rw [hd]
    refine (vinput_any y hm (by omega) hEw.i (by rw [G.inl]; exact g3 (hu 3 rfl)) (by rw [G.inl]; omega)).mono ?_
    rintro r w' ⟨rfl, ⟨sv, hm'⟩, hB⟩
    exact ⟨rfl, fun _ => ⟨eos, _, _, _, _, by show MR base w' Gb _ (((pc + 1 : Nat) : Int) - 1) _ _ eos pr tr _ _ _ _ _; rw [hp1]; exact hm', hop, hre⟩, hB⟩
  · obtain ⟨l1, l2, l3⟩ := hpl (by decide) (by decide) (by decide) (by decide)
    obtain ⟨b, a, s, rfl⟩ := two_of (show 2 ≤ st.length from l1)
    have hd : doN E 4 y pc (b :: a :: s) rg op pr = if 1024 < a.2.length + b.2.length then (5, ⟨pc, b :: a :: s, rg, op, pr⟩) else (0, ⟨pc + 1, (0, a.2 ++ b.2) :: s, rg, op, pr⟩) := rfl
    rw [hd]
    refine (vcat_any y a b hm (by simp at hl16; omega) (head_ok (tail_ok hsv)).2.2 (head_ok hsv).2.2).mono ?_
    rintro r w' ⟨(⟨hc, rfl⟩ | ⟨hc, rfl, sv, hm'⟩), hB⟩
    · rw [if_pos hc]
      exact ⟨rfl, fun h0 => absurd h0 (by simp), hB⟩
    · rw [if_neg hc]
      exact ⟨rfl, fun _ => ⟨eos, _, _, _, _, by show MR base w' Gb _ (((pc + 1 : Nat) : Int) - 1) _ rg eos pr tr _ _ _ _ _; rw [hp1]; exact hm', hop, hre⟩, hB⟩
  · obtain ⟨l1, l2, l3⟩ := hpl (by decide) (by decide) (by decide) (by decide)
    obtain ⟨a, s, rfl⟩ := one_of (show 1 ≤ st.length from l1)
    have hd : doN E 5 y pc (a :: s) rg op pr = (0, ⟨pc + 1, ((a.2.length : Int), []) :: s, rg, op, pr⟩) := rfl
    rw [hd]
    refine (vsize_any y a hm (by simp at hl16; omega) (head_ok hsv).2.2).mono ?_
    rintro r w' ⟨rfl, ⟨sv, hm'⟩, hB⟩
    exact ⟨rfl, fun _ => ⟨eos, _, _, _, _, by show MR base w' Gb _ (((pc + 1 : Nat) : Int) - 1) _ _ eos pr tr _ _ _ _ _; rw [hp1]; exact hm', hop, hre⟩, hB⟩
  · obtain ⟨l1, l2, l3⟩ := hpl (by decide) (by decide) (by decide) (by decide)
    obtain ⟨n, a, t, s, rfl⟩ := three_of (show 3 ≤ st.length from l1)
    have hd : doN E 6 y pc (n :: a :: t :: s) rg op pr = (0, ⟨pc + 1, (0, partM t.2 a.1 n.1) :: s, rg, op, pr⟩) := rfl
    rw [hd]
    refine (vpart_any y n a t hm (by simp at hl16; omega) (head_ok hsv) (head_ok (tail_ok hsv)) (head_ok (tail_ok (tail_ok hsv)))).mono ?_
    rintro r w' ⟨rfl, ⟨sv, hm'⟩, hB⟩
    exact ⟨rfl, fun _ => ⟨eos, _, _, _, _, by show MR base w' Gb _ (((pc + 1 : Nat) : Int) - 1) _ _ eos pr tr _ _ _ _ _; rw [hp1]; exact hm', hop, hre⟩, hB⟩
  · obtain ⟨l1, l2, l3⟩ := hpl (by decide) (by decide) (by decide) (by decide)
    obtain ⟨a, s, rfl⟩ := one_of (show 1 ≤ st.length from l1)
    have hd : doN E 7 y pc (a :: s) rg op pr = (0, ⟨pc + 1, (parseM a.2, []) :: s, rg, op, pr⟩) := rfl
    rw [hd]
    refine (vparse_any y a hm (by simp at hl16; omega) (head_ok hsv) hGl).mono ?_
    rintro r w' ⟨rfl, ⟨sv, hm'⟩, hB⟩
    exact ⟨rfl, fun _ => ⟨eos, _, _, _, _, by show MR base w' Gb _ (((pc + 1 : Nat) : Int) - 1) _ _ eos pr tr _ _ _ _ _; rw [hp1]; exact hm', hop, hre⟩, hB⟩
  · obtain ⟨l1, l2, l3⟩ := hpl (by decide) (by decide) (by decide) (by decide)
    obtain ⟨a, s, rfl⟩ := one_of (show 1 ≤ st.length from l1)
    have hd : doN E 8 y pc (a :: s) rg op pr = (0, ⟨pc + 1, (0, Lib.itoa a.1) :: s, rg, op, pr⟩) := rfl
    rw [hd]
    refine (vshow_any y a hm (by simp at hl16; omega) (head_ok hsv) (fun w' hB => (hGl w' hB).tab)).mono ?_
    rintro r w' ⟨rfl, ⟨sv, hm'⟩, hB⟩
    exact ⟨rfl, fun _ => ⟨eos, _, _, _, _, by show MR base w' Gb _ (((pc + 1 : Nat) : Int) - 1) _ _ eos pr tr _ _ _ _ _; rw [hp1]; exact hm', hop, hre⟩, hB⟩
  · obtain ⟨l1, l2, l3⟩ := hpl (by decide) (by decide) (by decide) (by decide)
    obtain ⟨b, a, s, rfl⟩ := two_of (show 2 ≤ st.length from l1)
    have hd : doN E 9 y pc (b :: a :: s) rg op pr = (0, ⟨pc + 1, (wrap64 (a.1 + b.1), []) :: s, rg, op, pr⟩) := rfl
    rw [hd]
    refine (vadd_any y a b hm (by simp at hl16; omega)).mono ?_
    rintro r w' ⟨rfl, ⟨sv, hm'⟩, hB⟩
    exact ⟨rfl, fun _ => ⟨eos, _, _, _, _, by show MR base w' Gb _ (((pc + 1 : Nat) : Int) - 1) _ _ eos pr tr _ _ _ _ _; rw [hp1]; exact hm', hop, hre⟩, hB⟩
  · obtain ⟨l1, l2, l3⟩ := hpl (by decide) (by decide) (by decide) (by decide)
    obtain ⟨b, a, s, rfl⟩ := two_of (show 2 ≤ st.length from l1)
    have hd : doN E 10 y pc (b :: a :: s) rg op pr = (0, ⟨pc + 1, (wrap64 (a.1 * b.1), []) :: s, rg, op, pr⟩) := rfl
    rw [hd]
    refine (vmul_any y a b hm (by simp at hl16; omega)).mono ?_
    rintro r w' ⟨rfl, ⟨sv, hm'⟩, hB⟩
    exact ⟨rfl, fun _ => ⟨eos, _, _, _, _, by show MR base w' Gb _ (((pc + 1 : Nat) : Int) - 1) _ _ eos pr tr _ _ _ _ _; rw [hp1]; exact hm', hop, hre⟩, hB⟩
  · obtain ⟨l1, l2, l3⟩ := hpl (by decide) (by decide) (by decide) (by decide)
    obtain ⟨b, a, s, rfl⟩ := two_of (show 2 ≤ st.length from l1)
    have hd : doN E 11 y pc (b :: a :: s) rg op pr = (0, ⟨pc + 1, bitM (decide (a.1 < b.1)) :: s, rg, op, pr⟩) := rfl
    rw [hd]
    refine (vless_any y a b hm (by simp at hl16; omega)).mono ?_
    rintro r w' ⟨rfl, ⟨sv, hm'⟩, hB⟩
    exact ⟨rfl, fun _ => ⟨eos, _, _, _, _, by show MR base w' Gb _ (((pc + 1 : Nat) : Int) - 1) _ _ eos pr tr _ _ _ _ _; rw [hp1]; exact hm', hop, hre⟩, hB⟩
  · obtain ⟨l1, l2, l3⟩ := hpl (by decide) (by decide) (by decide) (by decide)
    obtain ⟨b, a, s, rfl⟩ := two_of (show 2 ≤ st.length from l1)
    have hd : doN E 12 y pc (b :: a :: s) rg op pr = (0, ⟨pc + 1, bitM (a.2 == b.2) :: s, rg, op, pr⟩) := rfl
    rw [hd]
    refine (vsame_any y a b hm (by simp at hl16; omega)).mono ?_
    rintro r w' ⟨rfl, ⟨sv, hm'⟩, hB⟩
    exact ⟨rfl, fun _ => ⟨eos, _, _, _, _, by show MR base w' Gb _ (((pc + 1 : Nat) : Int) - 1) _ _ eos pr tr _ _ _ _ _; rw [hp1]; exact hm', hop, hre⟩, hB⟩
  · obtain ⟨l1, l2, l3⟩ := hpl (by decide) (by decide) (by decide) (by decide)
    obtain ⟨a, s, rfl⟩ := one_of (show 1 ≤ st.length from l1)
    have hd : doN E 13 y pc (a :: s) rg op pr = (0, ⟨pc + 1, bitM (a.1 == 0) :: s, rg, op, pr⟩) := rfl
    rw [hd]
    refine (vnot_any y a hm (by simp at hl16; omega)).mono ?_
    rintro r w' ⟨rfl, ⟨sv, hm'⟩, hB⟩
    exact ⟨rfl, fun _ => ⟨eos, _, _, _, _, by show MR base w' Gb _ (((pc + 1 : Nat) : Int) - 1) _ _ eos pr tr _ _ _ _ _; rw [hp1]; exact hm', hop, hre⟩, hB⟩
  · obtain ⟨l1, l2, l3⟩ := hpl (by decide) (by decide) (by decide) (by decide)
    obtain ⟨a, s, rfl⟩ := one_of (show 1 ≤ st.length from l1)
    have hd : doN E 14 y pc (a :: s) rg op pr = (0, ⟨pc + 1, s, rg, op, pr⟩) := rfl
    rw [hd]
    refine (vdrop_any y a hm (by simp at hl16; omega)).mono ?_
    rintro r w' ⟨rfl, ⟨sv, hm'⟩, hB⟩
    exact ⟨rfl, fun _ => ⟨eos, _, _, _, _, by show MR base w' Gb _ (((pc + 1 : Nat) : Int) - 1) _ _ eos pr tr _ _ _ _ _; rw [hp1]; exact hm', hop, hre⟩, hB⟩
  · obtain ⟨l1, l2, l3⟩ := hpl (by decide) (by decide) (by decide) (by decide)
    obtain ⟨a, s, rfl⟩ := one_of (show 1 ≤ st.length from l1)
    have hd : doN E 15 y pc (a :: s) rg op pr = (0, ⟨pc + 1, a :: a :: s, rg, op, pr⟩) := rfl
    rw [hd]
    refine (vdup_any y a hm (by simp at hl16; omega)).mono ?_
    rintro r w' ⟨rfl, ⟨sv, hm'⟩, hB⟩
    exact ⟨rfl, fun _ => ⟨eos, _, _, _, _, by show MR base w' Gb _ (((pc + 1 : Nat) : Int) - 1) _ _ eos pr tr _ _ _ _ _; rw [hp1]; exact hm', hop, hre⟩, hB⟩
  · obtain ⟨l1, l2, l3⟩ := hpl (by decide) (by decide) (by decide) (by decide)
    obtain ⟨b, a, s, rfl⟩ := two_of (show 2 ≤ st.length from l1)
    have hd : doN E 16 y pc (b :: a :: s) rg op pr = (0, ⟨pc + 1, a :: b :: s, rg, op, pr⟩) := rfl
    rw [hd]
    refine (vswap_any y a b hm (by simp at hl16; omega)).mono ?_
    rintro r w' ⟨rfl, ⟨sv, hm'⟩, hB⟩
    exact ⟨rfl, fun _ => ⟨eos, _, _, _, _, by show MR base w' Gb _ (((pc + 1 : Nat) : Int) - 1) _ _ eos pr tr _ _ _ _ _; rw [hp1]; exact hm', hop, hre⟩, hB⟩
  · obtain ⟨l1, l2, l3⟩ := hpl (by decide) (by decide) (by decide) (by decide)
    have hd : doN E 17 y pc (st) rg op pr = (0, ⟨pc + 1, rg.getD y.toNat (0, []) :: st, rg, op, pr⟩) := rfl
    rw [hd]
    refine (vget_any y (g17 (.inl (hu 17 rfl))) hm (by omega)).mono ?_
    rintro r w' ⟨rfl, ⟨sv, hm'⟩, hB⟩
    exact ⟨rfl, fun _ => ⟨eos, _, _, _, _, by show MR base w' Gb _ (((pc + 1 : Nat) : Int) - 1) _ _ eos pr tr _ _ _ _ _; rw [hp1]; exact hm', hop, hre⟩, hB⟩
  · obtain ⟨l1, l2, l3⟩ := hpl (by decide) (by decide) (by decide) (by decide)
    obtain ⟨a, s, rfl⟩ := one_of (show 1 ≤ st.length from l1)
    have hd : doN E 18 y pc (a :: s) rg op pr = (0, ⟨pc + 1, s, rg.set y.toNat a, op, pr⟩) := rfl
    rw [hd]
    refine (vset_any y (g17 (.inr (hu 18 rfl))) a hm (by simp at hl16; omega)).mono ?_
    rintro r w' ⟨rfl, ⟨sv, hm'⟩, hB⟩
    exact ⟨rfl, fun _ => ⟨eos, _, _, _, _, by show MR base w' Gb _ (((pc + 1 : Nat) : Int) - 1) _ _ eos pr tr _ _ _ _ _; rw [hp1]; exact hm', hop, hre⟩, hB⟩
  · obtain ⟨e, e1, e2, e3, e4, e5, e6, -⟩ := behind_open G hpc (.inl (hu 19 rfl))
    rw [← hst] at e5
    obtain ⟨a, s, rfl⟩ := one_of e5
    have hd : doN E 19 y pc (a :: s) rg op pr = (0, ⟨if a.1 = 0 then (E.ends.getD pc 0).toNat + 1 else pc + 1, s, rg, op, pr⟩) := rfl
    rw [hd]
    have hpe : pc < E.ends.length := by rw [hel]; exact hpc
    have hge : E.ends.getD pc 0 = E.ends[pc] := by rw [List.getD_eq_getElem?_getD, List.getElem?_eq_getElem hpe]; rfl
    refine (vbranch_any y a pc hm (by simp at hl16; omega) hJ hpe (by omega)).mono ?_
    rintro r w' ⟨rfl, ⟨sv, hm'⟩, hB⟩
    refine ⟨rfl, fun _ => ⟨eos, sv, opv, prv, trv, ?_, hop, hre⟩, hB⟩
    have hv : ((if a.1 = 0 then (E.ends.getD pc 0).toNat + 1 else pc + 1 : Nat) : Int) - 1 = if a.1 = 0 then E.ends[pc] else (pc : Int) := by
      split
      · rw [e3] at hge ⊢; rw [← hge]; simp
      · exact hp1
    show MR base w' Gb _ (((if a.1 = 0 then (E.ends.getD pc 0).toNat + 1 else pc + 1 : Nat) : Int) - 1) s rg eos pr tr sv _ _ _ _
    rw [hv]
    exact hm'
  · obtain ⟨e, e1, e2, e3, e4, e5⟩ := at_else G hpc (hu 20 rfl)
    have hd : doN E 20 y pc st rg op pr = (0, ⟨(E.ends.getD pc 0).toNat, st, rg, op, pr⟩) := rfl
    rw [hd]
    have hpe : pc < E.ends.length := by rw [hel]; exact hpc
    have hge : E.ends.getD pc 0 = E.ends[pc] := by rw [List.getD_eq_getElem?_getD, List.getElem?_eq_getElem hpe]; rfl
    rw [e3] at hge
    refine (vturn_any y pc hm hEw.e hpe (by omega) (by rw [← hge]; omega)).mono ?_
    rintro r w' ⟨rfl, hm', hB⟩
    refine ⟨rfl, fun _ => ⟨eos, stv, opv, prv, trv, ?_, hop, hre⟩, hB⟩
    rw [← hge] at hm'
    show MR base w' Gb _ (((E.ends.getD pc 0).toNat : Int) - 1) st rg eos pr tr _ _ _ _ _
    rw [e3]
    exact hm'
  · have hd : doN E 21 y pc st rg op pr = if loopEnd E pc = true then (match op with | (a, p :: ps) :: o => (0, ⟨a + 1, (0, p) :: st, rg, (a, ps) :: o, pr⟩) | (_, []) :: o => (0, ⟨pc + 1, st, rg, o, pr⟩) | [] => (99, ⟨pc, st, rg, op, pr⟩)) else (0, ⟨pc + 1, st, rg, op, pr⟩) := rfl
    rw [hd]
    have hmp : base ≤ M ∧ mapI w M E.code.length (cntEnd E.code E.ends E.code.length) := hm.loc (p := mapPq M E.code.length (cntEnd E.code E.ends E.code.length)) (by simp)
    have hz := cntEnd_zero E pc
    cases hle : loopEnd E pc with
    | false =>
      rw [if_neg (by simp)]
      refine (vend_not y pc _ _ hm hmp.2 (hz.2 hle) (by omega)).mono ?_
      rintro r w' ⟨rfl, hB⟩
      exact ⟨rfl, fun _ => ⟨eos, _, _, _, _, by show MR base w' Gb _ (((pc + 1 : Nat) : Int) - 1) st rg eos pr tr _ _ _ _ _; rw [hp1]; exact hm.below hB, hop, hre⟩, hB.mono hm.size⟩
    | true =>
      rw [if_pos rfl]
      have hne : cntEnd E.code E.ends E.code.length (pc : Int) ≠ 0 := fun h0 => by rw [hz.1 h0] at hle; cases hle
      obtain ⟨j, b, e1, e2, e3, e4, e5, e6, e7, e8⟩ := at_end G hpc (hu 21 rfl)
      have hle2 := loopEnd_of e5 (by omega) e4
      rw [hle] at hle2
      have h22 : b.op = 22 := e2.1 (by simpa using hle2.symm)
      rw [if_pos h22] at e6
      rw [e6] at hopl
      match op, hop, hopl with
      | [], _, hopl => cases hopl
      | (a, ps0) :: o, hop, _ =>
        obtain ⟨l, e, rfl, ha, hps, ho2⟩ := opsOf_cons hop
        subst ha hps
        refine (vend_loop y pc _ _ hm hmp.2 hne (by omega) (by omega) (by simp at heo; omega) (hre e (by simp)) hGl).mono ?_
        rintro r w' ⟨rfl, (⟨hno, ov', hm'⟩ | ⟨p, ps, hps, sv', e', he1, he2, he3, hm'⟩), hB⟩
        · rw [hno]
          exact ⟨rfl, fun _ => ⟨l, _, _, _, _, by show MR base w' Gb _ (((pc + 1 : Nat) : Int) - 1) st rg l pr tr _ _ _ _ _; rw [hp1]; exact hm', ho2, fun x hx => hre x (by simp [hx])⟩, hB⟩
        · rw [hps]
          refine ⟨rfl, fun _ => ⟨l ++ [e'], _, _, _, _, by show MR base w' Gb _ (((e.at_ + 1 : Nat) : Int) - 1) ((0, p) :: st) rg (l ++ [e']) pr tr _ _ _ _ _; rw [show ((e.at_ + 1 : Nat) : Int) - 1 = (e.at_ : Int) by omega]; exact hm', by rw [opsOf_snoc, he1, he2, ho2], fun x hx => ?_⟩, hB⟩
          rcases List.mem_append.1 hx with hx | hx
          · exact hre x (by simp [hx])
          · rw [List.mem_singleton] at hx; subst hx; exact he3
  · obtain ⟨e, e1, e2, e3, e4, e5, e6, -⟩ := behind_open G hpc (.inr (hu 22 rfl))
    rw [← hst] at e5
    obtain ⟨a, s, rfl⟩ := one_of e5
    have hd : doN E 22 y pc (a :: s) rg op pr = (match piecesM a.2 y with | [] => (0, ⟨(E.ends.getD pc 0).toNat + 1, s, rg, op, pr⟩) | p :: ps => (0, ⟨pc + 1, (0, p) :: s, rg, (pc, ps) :: op, pr⟩)) := rfl
    rw [hd]
    have hpe : pc < E.ends.length := by rw [hel]; exact hpc
    have hge : E.ends.getD pc 0 = E.ends[pc] := by rw [List.getD_eq_getElem?_getD, List.getElem?_eq_getElem hpe]; rfl
    refine (veach_any a y pc hm (by simp at hl16; omega) (by omega) (head_ok hsv).2.2 hGl hJ hpe (by omega)).mono ?_
    rintro r w' ⟨rfl, (⟨hno, sv', hm'⟩ | ⟨p, ps, hps, sv', ov', e', he1, he2, he3, hm'⟩), hB⟩
    · have hpn : piecesM a.2 y = [] := by rw [hno]; rfl
      rw [hpn]
      refine ⟨rfl, fun _ => ⟨eos, sv', opv, prv, trv, ?_, hop, hre⟩, hB⟩
      show MR base w' Gb _ ((((E.ends.getD pc 0).toNat + 1 : Nat) : Int) - 1) s rg eos pr tr _ _ _ _ _
      rw [← hge] at hm'
      rw [e3] at hm' ⊢
      rw [show (((e : Int).toNat + 1 : Nat) : Int) - 1 = (e : Int) by omega]
      exact hm'
    · rw [hps]
      refine ⟨rfl, fun _ => ⟨eos ++ [e'], _, _, _, _, by show MR base w' Gb _ (((pc + 1 : Nat) : Int) - 1) ((0, p) :: s) rg (eos ++ [e']) pr tr _ _ _ _ _; rw [hp1]; exact hm', by rw [opsOf_snoc, he1, he2, hop], fun x hx => ?_⟩, hB⟩
      rcases List.mem_append.1 hx with hx | hx
      · exact hre x hx
      · rw [List.mem_singleton] at hx; subst hx; exact he3
  · obtain ⟨l1, l2, l3⟩ := hpl (by decide) (by decide) (by decide) (by decide)
    obtain ⟨b, a, s, rfl⟩ := two_of (show 2 ≤ st.length from l1)
    have hd : doN E 23 y pc (b :: a :: s) rg op pr = if 256 ≤ pr.length then (4, ⟨pc, b :: a :: s, rg, op, pr⟩) else (0, ⟨pc + 1, s, rg, op, pr ++ [(a.2, b.2)]⟩) := rfl
    rw [hd]
    refine (vemit_any y a b hm (by simp at hl16; omega) hpr).mono ?_
    rintro r w' ⟨(⟨hc, rfl⟩ | ⟨hc, rfl, sv, pv, hm'⟩), hB⟩
    · rw [if_pos hc]
      exact ⟨rfl, fun h0 => absurd h0 (by simp), hB⟩
    · rw [if_neg hc]
      exact ⟨rfl, fun _ => ⟨eos, _, _, _, _, by show MR base w' Gb _ (((pc + 1 : Nat) : Int) - 1) _ rg eos _ tr _ _ _ _ _; rw [hp1]; exact hm', hop, hre⟩, hB⟩
end
end Go.Proofs.YtndagciefnddmaaGreatDoor
namespace Go.Proofs.YtndagciefnddmaaGreatDoor
open Go.RowKit Oct
def opsL (los : List Lo) : List (Nat × List (List UInt8)) := los.reverse.map fun e => (e.at_, e.ps)
theorem opsL_snoc (los : List Lo) (e : Lo) : opsL (los ++ [e]) = (e.at_, e.ps) :: opsL los := by unfold opsL; rw [List.reverse_append]; rfl
theorem opsL_length (los : List Lo) : (opsL los).length = los.length := by unfold opsL; simp
theorem opsL_cons {los : List Lo} {a : Nat} {ps : List (List UInt8)} {o : List (Nat × List (List UInt8))} (h : opsL los = (a, ps) :: o) : ∃ l e, los = l ++ [e] ∧ e.at_ = a ∧ e.ps = ps ∧ opsL l = o := by
  rcases List.eq_nil_or_concat los with rfl | ⟨l, e, rfl⟩
  · cases h
  · rw [List.concat_eq_append, opsL_snoc] at h
    injection h with h1 h2
    injection h1 with h3 h4
    exact ⟨l, e, by rw [List.concat_eq_append], h3, h4, h2⟩
def stS (at_ : Int) (st rg : List MV) (op : List (Nat × List (List UInt8))) (pr : List (List UInt8 × List UInt8)) : StR := fun a s r l p => a = at_ ∧ s.map (·.2) = st ∧ r.map (·.2) = rg ∧ opsL l = op ∧ p = pr
structure EnvR (w : World) (E : Me) (tv cv iv ev ow : Value) (own : List Int) : Prop where
  t : recS.Row w tv E.tx
  c : recIns.Row w cv E.code
  i : recS.Row w iv E.ins
  e : recJ.Row w ev E.ends
  o : recJ.Row w ow own
  g : GlobV w
structure OwnOk (E : Me) (own : List Int) : Prop where
  len : own.length = E.code.length
  at_ : ∀ i, i < E.code.length → opV E.code i = 21 → ∃ j : Nat, own.getD i 0 = (j : Int) ∧ j < E.code.length ∧ (opV E.code j = 22 ↔ loopEnd E i = true)
section
variable {base G n : Nat} {y : UInt8} {w0 w w' : World} {f : Rf} {φ : StR}
theorem noneA (hn : n ≠ 1 ∧ n ≠ 2 ∧ n ≠ 3 ∧ n ≠ 14 ∧ n ≠ 15 ∧ n ≠ 16 ∧ n ≠ 17 ∧ n ≠ 18) : Does base G f 118 n y w0 φ φ :=
  fun w1 X _ h => (rany_none n y w1 hn).mono fun r w' ⟨hr, hB⟩ => ⟨hr, h.below hB, hB.mono h.size⟩
theorem noneN (hn : n ≠ 8 ∧ n ≠ 13 ∧ n ≠ 9 ∧ n ≠ 10 ∧ n ≠ 11) : Does base G f 119 n y w0 φ φ :=
  fun w1 X _ h => (rnumbers_none n y w1 hn).mono fun r w' ⟨hr, hB⟩ => ⟨hr, h.below hB, hB.mono h.size⟩
theorem noneT (hn : n ≠ 4 ∧ n ≠ 5 ∧ n ≠ 6 ∧ n ≠ 7 ∧ n ≠ 12 ∧ n ≠ 23) : ∀ (w1 : World) (X : List (Pt base)), Below base w0 w1 → RS base w1 G f X φ → Calls Tryz.prog 120 #[.pointer (some ⟨G, 0, none⟩), .agg #[.int .u8 (n : Int), .int .u8 (y.toNat : Int)]] w1 fun r w' => r = .returned (.int .i64 ((0 : Nat) : Int)) ∧ ((0 : Nat) = 0 → RS base w' G f X φ) ∧ Below base w1 w' :=
  fun w1 X _ h => (rtexts_none n y w1 hn).mono fun r w' ⟨hr, hB⟩ => ⟨hr, fun _ => h.below hB, hB.mono h.size⟩
theorem noneB (hn : n ≠ 19 ∧ n ≠ 20 ∧ n ≠ 22 ∧ n ≠ 21) : Does base G f 121 n y w0 φ φ :=
  fun w1 X _ h => by
    obtain ⟨a, s, r, l, p, sv, lv, prv, h1, h2⟩ := h
    exact (rblocks_none n y h1 hn).mono fun r' w' ⟨hr, hB⟩ => ⟨hr, ⟨a, s, r, l, p, sv, lv, prv, h1.below hB, h2⟩, hB.mono h1.size⟩
end
section
variable {nt inp : Nat} {role : UInt8} {E : Me}
theorem getD_map2 (l : List RV) (i : Nat) : (l.map (·.2)).getD i (0, []) = (l.getD i (false, 0, [])).2 := by
  simp only [List.getD_eq_getElem?_getD, List.getElem?_map]
  cases l[i]? <;> rfl
theorem map_set2 (l : List RV) (i : Nat) (v : RV) : (l.set i v).map (·.2) = (l.map (·.2)).set i v.2 := List.map_set
theorem map_ok {st : List RV} (h : ∀ v ∈ st.map (·.2), vOk v) : ∀ v ∈ st, vOk v.2 := fun v hv => h v.2 (List.mem_map_of_mem hv)
set_option maxRecDepth 100000 in
set_option maxHeartbeats 4000000 in
theorem rstep_any {base Gb : Nat} {w : World} {tv cv iv ev ow : Value} {own : List Int} {pc : Nat} {st rg : List MV} {op : List (Nat × List (List UInt8))} {pr : List (List UInt8 × List UInt8)} {n : Nat} {y : UInt8} {X : List (Pt base)}
    (G : GoodM nt inp role E) (hnt : nt ≤ 1000) (hinp : inp ≤ 1000) (hcl : E.code.length ≤ 256) (h : OkM (sM nt inp role E) E ⟨pc, st, rg, op, pr⟩) (hpc : pc < E.code.length) (hn : (E.code.getD pc (0, 0)).1.toNat = n) (hy : (E.code.getD pc (0, 0)).2 = y)
    (hM : RS base w Gb ⟨tv, cv, iv, ev, ow⟩ X (stS (pc : Int) st rg op pr)) (hE : ∀ w', Below base w w' → EnvR w' E tv cv iv ev ow own) (hown : OwnOk E own) :
    Calls Tryz.prog 96 #[.pointer (some ⟨Gb, 0, none⟩)] w fun r w' => r = .returned (.int .i64 ((doN E n y pc st rg op pr).1 : Int)) ∧
      ((doN E n y pc st rg op pr).1 = 0 → RS base w' Gb ⟨tv, cv, iv, ev, ow⟩ X (stS ((doN E n y pc st rg op pr).2.pc : Int) (doN E n y pc st rg op pr).2.st (doN E n y pc st rg op pr).2.rg (doN E n y pc st rg op pr).2.op (doN E n y pc st rg op pr).2.pr)) ∧ Below base w w' := by
  obtain ⟨at_, s0, r0, los, pr0, sv, lv, prv, hm, hat, hs, hr, hlo, hpr0⟩ := hM
  subst hat hs hr hlo hpr0
  have hst : (s0.map (·.2)).length = (sM nt inp role E pc).kinds.length := h.st
  have hopl : (opsL los).map (·.1) = loopsB (sM nt inp role E pc) := h.op
  have hsv : ∀ v ∈ s0, vOk v.2 := map_ok h.sv
  have hov : ∀ o ∈ opsL los, o.2.length ≤ 1024 ∧ ∀ p ∈ o.2, p.length ≤ 1024 := h.ov
  have hpr : pr0.length ≤ 256 := h.pr
  have hk16 := (G.run (Nat.le_of_lt hpc)).k
  have hl16 : s0.length ≤ 16 := by rw [← List.length_map (f := (·.2)), hst]; exact hk16
  have hel := ends_len G
  have hrl := hm.rl
  have heo : los.length ≤ 256 := by
    have h1 := loops_le G (Nat.le_of_lt hpc)
    rw [← hopl, List.length_map, opsL_length] at h1
    omega
  have hx : insOk (E.code.getD pc (0, 0)) = true := getD_ok (P := fun x => insOk x = true) G.may hpc _
  have hx1 : 1 ≤ (E.code.getD pc (0, 0)).1.toNat ∧ (E.code.getD pc (0, 0)).1.toNat ≤ 23 := by
    unfold insOk at hx
    simp at hx
    exact hx.1
  obtain ⟨hs, ho⟩ := G.step hpc
  obtain ⟨g1, g3, g17, g23⟩ := there_args ho.th
  have hu : ∀ k : UInt8, k.toNat = n → (E.code.getD pc (0, 0)).1 = k := fun k hk => UInt8.toNat_inj.1 (hn.trans hk.symm)
  have hpl := fun (h19 : n ≠ 19) (h20 : n ≠ 20) (h21 : n ≠ 21) (h22 : n ≠ 22) => plain_step G hpc hn (by omega) h19 h20 h21 h22
  have hge : E.code.getD pc (0, 0) = E.code[pc] := by rw [List.getD_eq_getElem?_getD, List.getElem?_eq_getElem hpc]; rfl
  rw [hn] at hx1
  rw [← hst, List.length_map] at hpl
  rw [hy] at g1 g3 g17
  rw [hge] at hn hy
  have hEw := hE w (Below.refl _ _)
  have hGl : ∀ w1 w', Below base w w1 → Below base w1 w' → GlobV w' := fun w1 w' h1 h2 => (hE w' (h1.trans h2)).g
  have hJ : ∀ w1 w', Below base w w1 → Below base w1 w' → recJ.Row w' ev E.ends := fun w1 w' h1 h2 => (hE w' (h1.trans h2)).e
  have hp0 : -1 ≤ (pc : Int) ∧ (pc : Int) ≤ 1000 := by omega
  have hgen := fun (c : Nat) {φ1 φ2 φ3 φ4 : StR} => rStep_gen (φ1 := φ1) (φ2 := φ2) (φ3 := φ3) (φ4 := φ4) pc n y c hm hEw.c hpc (by omega) hn.symm hy.symm
  clear hx
  rcases (show n = 1 ∨ n = 2 ∨ n = 3 ∨ n = 4 ∨ n = 5 ∨ n = 6 ∨ n = 7 ∨ n = 8 ∨ n = 9 ∨ n = 10 ∨ n = 11 ∨ n = 12 ∨ n = 13 ∨ n = 14 ∨ n = 15 ∨ n = 16 ∨ n = 17 ∨ n = 18 ∨ n = 19 ∨ n = 20 ∨ n = 21 ∨ n = 22 ∨ n = 23 by omega) with rfl | rfl | rfl | rfl | rfl | rfl | rfl | rfl | rfl | rfl | rfl | rfl | rfl | rfl | rfl | rfl | rfl | rfl | rfl | rfl | rfl | rfl | rfl
  · obtain ⟨l1, l2, l3⟩ := hpl (by decide) (by decide) (by decide) (by decide)
    have hd : doN E 1 y pc (s0.map (·.2)) (r0.map (·.2)) (opsL los) pr0 = (0, ⟨pc + 1, (0, E.tx.getD y.toNat []) :: s0.map (·.2), r0.map (·.2), opsL los, pr0⟩) := rfl
    rw [hd]
    refine (hgen 0 (φ4 := eqS (pc : Int) ((true, 0, E.tx.getD y.toNat []) :: s0) r0 los pr0) (fun w1 X hB hR => by
      obtain ⟨_, _, _, _, _, sv1, lv1, pv1, h1, rfl, rfl, rfl, rfl, rfl⟩ := hR
      refine (rtextOp_any y h1 (by omega) (hE w1 hB).t (by rw [G.txl]; exact g1 (hu 1 rfl)) (by rw [G.txl]; omega)).mono ?_
      rintro r w' ⟨hr, ⟨sv', hm'⟩, hB'⟩
      exact ⟨hr, ⟨_, _, _, _, _, _, _, _, hm', rfl, rfl, rfl, rfl, rfl⟩, hB'⟩) (noneN (by decide)) (noneT (by decide)) (fun _ => noneB (by decide)) (fun a' _ _ _ _ h => by rw [h.1]; exact hp0)).mono ?_
    rintro r w' ⟨hr, hM', hB'⟩
    refine ⟨hr, fun _ => ?_, hB'⟩
    obtain ⟨a1, s1, r1, l1, p1, sv', lv', pv', hm', q1, q2, q3, q4, q5⟩ := hM' rfl
    subst q2 q3 q4 q5
    exact ⟨a1, _, _, _, _, _, _, _, hm', by show a1 = ((pc + 1 : Nat) : Int); omega, by rfl, rfl, rfl, rfl⟩
  · obtain ⟨l1, l2, l3⟩ := hpl (by decide) (by decide) (by decide) (by decide)
    have hd : doN E 2 y pc (s0.map (·.2)) (r0.map (·.2)) (opsL los) pr0 = (0, ⟨pc + 1, ((y.toNat : Int), []) :: s0.map (·.2), r0.map (·.2), opsL los, pr0⟩) := rfl
    rw [hd]
    refine (hgen 0 (φ4 := eqS (pc : Int) ((false, (y.toNat : Int), []) :: s0) r0 los pr0) (fun w1 X hB hR => by
      obtain ⟨_, _, _, _, _, sv1, lv1, pv1, h1, rfl, rfl, rfl, rfl, rfl⟩ := hR
      refine (rnumOp_any y h1 (by omega)).mono ?_
      rintro r w' ⟨hr, ⟨sv', hm'⟩, hB'⟩
      exact ⟨hr, ⟨_, _, _, _, _, _, _, _, hm', rfl, rfl, rfl, rfl, rfl⟩, hB'⟩) (noneN (by decide)) (noneT (by decide)) (fun _ => noneB (by decide)) (fun a' _ _ _ _ h => by rw [h.1]; exact hp0)).mono ?_
    rintro r w' ⟨hr, hM', hB'⟩
    refine ⟨hr, fun _ => ?_, hB'⟩
    obtain ⟨a1, s1, r1, l1, p1, sv', lv', pv', hm', q1, q2, q3, q4, q5⟩ := hM' rfl
    subst q2 q3 q4 q5
    exact ⟨a1, _, _, _, _, _, _, _, hm', by show a1 = ((pc + 1 : Nat) : Int); omega, rfl, rfl, rfl, rfl⟩
  · obtain ⟨l1, l2, l3⟩ := hpl (by decide) (by decide) (by decide) (by decide)
    have hd : doN E 3 y pc (s0.map (·.2)) (r0.map (·.2)) (opsL los) pr0 = (0, ⟨pc + 1, (0, E.ins.getD y.toNat []) :: s0.map (·.2), r0.map (·.2), opsL los, pr0⟩) := rfl
    rw [hd]
    refine (hgen 0 (φ4 := eqS (pc : Int) ((true, 0, E.ins.getD y.toNat []) :: s0) r0 los pr0) (fun w1 X hB hR => by
      obtain ⟨_, _, _, _, _, sv1, lv1, pv1, h1, rfl, rfl, rfl, rfl, rfl⟩ := hR
      refine (rinputOp_any y h1 (by omega) (hE w1 hB).i (by rw [G.inl]; exact g3 (hu 3 rfl)) (by rw [G.inl]; omega)).mono ?_
      rintro r w' ⟨hr, ⟨sv', hm'⟩, hB'⟩
      exact ⟨hr, ⟨_, _, _, _, _, _, _, _, hm', rfl, rfl, rfl, rfl, rfl⟩, hB'⟩) (noneN (by decide)) (noneT (by decide)) (fun _ => noneB (by decide)) (fun a' _ _ _ _ h => by rw [h.1]; exact hp0)).mono ?_
    rintro r w' ⟨hr, hM', hB'⟩
    refine ⟨hr, fun _ => ?_, hB'⟩
    obtain ⟨a1, s1, r1, l1, p1, sv', lv', pv', hm', q1, q2, q3, q4, q5⟩ := hM' rfl
    subst q2 q3 q4 q5
    exact ⟨a1, _, _, _, _, _, _, _, hm', by show a1 = ((pc + 1 : Nat) : Int); omega, rfl, rfl, rfl, rfl⟩
  · obtain ⟨l1, l2, l3⟩ := hpl (by decide) (by decide) (by decide) (by decide)
    obtain ⟨b, a, s, rfl⟩ := two_of (show 2 ≤ s0.length from l1)
    have hd : doN E 4 y pc ((b :: a :: s).map (·.2)) (r0.map (·.2)) (opsL los) pr0 = if 1024 < a.2.2.length + b.2.2.length then (5, ⟨pc, (b :: a :: s).map (·.2), r0.map (·.2), opsL los, pr0⟩) else (0, ⟨pc + 1, (0, a.2.2 ++ b.2.2) :: s.map (·.2), r0.map (·.2), opsL los, pr0⟩) := rfl
    rw [hd]
    by_cases hc : 1024 < a.2.2.length + b.2.2.length
    · rw [if_pos hc]
      refine (hgen 5 (φ3 := eqS (pc : Int) s r0 los pr0) (φ4 := eqS (pc : Int) s r0 los pr0) (noneA (by decide)) (noneN (by decide)) (fun w1 X hB hR => by
        obtain ⟨_, _, _, _, _, sv1, lv1, pv1, h1, rfl, rfl, rfl, rfl, rfl⟩ := hR
        exact (rcat_long y a b h1 (by simp at hl16; omega) (hsv a (by simp)).2.2 (hsv b (by simp)).2.2 hc).mono fun r w' ⟨hr, hB'⟩ => ⟨hr, fun h => absurd h (by decide), hB'⟩) (fun h => absurd h (by decide)) (fun a' _ _ _ _ h => by rw [h.1]; exact hp0)).mono ?_
      rintro r w' ⟨hr, -, hB'⟩
      exact ⟨hr, fun h => absurd h (by simp), hB'⟩
    · rw [if_neg hc]
      refine (hgen 0 (φ4 := eqS (pc : Int) ((true, 0, a.2.2 ++ b.2.2) :: s) r0 los pr0) (noneA (by decide)) (noneN (by decide)) (fun w1 X hB hR => by
        obtain ⟨_, _, _, _, _, sv1, lv1, pv1, h1, rfl, rfl, rfl, rfl, rfl⟩ := hR
        refine (rcat_any y a b h1 (by simp at hl16; omega) (hsv a (by simp)).2.2 (hsv b (by simp)).2.2 hc).mono ?_
        rintro r w' ⟨hr, ⟨sv', hm'⟩, hB'⟩
        exact ⟨hr, fun _ => ⟨_, _, _, _, _, _, _, _, hm', rfl, rfl, rfl, rfl, rfl⟩, hB'⟩) (fun _ => noneB (by decide)) (fun a' _ _ _ _ h => by rw [h.1]; exact hp0)).mono ?_
      rintro r w' ⟨hr, hM', hB'⟩
      refine ⟨hr, fun _ => ?_, hB'⟩
      obtain ⟨a1, s1, r1, l1, p1, sv', lv', pv', hm', q1, q2, q3, q4, q5⟩ := hM' rfl
      subst q2 q3 q4 q5
      exact ⟨a1, _, _, _, _, _, _, _, hm', by show a1 = ((pc + 1 : Nat) : Int); omega, rfl, rfl, rfl, rfl⟩
  · obtain ⟨l1, l2, l3⟩ := hpl (by decide) (by decide) (by decide) (by decide)
    obtain ⟨a, s, rfl⟩ := one_of (show 1 ≤ s0.length from l1)
    have hd : doN E 5 y pc ((a :: s).map (·.2)) (r0.map (·.2)) (opsL los) pr0 = (0, ⟨pc + 1, ((a.2.2.length : Int), []) :: s.map (·.2), r0.map (·.2), opsL los, pr0⟩) := rfl
    rw [hd]
    refine (hgen 0 (φ4 := eqS (pc : Int) ((false, (a.2.2.length : Int), []) :: s) r0 los pr0) (noneA (by decide)) (noneN (by decide)) (fun w1 X hB hR => by
      obtain ⟨_, _, _, _, _, sv1, lv1, pv1, h1, rfl, rfl, rfl, rfl, rfl⟩ := hR
      refine (rlen_any y a h1 (by simp at hl16; omega) (hsv a (by simp)).2.2).mono ?_
      rintro r w' ⟨hr, ⟨sv', hm'⟩, hB'⟩
      exact ⟨hr, fun _ => ⟨_, _, _, _, _, _, _, _, hm', rfl, rfl, rfl, rfl, rfl⟩, hB'⟩) (fun _ => noneB (by decide)) (fun a' _ _ _ _ h => by rw [h.1]; exact hp0)).mono ?_
    rintro r w' ⟨hr, hM', hB'⟩
    refine ⟨hr, fun _ => ?_, hB'⟩
    obtain ⟨a1, s1, r1, l1, p1, sv', lv', pv', hm', q1, q2, q3, q4, q5⟩ := hM' rfl
    subst q2 q3 q4 q5
    exact ⟨a1, _, _, _, _, _, _, _, hm', by show a1 = ((pc + 1 : Nat) : Int); omega, rfl, rfl, rfl, rfl⟩
  · obtain ⟨l1, l2, l3⟩ := hpl (by decide) (by decide) (by decide) (by decide)
    obtain ⟨b, a, t, s, rfl⟩ := three_of (show 3 ≤ s0.length from l1)
    have hd : doN E 6 y pc ((b :: a :: t :: s).map (·.2)) (r0.map (·.2)) (opsL los) pr0 = (0, ⟨pc + 1, (0, partM t.2.2 a.2.1 b.2.1) :: s.map (·.2), r0.map (·.2), opsL los, pr0⟩) := rfl
    rw [hd]
    refine (hgen 0 (φ4 := eqS (pc : Int) ((true, 0, partM t.2.2 a.2.1 b.2.1) :: s) r0 los pr0) (noneA (by decide)) (noneN (by decide)) (fun w1 X hB hR => by
      obtain ⟨_, _, _, _, _, sv1, lv1, pv1, h1, rfl, rfl, rfl, rfl, rfl⟩ := hR
      refine (rpartOp_any y b a t h1 (by simp at hl16; omega) (hsv b (by simp)) (hsv a (by simp)) (hsv t (by simp))).mono ?_
      rintro r w' ⟨hr, ⟨sv', hm'⟩, hB'⟩
      exact ⟨hr, fun _ => ⟨_, _, _, _, _, _, _, _, hm', rfl, rfl, rfl, rfl, rfl⟩, hB'⟩) (fun _ => noneB (by decide)) (fun a' _ _ _ _ h => by rw [h.1]; exact hp0)).mono ?_
    rintro r w' ⟨hr, hM', hB'⟩
    refine ⟨hr, fun _ => ?_, hB'⟩
    obtain ⟨a1, s1, r1, l1, p1, sv', lv', pv', hm', q1, q2, q3, q4, q5⟩ := hM' rfl
    subst q2 q3 q4 q5
    exact ⟨a1, _, _, _, _, _, _, _, hm', by show a1 = ((pc + 1 : Nat) : Int); omega, rfl, rfl, rfl, rfl⟩
  · obtain ⟨l1, l2, l3⟩ := hpl (by decide) (by decide) (by decide) (by decide)
    obtain ⟨a, s, rfl⟩ := one_of (show 1 ≤ s0.length from l1)
    have hd : doN E 7 y pc ((a :: s).map (·.2)) (r0.map (·.2)) (opsL los) pr0 = (0, ⟨pc + 1, (parseM a.2.2, []) :: s.map (·.2), r0.map (·.2), opsL los, pr0⟩) := rfl
    rw [hd]
    refine (hgen 0 (φ4 := eqS (pc : Int) ((false, parseM a.2.2, []) :: s) r0 los pr0) (noneA (by decide)) (noneN (by decide)) (fun w1 X hB hR => by
      obtain ⟨_, _, _, _, _, sv1, lv1, pv1, h1, rfl, rfl, rfl, rfl, rfl⟩ := hR
      refine (rparseOp_any y a h1 (by simp at hl16; omega) (hsv a (by simp)).2.2 (fun w' h2 => hGl w1 w' hB h2)).mono ?_
      rintro r w' ⟨hr, ⟨sv', hm'⟩, hB'⟩
      exact ⟨hr, fun _ => ⟨_, _, _, _, _, _, _, _, hm', rfl, rfl, rfl, rfl, rfl⟩, hB'⟩) (fun _ => noneB (by decide)) (fun a' _ _ _ _ h => by rw [h.1]; exact hp0)).mono ?_
    rintro r w' ⟨hr, hM', hB'⟩
    refine ⟨hr, fun _ => ?_, hB'⟩
    obtain ⟨a1, s1, r1, l1, p1, sv', lv', pv', hm', q1, q2, q3, q4, q5⟩ := hM' rfl
    subst q2 q3 q4 q5
    exact ⟨a1, _, _, _, _, _, _, _, hm', by show a1 = ((pc + 1 : Nat) : Int); omega, rfl, rfl, rfl, rfl⟩
  · obtain ⟨l1, l2, l3⟩ := hpl (by decide) (by decide) (by decide) (by decide)
    obtain ⟨a, s, rfl⟩ := one_of (show 1 ≤ s0.length from l1)
    have hd : doN E 8 y pc ((a :: s).map (·.2)) (r0.map (·.2)) (opsL los) pr0 = (0, ⟨pc + 1, (0, Lib.itoa a.2.1) :: s.map (·.2), r0.map (·.2), opsL los, pr0⟩) := rfl
    rw [hd]
    refine (hgen 0 (φ4 := eqS (pc : Int) ((true, 0, Lib.itoa a.2.1) :: s) r0 los pr0) (noneA (by decide)) (fun w1 X hB hR => by
      obtain ⟨_, _, _, _, _, sv1, lv1, pv1, h1, rfl, rfl, rfl, rfl, rfl⟩ := hR
      refine (rshow_any y a h1 (by simp at hl16; omega) (hsv a (by simp)) (fun w' h2 => hGl w1 w' hB h2)).mono ?_
      rintro r w' ⟨hr, ⟨sv', hm'⟩, hB'⟩
      exact ⟨hr, ⟨_, _, _, _, _, _, _, _, hm', rfl, rfl, rfl, rfl, rfl⟩, hB'⟩) (noneT (by decide)) (fun _ => noneB (by decide)) (fun a' _ _ _ _ h => by rw [h.1]; exact hp0)).mono ?_
    rintro r w' ⟨hr, hM', hB'⟩
    refine ⟨hr, fun _ => ?_, hB'⟩
    obtain ⟨a1, s1, r1, l1, p1, sv', lv', pv', hm', q1, q2, q3, q4, q5⟩ := hM' rfl
    subst q2 q3 q4 q5
    exact ⟨a1, _, _, _, _, _, _, _, hm', by show a1 = ((pc + 1 : Nat) : Int); omega, rfl, rfl, rfl, rfl⟩
  · obtain ⟨l1, l2, l3⟩ := hpl (by decide) (by decide) (by decide) (by decide)
    obtain ⟨b, a, s, rfl⟩ := two_of (show 2 ≤ s0.length from l1)
    have hd : doN E 9 y pc ((b :: a :: s).map (·.2)) (r0.map (·.2)) (opsL los) pr0 = (0, ⟨pc + 1, (wrap64 (a.2.1 + b.2.1), []) :: s.map (·.2), r0.map (·.2), opsL los, pr0⟩) := rfl
    rw [hd]
    refine (hgen 0 (φ4 := eqS (pc : Int) ((false, wrap64 (a.2.1 + b.2.1), []) :: s) r0 los pr0) (noneA (by decide)) (fun w1 X hB hR => by
      obtain ⟨_, _, _, _, _, sv1, lv1, pv1, h1, rfl, rfl, rfl, rfl, rfl⟩ := hR
      refine (radd_any y a b h1 (by simp at hl16; omega)).mono ?_
      rintro r w' ⟨hr, ⟨sv', hm'⟩, hB'⟩
      exact ⟨hr, ⟨_, _, _, _, _, _, _, _, hm', rfl, rfl, rfl, rfl, rfl⟩, hB'⟩) (noneT (by decide)) (fun _ => noneB (by decide)) (fun a' _ _ _ _ h => by rw [h.1]; exact hp0)).mono ?_
    rintro r w' ⟨hr, hM', hB'⟩
    refine ⟨hr, fun _ => ?_, hB'⟩
    obtain ⟨a1, s1, r1, l1, p1, sv', lv', pv', hm', q1, q2, q3, q4, q5⟩ := hM' rfl
    subst q2 q3 q4 q5
    exact ⟨a1, _, _, _, _, _, _, _, hm', by show a1 = ((pc + 1 : Nat) : Int); omega, rfl, rfl, rfl, rfl⟩
  · obtain ⟨l1, l2, l3⟩ := hpl (by decide) (by decide) (by decide) (by decide)
    obtain ⟨b, a, s, rfl⟩ := two_of (show 2 ≤ s0.length from l1)
    have hd : doN E 10 y pc ((b :: a :: s).map (·.2)) (r0.map (·.2)) (opsL los) pr0 = (0, ⟨pc + 1, (wrap64 (a.2.1 * b.2.1), []) :: s.map (·.2), r0.map (·.2), opsL los, pr0⟩) := rfl
    rw [hd]
    refine (hgen 0 (φ4 := eqS (pc : Int) ((false, wrap64 (a.2.1 * b.2.1), []) :: s) r0 los pr0) (noneA (by decide)) (fun w1 X hB hR => by
      obtain ⟨_, _, _, _, _, sv1, lv1, pv1, h1, rfl, rfl, rfl, rfl, rfl⟩ := hR
      refine (rmul_any y a b h1 (by simp at hl16; omega)).mono ?_
      rintro r w' ⟨hr, ⟨sv', hm'⟩, hB'⟩
      exact ⟨hr, ⟨_, _, _, _, _, _, _, _, hm', rfl, rfl, rfl, rfl, rfl⟩, hB'⟩) (noneT (by decide)) (fun _ => noneB (by decide)) (fun a' _ _ _ _ h => by rw [h.1]; exact hp0)).mono ?_
    rintro r w' ⟨hr, hM', hB'⟩
    refine ⟨hr, fun _ => ?_, hB'⟩
    obtain ⟨a1, s1, r1, l1, p1, sv', lv', pv', hm', q1, q2, q3, q4, q5⟩ := hM' rfl
    subst q2 q3 q4 q5
    exact ⟨a1, _, _, _, _, _, _, _, hm', by show a1 = ((pc + 1 : Nat) : Int); omega, rfl, rfl, rfl, rfl⟩
  · obtain ⟨l1, l2, l3⟩ := hpl (by decide) (by decide) (by decide) (by decide)
    obtain ⟨b, a, s, rfl⟩ := two_of (show 2 ≤ s0.length from l1)
    have hd : doN E 11 y pc ((b :: a :: s).map (·.2)) (r0.map (·.2)) (opsL los) pr0 = (0, ⟨pc + 1, bitM (decide (a.2.1 < b.2.1)) :: s.map (·.2), r0.map (·.2), opsL los, pr0⟩) := rfl
    rw [hd]
    refine (hgen 0 (φ4 := eqS (pc : Int) ((false, bitM (decide (a.2.1 < b.2.1))) :: s) r0 los pr0) (noneA (by decide)) (fun w1 X hB hR => by
      obtain ⟨_, _, _, _, _, sv1, lv1, pv1, h1, rfl, rfl, rfl, rfl, rfl⟩ := hR
      refine (rless_any y a b h1 (by simp at hl16; omega)).mono ?_
      rintro r w' ⟨hr, ⟨sv', hm'⟩, hB'⟩
      exact ⟨hr, ⟨_, _, _, _, _, _, _, _, hm', rfl, rfl, rfl, rfl, rfl⟩, hB'⟩) (noneT (by decide)) (fun _ => noneB (by decide)) (fun a' _ _ _ _ h => by rw [h.1]; exact hp0)).mono ?_
    rintro r w' ⟨hr, hM', hB'⟩
    refine ⟨hr, fun _ => ?_, hB'⟩
    obtain ⟨a1, s1, r1, l1, p1, sv', lv', pv', hm', q1, q2, q3, q4, q5⟩ := hM' rfl
    subst q2 q3 q4 q5
    exact ⟨a1, _, _, _, _, _, _, _, hm', by show a1 = ((pc + 1 : Nat) : Int); omega, rfl, rfl, rfl, rfl⟩
  · obtain ⟨l1, l2, l3⟩ := hpl (by decide) (by decide) (by decide) (by decide)
    obtain ⟨b, a, s, rfl⟩ := two_of (show 2 ≤ s0.length from l1)
    have hd : doN E 12 y pc ((b :: a :: s).map (·.2)) (r0.map (·.2)) (opsL los) pr0 = (0, ⟨pc + 1, bitM (a.2.2 == b.2.2) :: s.map (·.2), r0.map (·.2), opsL los, pr0⟩) := rfl
    rw [hd]
    refine (hgen 0 (φ4 := eqS (pc : Int) ((false, bitM (a.2.2 == b.2.2)) :: s) r0 los pr0) (noneA (by decide)) (noneN (by decide)) (fun w1 X hB hR => by
      obtain ⟨_, _, _, _, _, sv1, lv1, pv1, h1, rfl, rfl, rfl, rfl, rfl⟩ := hR
      refine (rsame_any y a b h1 (by simp at hl16; omega)).mono ?_
      rintro r w' ⟨hr, ⟨sv', hm'⟩, hB'⟩
      exact ⟨hr, fun _ => ⟨_, _, _, _, _, _, _, _, hm', rfl, rfl, rfl, rfl, rfl⟩, hB'⟩) (fun _ => noneB (by decide)) (fun a' _ _ _ _ h => by rw [h.1]; exact hp0)).mono ?_
    rintro r w' ⟨hr, hM', hB'⟩
    refine ⟨hr, fun _ => ?_, hB'⟩
    obtain ⟨a1, s1, r1, l1, p1, sv', lv', pv', hm', q1, q2, q3, q4, q5⟩ := hM' rfl
    subst q2 q3 q4 q5
    exact ⟨a1, _, _, _, _, _, _, _, hm', by show a1 = ((pc + 1 : Nat) : Int); omega, rfl, rfl, rfl, rfl⟩
  · obtain ⟨l1, l2, l3⟩ := hpl (by decide) (by decide) (by decide) (by decide)
    obtain ⟨a, s, rfl⟩ := one_of (show 1 ≤ s0.length from l1)
    have hd : doN E 13 y pc ((a :: s).map (·.2)) (r0.map (·.2)) (opsL los) pr0 = (0, ⟨pc + 1, bitM (a.2.1 == 0) :: s.map (·.2), r0.map (·.2), opsL los, pr0⟩) := rfl
    rw [hd]
    refine (hgen 0 (φ4 := eqS (pc : Int) ((false, bitM (a.2.1 == 0)) :: s) r0 los pr0) (noneA (by decide)) (fun w1 X hB hR => by
      obtain ⟨_, _, _, _, _, sv1, lv1, pv1, h1, rfl, rfl, rfl, rfl, rfl⟩ := hR
      refine (rnot_any y a h1 (by simp at hl16; omega)).mono ?_
      rintro r w' ⟨hr, ⟨sv', hm'⟩, hB'⟩
      exact ⟨hr, ⟨_, _, _, _, _, _, _, _, hm', rfl, rfl, rfl, rfl, rfl⟩, hB'⟩) (noneT (by decide)) (fun _ => noneB (by decide)) (fun a' _ _ _ _ h => by rw [h.1]; exact hp0)).mono ?_
    rintro r w' ⟨hr, hM', hB'⟩
    refine ⟨hr, fun _ => ?_, hB'⟩
    obtain ⟨a1, s1, r1, l1, p1, sv', lv', pv', hm', q1, q2, q3, q4, q5⟩ := hM' rfl
    subst q2 q3 q4 q5
    exact ⟨a1, _, _, _, _, _, _, _, hm', by show a1 = ((pc + 1 : Nat) : Int); omega, rfl, rfl, rfl, rfl⟩
  · obtain ⟨l1, l2, l3⟩ := hpl (by decide) (by decide) (by decide) (by decide)
    obtain ⟨a, s, rfl⟩ := one_of (show 1 ≤ s0.length from l1)
    have hd : doN E 14 y pc ((a :: s).map (·.2)) (r0.map (·.2)) (opsL los) pr0 = (0, ⟨pc + 1, s.map (·.2), r0.map (·.2), opsL los, pr0⟩) := rfl
    rw [hd]
    refine (hgen 0 (φ4 := eqS (pc : Int) (s) r0 los pr0) (fun w1 X hB hR => by
      obtain ⟨_, _, _, _, _, sv1, lv1, pv1, h1, rfl, rfl, rfl, rfl, rfl⟩ := hR
      refine (rdropOp_any y a h1 (by simp at hl16; omega)).mono ?_
      rintro r w' ⟨hr, ⟨sv', hm'⟩, hB'⟩
      exact ⟨hr, ⟨_, _, _, _, _, _, _, _, hm', rfl, rfl, rfl, rfl, rfl⟩, hB'⟩) (noneN (by decide)) (noneT (by decide)) (fun _ => noneB (by decide)) (fun a' _ _ _ _ h => by rw [h.1]; exact hp0)).mono ?_
    rintro r w' ⟨hr, hM', hB'⟩
    refine ⟨hr, fun _ => ?_, hB'⟩
    obtain ⟨a1, s1, r1, l1, p1, sv', lv', pv', hm', q1, q2, q3, q4, q5⟩ := hM' rfl
    subst q2 q3 q4 q5
    exact ⟨a1, _, _, _, _, _, _, _, hm', by show a1 = ((pc + 1 : Nat) : Int); omega, rfl, rfl, rfl, rfl⟩
  · obtain ⟨l1, l2, l3⟩ := hpl (by decide) (by decide) (by decide) (by decide)
    obtain ⟨a, s, rfl⟩ := one_of (show 1 ≤ s0.length from l1)
    have hd : doN E 15 y pc ((a :: s).map (·.2)) (r0.map (·.2)) (opsL los) pr0 = (0, ⟨pc + 1, a.2 :: a.2 :: s.map (·.2), r0.map (·.2), opsL los, pr0⟩) := rfl
    rw [hd]
    refine (hgen 0 (φ4 := eqS (pc : Int) (a :: a :: s) r0 los pr0) (fun w1 X hB hR => by
      obtain ⟨_, _, _, _, _, sv1, lv1, pv1, h1, rfl, rfl, rfl, rfl, rfl⟩ := hR
      refine (rdupOp_any y a h1 (by simp at hl16; omega)).mono ?_
      rintro r w' ⟨hr, ⟨sv', hm'⟩, hB'⟩
      exact ⟨hr, ⟨_, _, _, _, _, _, _, _, hm', rfl, rfl, rfl, rfl, rfl⟩, hB'⟩) (noneN (by decide)) (noneT (by decide)) (fun _ => noneB (by decide)) (fun a' _ _ _ _ h => by rw [h.1]; exact hp0)).mono ?_
    rintro r w' ⟨hr, hM', hB'⟩
    refine ⟨hr, fun _ => ?_, hB'⟩
    obtain ⟨a1, s1, r1, l1, p1, sv', lv', pv', hm', q1, q2, q3, q4, q5⟩ := hM' rfl
    subst q2 q3 q4 q5
    exact ⟨a1, _, _, _, _, _, _, _, hm', by show a1 = ((pc + 1 : Nat) : Int); omega, rfl, rfl, rfl, rfl⟩
  · obtain ⟨l1, l2, l3⟩ := hpl (by decide) (by decide) (by decide) (by decide)
    obtain ⟨b, a, s, rfl⟩ := two_of (show 2 ≤ s0.length from l1)
    have hd : doN E 16 y pc ((b :: a :: s).map (·.2)) (r0.map (·.2)) (opsL los) pr0 = (0, ⟨pc + 1, a.2 :: b.2 :: s.map (·.2), r0.map (·.2), opsL los, pr0⟩) := rfl
    rw [hd]
    refine (hgen 0 (φ4 := eqS (pc : Int) (a :: b :: s) r0 los pr0) (fun w1 X hB hR => by
      obtain ⟨_, _, _, _, _, sv1, lv1, pv1, h1, rfl, rfl, rfl, rfl, rfl⟩ := hR
      refine (rswapOp_any y a b h1 (by simp at hl16; omega)).mono ?_
      rintro r w' ⟨hr, ⟨sv', hm'⟩, hB'⟩
      exact ⟨hr, ⟨_, _, _, _, _, _, _, _, hm', rfl, rfl, rfl, rfl, rfl⟩, hB'⟩) (noneN (by decide)) (noneT (by decide)) (fun _ => noneB (by decide)) (fun a' _ _ _ _ h => by rw [h.1]; exact hp0)).mono ?_
    rintro r w' ⟨hr, hM', hB'⟩
    refine ⟨hr, fun _ => ?_, hB'⟩
    obtain ⟨a1, s1, r1, l1, p1, sv', lv', pv', hm', q1, q2, q3, q4, q5⟩ := hM' rfl
    subst q2 q3 q4 q5
    exact ⟨a1, _, _, _, _, _, _, _, hm', by show a1 = ((pc + 1 : Nat) : Int); omega, rfl, rfl, rfl, rfl⟩
  · obtain ⟨l1, l2, l3⟩ := hpl (by decide) (by decide) (by decide) (by decide)
    have hd : doN E 17 y pc (s0.map (·.2)) (r0.map (·.2)) (opsL los) pr0 = (0, ⟨pc + 1, (r0.map (·.2)).getD y.toNat (0, []) :: s0.map (·.2), r0.map (·.2), opsL los, pr0⟩) := rfl
    rw [hd]
    refine (hgen 0 (φ4 := eqS (pc : Int) (r0.getD y.toNat (false, 0, []) :: s0) r0 los pr0) (fun w1 X hB hR => by
      obtain ⟨_, _, _, _, _, sv1, lv1, pv1, h1, rfl, rfl, rfl, rfl, rfl⟩ := hR
      refine (rgetOp_any y (g17 (.inl (hu 17 rfl))) h1 (by omega)).mono ?_
      rintro r w' ⟨hr, ⟨sv', hm'⟩, hB'⟩
      exact ⟨hr, ⟨_, _, _, _, _, _, _, _, hm', rfl, rfl, rfl, rfl, rfl⟩, hB'⟩) (noneN (by decide)) (noneT (by decide)) (fun _ => noneB (by decide)) (fun a' _ _ _ _ h => by rw [h.1]; exact hp0)).mono ?_
    rintro r w' ⟨hr, hM', hB'⟩
    refine ⟨hr, fun _ => ?_, hB'⟩
    obtain ⟨a1, s1, r1, l1, p1, sv', lv', pv', hm', q1, q2, q3, q4, q5⟩ := hM' rfl
    subst q2 q3 q4 q5
    exact ⟨a1, _, _, _, _, _, _, _, hm', by show a1 = ((pc + 1 : Nat) : Int); omega, by rw [List.map_cons, getD_map2], rfl, rfl, rfl⟩
  · obtain ⟨l1, l2, l3⟩ := hpl (by decide) (by decide) (by decide) (by decide)
    obtain ⟨a, s, rfl⟩ := one_of (show 1 ≤ s0.length from l1)
    have hd : doN E 18 y pc ((a :: s).map (·.2)) (r0.map (·.2)) (opsL los) pr0 = (0, ⟨pc + 1, s.map (·.2), (r0.map (·.2)).set y.toNat a.2, opsL los, pr0⟩) := rfl
    rw [hd]
    refine (hgen 0 (φ4 := eqS (pc : Int) (s) (r0.set y.toNat a) los pr0) (fun w1 X hB hR => by
      obtain ⟨_, _, _, _, _, sv1, lv1, pv1, h1, rfl, rfl, rfl, rfl, rfl⟩ := hR
      refine (rsetOp_any y (g17 (.inr (hu 18 rfl))) a h1 (by simp at hl16; omega)).mono ?_
      rintro r w' ⟨hr, ⟨sv', hm'⟩, hB'⟩
      exact ⟨hr, ⟨_, _, _, _, _, _, _, _, hm', rfl, rfl, rfl, rfl, rfl⟩, hB'⟩) (noneN (by decide)) (noneT (by decide)) (fun _ => noneB (by decide)) (fun a' _ _ _ _ h => by rw [h.1]; exact hp0)).mono ?_
    rintro r w' ⟨hr, hM', hB'⟩
    refine ⟨hr, fun _ => ?_, hB'⟩
    obtain ⟨a1, s1, r1, l1, p1, sv', lv', pv', hm', q1, q2, q3, q4, q5⟩ := hM' rfl
    subst q2 q3 q4 q5
    exact ⟨a1, _, _, _, _, _, _, _, hm', by show a1 = ((pc + 1 : Nat) : Int); omega, rfl, by rw [map_set2], rfl, rfl⟩
  · obtain ⟨e, e1, e2, e3, e4, e5, e6, -⟩ := behind_open G hpc (.inl (hu 19 rfl))
    rw [← hst, List.length_map] at e5
    obtain ⟨a, s, rfl⟩ := one_of e5
    have hd : doN E 19 y pc ((a :: s).map (·.2)) (r0.map (·.2)) (opsL los) pr0 = (0, ⟨if a.2.1 = 0 then (E.ends.getD pc 0).toNat + 1 else pc + 1, s.map (·.2), r0.map (·.2), opsL los, pr0⟩) := rfl
    rw [hd]
    have hpe : pc < E.ends.length := by rw [hel]; exact hpc
    have hgd : E.ends.getD pc 0 = E.ends[pc] := by rw [List.getD_eq_getElem?_getD, List.getElem?_eq_getElem hpe]; rfl
    have hv : (if a.2.1 = 0 then E.ends[pc] else (pc : Int)) + 1 = ((if a.2.1 = 0 then (E.ends.getD pc 0).toNat + 1 else pc + 1 : Nat) : Int) := by
      split
      · rw [e3] at hgd ⊢; rw [← hgd]; simp
      · simp
    have hb : -1 ≤ (if a.2.1 = 0 then E.ends[pc] else (pc : Int)) ∧ (if a.2.1 = 0 then E.ends[pc] else (pc : Int)) ≤ 1000 := by
      split
      · rw [← hgd, e3]; omega
      · exact hp0
    refine (hgen 0 (φ4 := eqS (if a.2.1 = 0 then E.ends[pc] else (pc : Int)) s r0 los pr0) (noneA (by decide)) (noneN (by decide)) (noneT (by decide)) (fun _ => fun w1 X hB hR => by
      obtain ⟨_, _, _, _, _, sv1, lv1, pv1, h1, rfl, rfl, rfl, rfl, rfl⟩ := hR
      refine (rifOp_any y a pc h1 (by simp at hl16; omega) (fun w' h2 => hJ w1 w' hB h2) hpe (by omega)).mono ?_
      rintro r w' ⟨hr, ⟨sv', hm'⟩, hB'⟩
      exact ⟨hr, ⟨_, _, _, _, _, _, _, _, hm', rfl, rfl, rfl, rfl, rfl⟩, hB'⟩) (fun a' _ _ _ _ h => by rw [h.1]; exact hb)).mono ?_
    rintro r w' ⟨hr, hM', hB'⟩
    refine ⟨hr, fun _ => ?_, hB'⟩
    obtain ⟨a1, s1, r1, l1, p1, sv', lv', pv', hm', q1, q2, q3, q4, q5⟩ := hM' rfl
    subst q2 q3 q4 q5
    exact ⟨a1, _, _, _, _, _, _, _, hm', by rw [← hv, ← q1]; omega, rfl, rfl, rfl, rfl⟩
  · obtain ⟨e, e1, e2, e3, e4, e5⟩ := at_else G hpc (hu 20 rfl)
    have hd : doN E 20 y pc (s0.map (·.2)) (r0.map (·.2)) (opsL los) pr0 = (0, ⟨(E.ends.getD pc 0).toNat, s0.map (·.2), r0.map (·.2), opsL los, pr0⟩) := rfl
    rw [hd]
    have hpe : pc < E.ends.length := by rw [hel]; exact hpc
    have hgd : E.ends.getD pc 0 = E.ends[pc] := by rw [List.getD_eq_getElem?_getD, List.getElem?_eq_getElem hpe]; rfl
    rw [e3] at hgd
    refine (hgen 0 (φ4 := eqS (E.ends[pc] - 1) s0 r0 los pr0) (noneA (by decide)) (noneN (by decide)) (noneT (by decide)) (fun _ => fun w1 X hB hR => by
      obtain ⟨_, _, _, _, _, sv1, lv1, pv1, h1, rfl, rfl, rfl, rfl, rfl⟩ := hR
      refine (relseOp_any y pc h1 (hE w1 hB).e hpe (by omega) (by rw [← hgd]; omega)).mono ?_
      rintro r w' ⟨hr, hm', hB'⟩
      exact ⟨hr, ⟨_, _, _, _, _, _, _, _, hm', rfl, rfl, rfl, rfl, rfl⟩, hB'⟩) (fun a' _ _ _ _ h => by rw [h.1, ← hgd]; omega)).mono ?_
    rintro r w' ⟨hr, hM', hB'⟩
    refine ⟨hr, fun _ => ?_, hB'⟩
    obtain ⟨a1, s1, r1, l1, p1, sv', lv', pv', hm', q1, q2, q3, q4, q5⟩ := hM' rfl
    subst q2 q3 q4 q5
    exact ⟨a1, _, _, _, _, _, _, _, hm', by show a1 = (((E.ends.getD pc 0).toNat : Nat) : Int); rw [e3]; rw [← hgd] at q1; omega, rfl, rfl, rfl, rfl⟩
  · have hd : doN E 21 y pc (s0.map (·.2)) (r0.map (·.2)) (opsL los) pr0 = if loopEnd E pc = true then (match opsL los with | (a, p :: ps) :: o => (0, ⟨a + 1, (0, p) :: s0.map (·.2), r0.map (·.2), (a, ps) :: o, pr0⟩) | (_, []) :: o => (0, ⟨pc + 1, s0.map (·.2), r0.map (·.2), o, pr0⟩) | [] => (99, ⟨pc, s0.map (·.2), r0.map (·.2), opsL los, pr0⟩)) else (0, ⟨pc + 1, s0.map (·.2), r0.map (·.2), opsL los, pr0⟩) := rfl
    rw [hd]
    have hop21 : opV E.code pc = 21 := hu 21 rfl
    obtain ⟨j, hj1, hj2, hj3⟩ := hown.at_ pc hpc hop21
    have hpo : pc < own.length := by rw [hown.len]; exact hpc
    have hgo : own[pc] = (j : Int) := by rw [← hj1, List.getD_eq_getElem?_getD, List.getElem?_eq_getElem hpo]; rfl
    have hjc : opV E.code j = E.code[j].1 := by unfold opV; rw [List.getD_eq_getElem?_getD, List.getElem?_eq_getElem hj2]; rfl
    rw [hjc] at hj3
    have hol : own.length ≤ 1000 := by rw [hown.len]; omega
    cases hle : loopEnd E pc with
    | false =>
      rw [if_neg (by simp)]
      have hne : E.code[j].1 ≠ 22 := fun hh => by rw [hj3.1 hh] at hle; cases hle
      refine (hgen 0 (φ4 := eqS (pc : Int) s0 r0 los pr0) (noneA (by decide)) (noneN (by decide)) (noneT (by decide)) (fun _ => fun w1 X hB hR => by
        obtain ⟨_, _, _, _, _, sv1, lv1, pv1, h1, rfl, rfl, rfl, rfl, rfl⟩ := hR
        refine (rendOp_not y pc j h1 (hE w1 hB).o (hE w1 hB).c hpo hol (by omega) hgo hj2 hne).mono ?_
        rintro r w' ⟨hr, hB'⟩
        exact ⟨hr, ⟨_, _, _, _, _, _, _, _, h1.below hB', rfl, rfl, rfl, rfl, rfl⟩, hB'.mono h1.size⟩) (fun a' _ _ _ _ h => by rw [h.1]; exact hp0)).mono ?_
      rintro r w' ⟨hr, hM', hB'⟩
      refine ⟨hr, fun _ => ?_, hB'⟩
      obtain ⟨a1, s1, r1, l1, p1, sv', lv', pv', hm', q1, q2, q3, q4, q5⟩ := hM' rfl
      subst q2 q3 q4 q5
      exact ⟨a1, _, _, _, _, _, _, _, hm', by show a1 = ((pc + 1 : Nat) : Int); omega, rfl, rfl, rfl, rfl⟩
    | true =>
      rw [if_pos rfl]
      have h22 : E.code[j].1 = 22 := hj3.2 hle
      obtain ⟨j', b', e1, e2, e3, e4, e5, e6, e7, e8⟩ := at_end G hpc (hu 21 rfl)
      have hle2 := loopEnd_of e5 (by omega) e4
      rw [hle] at hle2
      rw [if_pos (e2.1 (by simpa using hle2.symm))] at e6
      rw [e6] at hopl
      cases hops : opsL los with
      | nil => rw [hops] at hopl; cases hopl
      | cons x o =>
        obtain ⟨a, ps0⟩ := x
        obtain ⟨l, e, rfl, ha, hps, ho2⟩ := opsL_cons hops
        rw [hops] at hov
        have hpl2 : e.ps.length ≤ 1024 := by rw [hps]; exact (hov _ (List.mem_cons_self ..)).1
        have hal : a = j' := by rw [hops] at hopl; injection hopl
        subst ha hps
        have hat0 : e.at_ ≤ 1000 := by omega
        cases hpse : e.ps with
        | nil =>
          refine (hgen 0 (φ4 := eqS (pc : Int) s0 r0 l pr0) (noneA (by decide)) (noneN (by decide)) (noneT (by decide)) (fun _ => fun w1 X hB hR => by
            obtain ⟨_, _, _, _, _, sv1, lv1, pv1, h1, rfl, rfl, rfl, rfl, rfl⟩ := hR
            refine (rendOp_loop y pc j h1 (by omega) (by simp at heo; omega) (by omega) (hE w1 hB).o (hE w1 hB).c hpo hol (by omega) hgo hj2 h22).mono ?_
            rintro r w' ⟨hr, (⟨-, lv', hm'⟩ | ⟨p, ps, hpp, -⟩), hB'⟩
            · exact ⟨hr, ⟨_, _, _, _, _, _, _, _, hm', rfl, rfl, rfl, rfl, rfl⟩, hB'⟩
            · rw [hpse] at hpp; cases hpp) (fun a' _ _ _ _ h => by rw [h.1]; exact hp0)).mono ?_
          rintro r w' ⟨hr, hM', hB'⟩
          refine ⟨hr, fun _ => ?_, hB'⟩
          obtain ⟨a1, s1, r1, l1, p1, sv', lv', pv', hm', q1, q2, q3, q4, q5⟩ := hM' rfl
          subst q2 q3 q4 q5
          exact ⟨a1, _, _, _, _, _, _, _, hm', by show a1 = ((pc + 1 : Nat) : Int); omega, rfl, rfl, ho2, rfl⟩
        | cons p ps =>
          refine (hgen 0 (φ4 := fun a' s' r' l' p' => a' = (e.at_ : Int) ∧ s' = (true, 0, p) :: s0 ∧ r' = r0 ∧ opsL l' = (e.at_, ps) :: opsL l ∧ p' = pr0) (noneA (by decide)) (noneN (by decide)) (noneT (by decide)) (fun _ => fun w1 X hB hR => by
            obtain ⟨_, _, _, _, _, sv1, lv1, pv1, h1, rfl, rfl, rfl, rfl, rfl⟩ := hR
            refine (rendOp_loop y pc j h1 (by omega) (by simp at heo; omega) (by omega) (hE w1 hB).o (hE w1 hB).c hpo hol (by omega) hgo hj2 h22).mono ?_
            rintro r w' ⟨hr, (⟨hpp, -⟩ | ⟨p', ps', hpp, sv', lv', e', he1, he2, hm'⟩), hB'⟩
            · rw [hpse] at hpp; cases hpp
            · rw [hpse] at hpp
              injection hpp with hp1 hp2
              subst hp1 hp2
              exact ⟨hr, ⟨_, _, _, _, _, _, _, _, hm', rfl, rfl, rfl, by rw [opsL_snoc, he1, he2], rfl⟩, hB'⟩) (fun a' _ _ _ _ h => by rw [h.1]; omega)).mono ?_
          rintro r w' ⟨hr, hM', hB'⟩
          refine ⟨hr, fun _ => ?_, hB'⟩
          obtain ⟨a1, s1, r1, l1, p1, sv', lv', pv', hm', q1, q2, q3, q4, q5⟩ := hM' rfl
          subst q2 q3 q5
          exact ⟨a1, _, _, _, _, _, _, _, hm', by show a1 = ((e.at_ + 1 : Nat) : Int); omega, rfl, rfl, by rw [q4, ho2], rfl⟩
  · obtain ⟨e, e1, e2, e3, e4, e5, e6, -⟩ := behind_open G hpc (.inr (hu 22 rfl))
    rw [← hst, List.length_map] at e5
    obtain ⟨a, s, rfl⟩ := one_of e5
    have hd : doN E 22 y pc ((a :: s).map (·.2)) (r0.map (·.2)) (opsL los) pr0 = (match piecesM a.2.2 y with | [] => (0, ⟨(E.ends.getD pc 0).toNat + 1, s.map (·.2), r0.map (·.2), opsL los, pr0⟩) | p :: ps => (0, ⟨pc + 1, (0, p) :: s.map (·.2), r0.map (·.2), (pc, ps) :: opsL los, pr0⟩)) := rfl
    rw [hd]
    have hpe : pc < E.ends.length := by rw [hel]; exact hpc
    have hgd : E.ends.getD pc 0 = E.ends[pc] := by rw [List.getD_eq_getElem?_getD, List.getElem?_eq_getElem hpe]; rfl
    rw [e3] at hgd
    cases hpi : piecesM a.2.2 y with
    | nil =>
      refine (hgen 0 (φ4 := eqS E.ends[pc] s r0 los pr0) (noneA (by decide)) (noneN (by decide)) (noneT (by decide)) (fun _ => fun w1 X hB hR => by
        obtain ⟨_, _, _, _, _, sv1, lv1, pv1, h1, rfl, rfl, rfl, rfl, rfl⟩ := hR
        refine (reachOp_any y a pc h1 (by simp at hl16; omega) (by omega) (hsv a (by simp)).2.2 (fun w' h2 => hJ w1 w' hB h2) hpe (by omega)).mono ?_
        rintro r w' ⟨hr, (⟨-, sv', hm'⟩ | ⟨p, ps, hpp, -⟩), hB'⟩
        · exact ⟨hr, ⟨_, _, _, _, _, _, _, _, hm', rfl, rfl, rfl, rfl, rfl⟩, hB'⟩
        · rw [hpi] at hpp; cases hpp) (fun a' _ _ _ _ h => by rw [h.1, ← hgd]; omega)).mono ?_
      rintro r w' ⟨hr, hM', hB'⟩
      refine ⟨hr, fun _ => ?_, hB'⟩
      obtain ⟨a1, s1, r1, l1, p1, sv', lv', pv', hm', q1, q2, q3, q4, q5⟩ := hM' rfl
      subst q2 q3 q4 q5
      exact ⟨a1, _, _, _, _, _, _, _, hm', by show a1 = (((E.ends.getD pc 0).toNat + 1 : Nat) : Int); rw [e3]; rw [← hgd] at q1; omega, rfl, rfl, rfl, rfl⟩
    | cons p ps =>
      refine (hgen 0 (φ4 := fun a' s' r' l' p' => a' = (pc : Int) ∧ s' = (true, 0, p) :: s ∧ r' = r0 ∧ opsL l' = (pc, ps) :: opsL los ∧ p' = pr0) (noneA (by decide)) (noneN (by decide)) (noneT (by decide)) (fun _ => fun w1 X hB hR => by
        obtain ⟨_, _, _, _, _, sv1, lv1, pv1, h1, rfl, rfl, rfl, rfl, rfl⟩ := hR
        refine (reachOp_any y a pc h1 (by simp at hl16; omega) (by omega) (hsv a (by simp)).2.2 (fun w' h2 => hJ w1 w' hB h2) hpe (by omega)).mono ?_
        rintro r w' ⟨hr, (⟨hpp, -⟩ | ⟨p', ps', hpp, sv', lv', e', he1, he2, hm'⟩), hB'⟩
        · rw [hpi] at hpp; cases hpp
        · rw [hpi] at hpp
          injection hpp with hp1 hp2
          subst hp1 hp2
          exact ⟨hr, ⟨_, _, _, _, _, _, _, _, hm', rfl, rfl, rfl, by rw [opsL_snoc, he1, he2], rfl⟩, hB'⟩) (fun a' _ _ _ _ h => by rw [h.1]; exact hp0)).mono ?_
      rintro r w' ⟨hr, hM', hB'⟩
      refine ⟨hr, fun _ => ?_, hB'⟩
      obtain ⟨a1, s1, r1, l1, p1, sv', lv', pv', hm', q1, q2, q3, q4, q5⟩ := hM' rfl
      subst q2 q3 q5
      exact ⟨a1, _, _, _, _, _, _, _, hm', by show a1 = ((pc + 1 : Nat) : Int); omega, rfl, rfl, q4, rfl⟩
  · obtain ⟨l1, l2, l3⟩ := hpl (by decide) (by decide) (by decide) (by decide)
    obtain ⟨b, a, s, rfl⟩ := two_of (show 2 ≤ s0.length from l1)
    have hd : doN E 23 y pc ((b :: a :: s).map (·.2)) (r0.map (·.2)) (opsL los) pr0 = if 256 ≤ pr0.length then (4, ⟨pc, (b :: a :: s).map (·.2), r0.map (·.2), opsL los, pr0⟩) else (0, ⟨pc + 1, s.map (·.2), r0.map (·.2), opsL los, pr0 ++ [(a.2.2, b.2.2)]⟩) := rfl
    rw [hd]
    by_cases hc : 256 ≤ pr0.length
    · rw [if_pos hc]
      refine (hgen 4 (φ3 := eqS (pc : Int) s r0 los pr0) (φ4 := eqS (pc : Int) s r0 los pr0) (noneA (by decide)) (noneN (by decide)) (fun w1 X hB hR => by
        obtain ⟨_, _, _, _, _, sv1, lv1, pv1, h1, rfl, rfl, rfl, rfl, rfl⟩ := hR
        exact (remit_full y h1 hc hpr).mono fun r w' ⟨hr, hB'⟩ => ⟨hr, fun h => absurd h (by decide), hB'⟩) (fun h => absurd h (by decide)) (fun a' _ _ _ _ h => by rw [h.1]; exact hp0)).mono ?_
      rintro r w' ⟨hr, -, hB'⟩
      exact ⟨hr, fun h => absurd h (by simp), hB'⟩
    · rw [if_neg hc]
      refine (hgen 0 (φ4 := eqS (pc : Int) (s) r0 los (pr0 ++ [(a.2.2, b.2.2)])) (noneA (by decide)) (noneN (by decide)) (fun w1 X hB hR => by
        obtain ⟨_, _, _, _, _, sv1, lv1, pv1, h1, rfl, rfl, rfl, rfl, rfl⟩ := hR
        refine (remit_any y a b h1 (by simp at hl16; omega) hc).mono ?_
        rintro r w' ⟨hr, ⟨sv', pv', hm'⟩, hB'⟩
        exact ⟨hr, fun _ => ⟨_, _, _, _, _, _, _, _, hm', rfl, rfl, rfl, rfl, rfl⟩, hB'⟩) (fun _ => noneB (by decide)) (fun a' _ _ _ _ h => by rw [h.1]; exact hp0)).mono ?_
      rintro r w' ⟨hr, hM', hB'⟩
      refine ⟨hr, fun _ => ?_, hB'⟩
      obtain ⟨a1, s1, r1, l1, p1, sv', lv', pv', hm', q1, q2, q3, q4, q5⟩ := hM' rfl
      subst q2 q3 q4 q5
      exact ⟨a1, _, _, _, _, _, _, _, hm', by show a1 = ((pc + 1 : Nat) : Int); omega, rfl, rfl, rfl, rfl⟩
end
end Go.Proofs.YtndagciefnddmaaGreatDoor
