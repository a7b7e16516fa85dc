/- Lemmas for JobRuns, part 6: walks of the functions that it reaches, and the plain laws behind them. -/
import Derived.Test.YtndagciefnddmaaGreatDoorJobRunsK2
import Derived.Test.YtndagciefnddmaaGreatDoorJobRunsK3
import Derived.Test.YtndagciefnddmaaGreatDoorJobRunsK5
set_option linter.unusedSimpArgs false
set_option linter.unusedVariables false
namespace Go.Proofs.YtndagciefnddmaaGreatDoor
open Go.RowKit Oct
attribute [local irreducible] wpG
def keptR (b : Vb) : List UInt8 := if b.did = true then b.want else []
def recRb : Rec Vb where
  cell b := [.int .u8 (b.op.toNat : Int), .string (bs b.opn), .string (bs (keptR b)), .bool b.did, .int .i64 (b.at_ : Int)]
  e := 206
  n := 5
  bytes := 56
  z := .agg #[.int .u8 0, .string ByteArray.empty, .string ByteArray.empty, .bool false, .int .i64 0]
  len := fun _ => rfl
  one := by intro x u h; simp at h; rcases h with rfl | rfl | rfl | rfl | rfl <;> rfl
  info := by kernel_rfl
  zs := rfl
  pos := by decide
  bpos := by decide
structure RG (w : World) (base G : Nat) (tv cv : Value) (role : UInt8) (s : Vs) (bv sv ev : Value) : Prop where
  blk : Blk w G 164 [tv, cv, .int .u8 (role.toNat : Int), .string (bs s.kinds), bv, sv, ev, .int .i64 (s.deep : Int)]
  ob : recRb.Own w base bv s.blocks
  os : recS.Own w base sv s.seen
  oe : recJ.Own w base ev s.ends
  gb : base ≤ G
  a1 : ∀ b, bv.ownBlock = some b → b ≠ G ∧ sv.ownBlock ≠ some b ∧ ev.ownBlock ≠ some b
  a2 : ∀ b, sv.ownBlock = some b → b ≠ G ∧ ev.ownBlock ≠ some b
  a3 : ∀ b, ev.ownBlock = some b → b ≠ G
section
variable {w w' : World} {base G : Nat} {tv cv bv sv ev : Value} {role : UInt8} {s : Vs}
theorem RG.below (h : RG w base G tv cv role s bv sv ev) (hB : Below w.heap.size w w') : RG w' base G tv cv role s bv sv ev :=
  ⟨h.blk.below hB, h.ob.below hB, h.os.below hB, h.oe.below hB, h.gb, h.a1, h.a2, h.a3⟩
theorem RG.cell (h : RG w base G tv cv role s bv sv ev) {k : Nat} {v : Value} (hv : [tv, cv, .int .u8 (role.toNat : Int), .string (bs s.kinds), bv, sv, ev, .int .i64 (s.deep : Int)][k]? = some v) : w.cell? ⟨G, k, none⟩ = some v := h.blk.cell hv
theorem RG.free (h : RG w base G tv cv role s bv sv ev) {k : Nat} (hk : k < 8) : w.frozen? ⟨G, k, none⟩ = false := h.blk.free hk
theorem RG.setG (h : RG w base G tv cv role s bv sv ev) (k : Nat) (v : Value) {kinds : List UInt8} {deep : Nat}
    (hs : [tv, cv, .int .u8 (role.toNat : Int), .string (bs s.kinds), bv, sv, ev, .int .i64 (s.deep : Int)].set k v = [tv, cv, .int .u8 (role.toNat : Int), .string (bs kinds), bv, sv, ev, .int .i64 (deep : Int)]) :
    RG (w.setCell ⟨G, k, none⟩ v) base G tv cv role { s with kinds := kinds, deep := deep } bv sv ev ∧ Below base w (w.setCell ⟨G, k, none⟩ v) := by
  have hc : Chg (fun x => x = G) w (w.setCell ⟨G, k, none⟩ v) := Chg.setCell _ _ _ rfl
  have key : ∀ {β : Type} (R : Rec β) (x : Value) (l : List β), R.Own w base x l → (∀ b, x.ownBlock = some b → b ≠ G) → R.Own (w.setCell ⟨G, k, none⟩ v) base x l := fun R x l ho hn => by
    obtain ⟨h1, h2⟩ := ho
    refine ⟨h1, ?_⟩
    rcases h2 with h2 | ⟨g, cap, cur, rfl, hg, hh, r⟩
    · exact .inl h2
    · exact .inr ⟨g, cap, cur, rfl, hg, hc.at hh (hn g rfl), r⟩
  have hb := h.blk.set k v
  rw [hs] at hb
  exact ⟨⟨hb, key _ _ _ h.ob (fun b hb => (h.a1 b hb).1), key _ _ _ h.os (fun b hb => (h.a2 b hb).1), key _ _ _ h.oe h.a3, h.gb, h.a1, h.a2, h.a3⟩, hc.below (fun x hx => by have := h.gb; omega) (Nat.le_trans h.gb (Nat.le_of_lt h.blk.lt))⟩
theorem RG.kinds (h : RG w base G tv cv role s bv sv ev) (k : List UInt8) : RG (w.setCell ⟨G, 3, none⟩ (.string (bs k))) base G tv cv role { s with kinds := k } bv sv ev ∧ Below base w (w.setCell ⟨G, 3, none⟩ (.string (bs k))) := h.setG 3 _ rfl
theorem RG.deep (h : RG w base G tv cv role s bv sv ev) (d : Nat) : RG (w.setCell ⟨G, 7, none⟩ (.int .i64 (d : Int))) base G tv cv role { s with deep := d } bv sv ev ∧ Below base w (w.setCell ⟨G, 7, none⟩ (.int .i64 (d : Int))) := h.setG 7 _ rfl
end
section
variable {w w' w3 : World} {base G : Nat} {tv cv bv sv ev bv' sv' : Value} {role : UInt8} {s : Vs}
theorem RG.newB (h : RG w base G tv cv role s bv sv ev) {l : List Vb} (hc : Chg (fun k => bv.ownBlock = some k) w w3) (hg : ∀ k, bv'.ownBlock = some k → bv.ownBlock = some k ∨ w.heap.size ≤ k) (ho : recRb.Own w3 base bv' l) :
    RG (w3.setCell ⟨G, 4, none⟩ bv') base G tv cv role { s with blocks := l } bv' sv ev ∧ Below base w (w3.setCell ⟨G, 4, none⟩ bv') := by
  have hs : Chg (fun k => k = G) w3 (w3.setCell ⟨G, 4, none⟩ bv') := Chg.setCell _ _ _ rfl
  have hlt := h.blk.lt
  have nb : ∀ b, bv'.ownBlock = some b → b ≠ G ∧ sv.ownBlock ≠ some b ∧ ev.ownBlock ≠ some b := fun b hb => by
    rcases hg b hb with e | e
    · exact h.a1 b e
    · refine ⟨by omega, fun e2 => ?_, fun e2 => ?_⟩
      · have := (h.os.ltV b e2).2; omega
      · have := (h.oe.ltV b e2).2; omega
  have hb3 : Blk w3 G 164 _ := h.blk.chg hc (fun e => (h.a1 G e).1 rfl)
  have o1 := (h.os.chgV hc (fun k hk e => (h.a1 k e).2.1 hk)).chgV hs (fun k hk => (h.a2 k hk).1)
  have o2 := (h.oe.chgV hc (fun k hk e => (h.a1 k e).2.2 hk)).chgV hs (fun k hk => h.a3 k hk)
  refine ⟨⟨hb3.set 4 bv', ho.chgV hs (fun k hk => (nb k hk).1), o1, o2, h.gb, nb, h.a2, h.a3⟩, ?_⟩
  exact (hc.below (fun k hk => (h.ob.ltV k hk).1) (Nat.le_trans h.gb (Nat.le_of_lt hlt))).trans (hs.below (fun k hk => by have := h.gb; omega) (by have := hc.size; have := h.gb; omega))
theorem RG.newS (h : RG w base G tv cv role s bv sv ev) {l : List (List UInt8)} (hc : Chg (fun k => sv.ownBlock = some k) w w3) (hg : ∀ k, sv'.ownBlock = some k → sv.ownBlock = some k ∨ w.heap.size ≤ k) (ho : recS.Own w3 base sv' l) :
    RG (w3.setCell ⟨G, 5, none⟩ sv') base G tv cv role { s with seen := l } bv sv' ev ∧ Below base w (w3.setCell ⟨G, 5, none⟩ sv') := by
  have hs : Chg (fun k => k = G) w3 (w3.setCell ⟨G, 5, none⟩ sv') := Chg.setCell _ _ _ rfl
  have hlt := h.blk.lt
  have nb : ∀ b, sv'.ownBlock = some b → b ≠ G ∧ ev.ownBlock ≠ some b ∧ bv.ownBlock ≠ some b := fun b hb => by
    rcases hg b hb with e | e
    · exact ⟨(h.a2 b e).1, (h.a2 b e).2, fun e2 => (h.a1 b e2).2.1 e⟩
    · refine ⟨by omega, fun e2 => ?_, fun e2 => ?_⟩
      · have := (h.oe.ltV b e2).2; omega
      · have := (h.ob.ltV b e2).2; omega
  have hb3 : Blk w3 G 164 _ := h.blk.chg hc (fun e => (h.a2 G e).1 rfl)
  have o1 := (h.ob.chgV hc (fun k hk e => (h.a1 k hk).2.1 e)).chgV hs (fun k hk => (h.a1 k hk).1)
  have o2 := (h.oe.chgV hc (fun k hk e => (h.a2 k e).2 hk)).chgV hs (fun k hk => h.a3 k hk)
  refine ⟨⟨hb3.set 5 sv', o1, ho.chgV hs (fun k hk => (nb k hk).1), o2, h.gb, fun b hb => ⟨(h.a1 b hb).1, fun e => (nb b e).2.2 hb, (h.a1 b hb).2.2⟩, fun b hb => ⟨(nb b hb).1, (nb b hb).2.1⟩, h.a3⟩, ?_⟩
  exact (hc.below (fun k hk => (h.os.ltV k hk).1) (Nat.le_trans h.gb (Nat.le_of_lt hlt))).trans (hs.below (fun k hk => by have := h.gb; omega) (by have := hc.size; have := h.gb; omega))
theorem RG.chgB (h : RG w base G tv cv role s bv sv ev) {l : List Vb} (hc : Chg (fun k => bv.ownBlock = some k) w w') (ho : recRb.Own w' base bv l) : RG w' base G tv cv role { s with blocks := l } bv sv ev ∧ Below base w w' :=
  ⟨⟨h.blk.chg hc (fun e => (h.a1 G e).1 rfl), ho, h.os.chgV hc (fun k hk e => (h.a1 k e).2.1 hk), h.oe.chgV hc (fun k hk e => (h.a1 k e).2.2 hk), h.gb, h.a1, h.a2, h.a3⟩, hc.below (fun k hk => (h.ob.ltV k hk).1) (Nat.le_trans h.gb (Nat.le_of_lt h.blk.lt))⟩
theorem RG.chgE (h : RG w base G tv cv role s bv sv ev) {l : List Int} (hc : Chg (fun k => ev.ownBlock = some k) w w') (ho : recJ.Own w' base ev l) : RG w' base G tv cv role { s with ends := l } bv sv ev ∧ Below base w w' :=
  ⟨⟨h.blk.chg hc (fun e => h.a3 G e rfl), h.ob.chgV hc (fun k hk e => (h.a1 k hk).2.2 e), h.os.chgV hc (fun k hk e => (h.a2 k hk).2 e), ho, h.gb, h.a1, h.a2, h.a3⟩, hc.below (fun k hk => (h.oe.ltV k hk).1) (Nat.le_trans h.gb (Nat.le_of_lt h.blk.lt))⟩
theorem RG.slices (h : RG w base G tv cv role s bv sv ev) : (∃ ab cb, bv = .slice ab s.blocks.length cb) ∧ (∃ a1 c1, sv = .slice a1 s.seen.length c1) ∧ ∃ ae ce, ev = .slice ae s.ends.length ce := ⟨owns_slice h.ob, owns_slice h.os, owns_slice h.oe⟩
end
set_option maxRecDepth 100000 in
theorem rRole_any (r : UInt8) (w : World) : Calls Tryz.prog 90 #[.int .u8 (r.toNat : Int)] w fun e w' => e = .returned (.bool (roleOk r)) ∧ w' = w := by
  by_cases h1 : 1 ≤ r.toNat
  · have t1 : (1 : Int) ≤ (r.toNat : Int) := by omega
    by_cases h2 : r.toNat ≤ 3
    · have t2 : (r.toNat : Int) ≤ 3 := by omega
      have H := Lib.hid (show roleOk r = true by unfold roleOk; rw [decide_eq_true h1, decide_eq_true h2]; rfl)
      clear h1 h2
      go_enter Tryz.func90, Tryz.ntmps90
      go_wp2
      go_ret
      exact ⟨by rw [H.out]; rfl, rfl⟩
    · have t2 : ¬ (r.toNat : Int) ≤ 3 := by omega
      have H := Lib.hid (show roleOk r = false by unfold roleOk; rw [decide_eq_false h2]; simp)
      clear h1 h2
      go_enter Tryz.func90, Tryz.ntmps90
      go_wp2
      go_ret
      exact ⟨by rw [H.out]; rfl, rfl⟩
  · have t1 : ¬ (1 : Int) ≤ (r.toNat : Int) := by omega
    have H := Lib.hid (show roleOk r = false by unfold roleOk; rw [decide_eq_false h1]; simp)
    clear h1
    go_enter Tryz.func90, Tryz.ntmps90
    go_wp2
    go_ret
    exact ⟨by rw [H.out]; rfl, rfl⟩
set_option maxRecDepth 100000 in
theorem rInputs_any (r : UInt8) (w : World) : Calls Tryz.prog 94 #[.int .u8 (r.toNat : Int)] w fun e w' => e = .returned (.int .i64 (inputsV r : Int)) ∧ w' = w := by
  by_cases h1 : r = 1
  · have t1 : ((r.toNat : Int) == 1) = true := by rw [h1]; rfl
    have H := Lib.hid (show inputsV r = 1 by unfold inputsV; rw [if_pos h1])
    clear h1
    go_enter Tryz.func94, Tryz.ntmps94
    go_wp2
    go_ret
    exact ⟨by rw [H.out]; rfl, rfl⟩
  · have t1 : ((r.toNat : Int) == 1) = false := u8_ne (by decide) h1
    have H := Lib.hid (show inputsV r = 2 by unfold inputsV; rw [if_neg h1])
    clear h1
    go_enter Tryz.func94, Tryz.ntmps94
    go_wp2
    go_ret
    exact ⟨by rw [H.out]; rfl, rfl⟩
set_option maxRecDepth 100000 in
theorem rReg_any (r : UInt8) (w : World) : Calls Tryz.prog 134 #[.int .u8 (r.toNat : Int)] w fun e w' => e = .returned (.string (bs (regV r))) ∧ w' = w := by
  by_cases h1 : 4 ≤ r.toNat
  · have t1 : ¬ (r.toNat : Int) < 4 := by omega
    have H := Lib.hid (show regV r = [84] by unfold regV; rw [if_pos h1])
    clear h1
    go_enter Tryz.func134, Tryz.ntmps134
    go_wp2
    go_ret
    exact ⟨by rw [H.out]; rfl, rfl⟩
  · have t1 : (r.toNat : Int) < 4 := by omega
    have H := Lib.hid (show regV r = [78] by unfold regV; rw [if_neg h1])
    clear h1
    go_enter Tryz.func134, Tryz.ntmps134
    go_wp2
    go_ret
    exact ⟨by rw [H.out]; rfl, rfl⟩
theorem effV_restR {p a : UInt8} (h1 : p ≠ 1) (h2 : p ≠ 2) (h3 : p ≠ 3) (h4 : p ≠ 4) (h5 : p ≠ 5) (h6 : p ≠ 6) (h7 : p ≠ 7) (h8 : p ≠ 8) (h9 : p ≠ 9) (h10 : p ≠ 10) (h11 : p ≠ 11) (h12 : p ≠ 12) (h13 : p ≠ 13) (h14 : p ≠ 14) (h15 : p ≠ 15) (h16 : p ≠ 16) (h17 : p ≠ 17) (h18 : p ≠ 18) (h19 : p ≠ 19) (h22 : p ≠ 22) (h23 : p ≠ 23) : effV (p, a) = ([], []) := by
  have h : p.toNat = 0 ∨ p.toNat = 20 ∨ p.toNat = 21 ∨ 24 ≤ p.toNat := by
    have e1 : p.toNat ≠ 1 := fun e => h1 (UInt8.toNat_inj.1 e)
    have e2 : p.toNat ≠ 2 := fun e => h2 (UInt8.toNat_inj.1 e)
    have e3 : p.toNat ≠ 3 := fun e => h3 (UInt8.toNat_inj.1 e)
    have e4 : p.toNat ≠ 4 := fun e => h4 (UInt8.toNat_inj.1 e)
    have e5 : p.toNat ≠ 5 := fun e => h5 (UInt8.toNat_inj.1 e)
    have e6 : p.toNat ≠ 6 := fun e => h6 (UInt8.toNat_inj.1 e)
    have e7 : p.toNat ≠ 7 := fun e => h7 (UInt8.toNat_inj.1 e)
    have e8 : p.toNat ≠ 8 := fun e => h8 (UInt8.toNat_inj.1 e)
    have e9 : p.toNat ≠ 9 := fun e => h9 (UInt8.toNat_inj.1 e)
    have e10 : p.toNat ≠ 10 := fun e => h10 (UInt8.toNat_inj.1 e)
    have e11 : p.toNat ≠ 11 := fun e => h11 (UInt8.toNat_inj.1 e)
    have e12 : p.toNat ≠ 12 := fun e => h12 (UInt8.toNat_inj.1 e)
    have e13 : p.toNat ≠ 13 := fun e => h13 (UInt8.toNat_inj.1 e)
    have e14 : p.toNat ≠ 14 := fun e => h14 (UInt8.toNat_inj.1 e)
    have e15 : p.toNat ≠ 15 := fun e => h15 (UInt8.toNat_inj.1 e)
    have e16 : p.toNat ≠ 16 := fun e => h16 (UInt8.toNat_inj.1 e)
    have e17 : p.toNat ≠ 17 := fun e => h17 (UInt8.toNat_inj.1 e)
    have e18 : p.toNat ≠ 18 := fun e => h18 (UInt8.toNat_inj.1 e)
    have e19 : p.toNat ≠ 19 := fun e => h19 (UInt8.toNat_inj.1 e)
    have e22 : p.toNat ≠ 22 := fun e => h22 (UInt8.toNat_inj.1 e)
    have e23 : p.toNat ≠ 23 := fun e => h23 (UInt8.toNat_inj.1 e)
    omega
  unfold effV
  rcases h with h | h | h | h
  · rw [show ((p, a) : VI).1.toNat = 0 from h]; rfl
  · rw [show ((p, a) : VI).1.toNat = 20 from h]; rfl
  · rw [show ((p, a) : VI).1.toNat = 21 from h]; rfl
  · have : effs.getD ((p, a) : VI).1.toNat ([], []) = ([], []) := by
      rw [List.getD, List.getElem?_eq_none (by rw [effs_len]; exact h)]; rfl
    rw [this]; rfl
set_option maxRecDepth 100000 in
set_option maxHeartbeats 8000000 in
theorem rEffect_any (x : VI) (w : World) : Calls Tryz.prog 116 #[.agg #[.int .u8 (x.1.toNat : Int), .int .u8 (x.2.toNat : Int)]] w fun e w' => e = .returned (.tuple #[.string (bs (effV x).1), .string (bs (effV x).2)]) ∧ Below w.heap.size w w' := by
  obtain ⟨p, a⟩ := x
  have hb := b_alloc w (.cells #[.int .u8 (p.toNat : Int), .int .u8 (a.toNat : Int)] 92)
  by_cases h1 : p = 1
  · subst h1
    rw [show (((1 : UInt8).toNat : Nat) : Int) = 1 from rfl] at hb ⊢
    go_enter Tryz.func116, Tryz.ntmps116
    go_wp2
    go_ret2
    exact ⟨rfl, hb⟩
  by_cases h2 : p = 2
  · subst h2
    rw [show (((2 : UInt8).toNat : Nat) : Int) = 2 from rfl] at hb ⊢
    go_enter Tryz.func116, Tryz.ntmps116
    go_wp2
    go_ret2
    exact ⟨rfl, hb⟩
  by_cases h3 : p = 3
  · subst h3
    rw [show (((3 : UInt8).toNat : Nat) : Int) = 3 from rfl] at hb ⊢
    go_enter Tryz.func116, Tryz.ntmps116
    go_wp2
    go_ret2
    exact ⟨rfl, hb⟩
  by_cases h4 : p = 4
  · subst h4
    rw [show (((4 : UInt8).toNat : Nat) : Int) = 4 from rfl] at hb ⊢
    go_enter Tryz.func116, Tryz.ntmps116
    go_wp2
    go_ret2
    exact ⟨rfl, hb⟩
  by_cases h5 : p = 5
  · subst h5
    rw [show (((5 : UInt8).toNat : Nat) : Int) = 5 from rfl] at hb ⊢
    go_enter Tryz.func116, Tryz.ntmps116
    go_wp2
    go_ret2
    exact ⟨rfl, hb⟩
  by_cases h6 : p = 6
  · subst h6
    rw [show (((6 : UInt8).toNat : Nat) : Int) = 6 from rfl] at hb ⊢
    go_enter Tryz.func116, Tryz.ntmps116
    go_wp2
    go_ret2
    exact ⟨rfl, hb⟩
  by_cases h7 : p = 7
  · subst h7
    rw [show (((7 : UInt8).toNat : Nat) : Int) = 7 from rfl] at hb ⊢
    go_enter Tryz.func116, Tryz.ntmps116
    go_wp2
    go_ret2
    exact ⟨rfl, hb⟩
  by_cases h8 : p = 8
  · subst h8
    rw [show (((8 : UInt8).toNat : Nat) : Int) = 8 from rfl] at hb ⊢
    go_enter Tryz.func116, Tryz.ntmps116
    go_wp2
    go_ret2
    exact ⟨rfl, hb⟩
  by_cases h9 : p = 9
  · subst h9
    rw [show (((9 : UInt8).toNat : Nat) : Int) = 9 from rfl] at hb ⊢
    go_enter Tryz.func116, Tryz.ntmps116
    go_wp2
    go_ret2
    exact ⟨rfl, hb⟩
  by_cases h10 : p = 10
  · subst h10
    rw [show (((10 : UInt8).toNat : Nat) : Int) = 10 from rfl] at hb ⊢
    go_enter Tryz.func116, Tryz.ntmps116
    go_wp2
    go_ret2
    exact ⟨rfl, hb⟩
  by_cases h11 : p = 11
  · subst h11
    rw [show (((11 : UInt8).toNat : Nat) : Int) = 11 from rfl] at hb ⊢
    go_enter Tryz.func116, Tryz.ntmps116
    go_wp2
    go_ret2
    exact ⟨rfl, hb⟩
  by_cases h12 : p = 12
  · subst h12
    rw [show (((12 : UInt8).toNat : Nat) : Int) = 12 from rfl] at hb ⊢
    go_enter Tryz.func116, Tryz.ntmps116
    go_wp2
    go_ret2
    exact ⟨rfl, hb⟩
  by_cases h13 : p = 13
  · subst h13
    rw [show (((13 : UInt8).toNat : Nat) : Int) = 13 from rfl] at hb ⊢
    go_enter Tryz.func116, Tryz.ntmps116
    go_wp2
    go_ret2
    exact ⟨rfl, hb⟩
  by_cases h14 : p = 14
  · subst h14
    rw [show (((14 : UInt8).toNat : Nat) : Int) = 14 from rfl] at hb ⊢
    go_enter Tryz.func116, Tryz.ntmps116
    go_wp2
    go_ret2
    exact ⟨rfl, hb⟩
  by_cases h15 : p = 15
  · subst h15
    rw [show (((15 : UInt8).toNat : Nat) : Int) = 15 from rfl] at hb ⊢
    go_enter Tryz.func116, Tryz.ntmps116
    go_wp2
    go_ret2
    exact ⟨rfl, hb⟩
  by_cases h16 : p = 16
  · subst h16
    rw [show (((16 : UInt8).toNat : Nat) : Int) = 16 from rfl] at hb ⊢
    go_enter Tryz.func116, Tryz.ntmps116
    go_wp2
    go_ret2
    exact ⟨rfl, hb⟩
  by_cases h17 : p = 17
  · subst h17
    rw [show (((17 : UInt8).toNat : Nat) : Int) = 17 from rfl] at hb ⊢
    go_enter Tryz.func116, Tryz.ntmps116
    go_wp2_with (go_at_call 134; refine (rReg_any a _).mono ?_; rintro e w1 ⟨rfl, rfl⟩)
    go_ret2
    exact ⟨by first | rfl | (unfold effV regV; split <;> rfl), hb⟩
  by_cases h18 : p = 18
  · subst h18
    rw [show (((18 : UInt8).toNat : Nat) : Int) = 18 from rfl] at hb ⊢
    go_enter Tryz.func116, Tryz.ntmps116
    go_wp2_with (go_at_call 134; refine (rReg_any a _).mono ?_; rintro e w1 ⟨rfl, rfl⟩)
    go_ret2
    exact ⟨by first | rfl | (unfold effV regV; split <;> rfl), hb⟩
  by_cases h19 : p = 19
  · subst h19
    rw [show (((19 : UInt8).toNat : Nat) : Int) = 19 from rfl] at hb ⊢
    go_enter Tryz.func116, Tryz.ntmps116
    go_wp2
    go_ret2
    exact ⟨rfl, hb⟩
  by_cases h22 : p = 22
  · subst h22
    rw [show (((22 : UInt8).toNat : Nat) : Int) = 22 from rfl] at hb ⊢
    go_enter Tryz.func116, Tryz.ntmps116
    go_wp2
    go_ret2
    exact ⟨rfl, hb⟩
  by_cases h23 : p = 23
  · subst h23
    rw [show (((23 : UInt8).toNat : Nat) : Int) = 23 from rfl] at hb ⊢
    go_enter Tryz.func116, Tryz.ntmps116
    go_wp2
    go_ret2
    exact ⟨rfl, hb⟩
  have q1 : ((p.toNat : Int) == 1) = false := u8_ne (by decide) h1
  have q2 : ((p.toNat : Int) == 2) = false := u8_ne (by decide) h2
  have q3 : ((p.toNat : Int) == 3) = false := u8_ne (by decide) h3
  have q4 : ((p.toNat : Int) == 4) = false := u8_ne (by decide) h4
  have q5 : ((p.toNat : Int) == 5) = false := u8_ne (by decide) h5
  have q6 : ((p.toNat : Int) == 6) = false := u8_ne (by decide) h6
  have q7 : ((p.toNat : Int) == 7) = false := u8_ne (by decide) h7
  have q8 : ((p.toNat : Int) == 8) = false := u8_ne (by decide) h8
  have q9 : ((p.toNat : Int) == 9) = false := u8_ne (by decide) h9
  have q10 : ((p.toNat : Int) == 10) = false := u8_ne (by decide) h10
  have q11 : ((p.toNat : Int) == 11) = false := u8_ne (by decide) h11
  have q12 : ((p.toNat : Int) == 12) = false := u8_ne (by decide) h12
  have q13 : ((p.toNat : Int) == 13) = false := u8_ne (by decide) h13
  have q14 : ((p.toNat : Int) == 14) = false := u8_ne (by decide) h14
  have q15 : ((p.toNat : Int) == 15) = false := u8_ne (by decide) h15
  have q16 : ((p.toNat : Int) == 16) = false := u8_ne (by decide) h16
  have q17 : ((p.toNat : Int) == 17) = false := u8_ne (by decide) h17
  have q18 : ((p.toNat : Int) == 18) = false := u8_ne (by decide) h18
  have q19 : ((p.toNat : Int) == 19) = false := u8_ne (by decide) h19
  have q22 : ((p.toNat : Int) == 22) = false := u8_ne (by decide) h22
  have q23 : ((p.toNat : Int) == 23) = false := u8_ne (by decide) h23
  have HE := Lib.hid (show effV (p, a) = ([], []) from effV_restR h1 h2 h3 h4 h5 h6 h7 h8 h9 h10 h11 h12 h13 h14 h15 h16 h17 h18 h19 h22 h23)
  clear h1 h2 h3 h4 h5 h6 h7 h8 h9 h10 h11 h12 h13 h14 h15 h16 h17 h18 h19 h22 h23
  go_enter Tryz.func116, Tryz.ntmps116
  go_wp2
  go_ret2
  exact ⟨by rw [HE.out]; rfl, hb⟩
def rbV (b : Vb) : Value := .agg #[.int .u8 (b.op.toNat : Int), .string (bs b.opn), .string (bs (keptR b)), .bool b.did, .int .i64 (b.at_ : Int)]
def noVb : Vb := ⟨0, [], [], 0, false⟩
theorem recRb_at {w : World} {a : Option Addr} {n c : Nat} {l : List Vb} (h : recRb.Row w (.slice a n c) l) {k : Nat} (hk : k < l.length) : ∃ b off, a = some ⟨b, off, none⟩ ∧ w.cell? ⟨b, off + k * 5, none⟩ = some (.int .u8 (l[k].op.toNat : Int)) ∧ w.cell? ⟨b, off + k * 5 + 1, none⟩ = some (.string (bs l[k].opn)) ∧
    w.cell? ⟨b, off + k * 5 + 2, none⟩ = some (.string (bs (keptR l[k]))) ∧ w.cell? ⟨b, off + k * 5 + 3, none⟩ = some (.bool l[k].did) ∧ w.cell? ⟨b, off + k * 5 + 4, none⟩ = some (.int .i64 (l[k].at_ : Int)) := by
  obtain ⟨a', cap, hv, hle, hc⟩ := Rec.Row.open h
  injection hv with e1 e2 e3
  subst e1
  obtain ⟨b, off, ha, hu⟩ := hc k hk
  exact ⟨b, off, ha, hu 0 _ rfl, hu 1 _ rfl, hu 2 _ rfl, hu 3 _ rfl, hu 4 _ rfl⟩
theorem load_rb {w : World} {b : Nat} {v0 v1 v2 v3 v4 : Value} (h0 : w.cell? ⟨b, 0, none⟩ = some v0) (h1 : w.cell? ⟨b, 1, none⟩ = some v1) (h2 : w.cell? ⟨b, 2, none⟩ = some v2) (h3 : w.cell? ⟨b, 3, none⟩ = some v3) (h4 : w.cell? ⟨b, 4, none⟩ = some v4) :
    (loadVar 206 ⟨b, 0, none⟩).run Tryz.prog w = .ok (.agg #[v0, v1, v2, v3, v4]) w := by
  go_simp
theorem results_cell_tmpR {P : Program} {fn : Func} {p u : Tmp} {ty : TypeId} {tmps : Array Value} {w : World} {v : Value} {b : Nat} (hr : fn.results = #[.cell p ty, .tmp u]) (hp : tmps.getD p undef = .pointer (some ⟨b, 0, none⟩))
    (hl : (loadVar ty ⟨b, 0, none⟩).run P w = .ok v w) : (results fn tmps).run P w = .ok (.tuple #[v, tmps.getD u undef]) w := by
  simp only [Array.getD_eq_getD_getElem?] at hp ⊢
  simp [results, hr, Sem.run_bind, Result.andThen, hp, asAddr, hl]
theorem Chg.set1R {w : World} {b k : Nat} {v : Value} : Chg (fun x => x = b) w (w.setCell ⟨b, k, none⟩ v) := Chg.setCell _ _ _ rfl
theorem rb_store {w : World} {b : Nat} {t : TypeId} {a0 a1 a2 a3 a4 : Value} (hx : Blk w b t [a0, a1, a2, a3, a4]) (v0 v1 v2 v3 v4 : Value) :
    Blk (((((w.setCell ⟨b, 0, none⟩ v0).setCell ⟨b, 1, none⟩ v1).setCell ⟨b, 2, none⟩ v2).setCell ⟨b, 3, none⟩ v3).setCell ⟨b, 4, none⟩ v4) b t [v0, v1, v2, v3, v4] ∧
    Chg (fun x => x = b) w (((((w.setCell ⟨b, 0, none⟩ v0).setCell ⟨b, 1, none⟩ v1).setCell ⟨b, 2, none⟩ v2).setCell ⟨b, 3, none⟩ v3).setCell ⟨b, 4, none⟩ v4) :=
  ⟨((((hx.set 0 v0).set 1 v1).set 2 v2).set 3 v3).set 4 v4, (((Chg.set1R.trans Chg.set1R).trans Chg.set1R).trans Chg.set1R).trans Chg.set1R⟩
section
variable {w : World} {base G : Nat} {tv cv bv sv ev : Value} {role : UInt8} {s : Vs}
set_option maxRecDepth 100000 in
set_option maxHeartbeats 2000000 in
theorem rLast_any (h : RG w base G tv cv role s bv sv ev) (hl : s.blocks.length ≤ 1000) :
    Calls Tryz.prog 115 #[.pointer (some ⟨G, 0, none⟩)] w fun e w' => e = .returned (.tuple #[rbV (s.blocks.getLast?.getD noVb), .bool (s.blocks.getLast?.isSome)]) ∧ Below w.heap.size w w' := by
  obtain ⟨⟨ab, cb, rfl⟩, _, _⟩ := h.slices
  obtain ⟨W1, hW1⟩ : ∃ W1, W1 = w.alloc (.cells #[.int .u8 0, .string ⟨#[]⟩, .string ⟨#[]⟩, .bool false, .int .i64 0] 206) := ⟨_, rfl⟩
  have hb1 : Below w.heap.size w W1 := by rw [hW1]; exact b_alloc _ _
  have hx : Blk W1 w.heap.size 206 [.int .u8 0, .string ⟨#[]⟩, .string ⟨#[]⟩, .bool false, .int .i64 0] := by rw [hW1]; exact Blk.new w _ _
  have h1 := h.below hb1
  have c4 := h1.cell (k := 4) rfl
  have HX := Lib.hid hx
  have HB1 := Lib.hid hb1
  rcases Nat.eq_zero_or_pos s.blocks.length with h0 | h0
  · have hb0 : s.blocks = [] := List.eq_nil_of_length_eq_zero h0
    have t1 : ((s.blocks.length : Int) == 0) = true := by rw [beq_iff_eq]; omega
    have f0 := hx.free (k := 0) (by decide)
    have f1 := hx.free (k := 1) (by decide)
    have f2 := hx.free (k := 2) (by decide)
    have f3 := hx.free (k := 3) (by decide)
    have f4 := hx.free (k := 4) (by decide)
    have x0 := hx.cell (k := 0) rfl
    have x1 := hx.cell (k := 1) rfl
    have x2 := hx.cell (k := 2) rfl
    have x3 := hx.cell (k := 3) rfl
    have x4 := hx.cell (k := 4) rfl
    have HB0 := Lib.hid hb0
    clear h h1 h0 hb0 hx hb1
    go_enter Tryz.func115, Tryz.ntmps115
    go_upto_region 1 with fail
    rw [← hW1]
    clear hW1
    go_wp2_with fail
    obtain ⟨hy, hc⟩ := rb_store HX.out (.int .u8 0) (.string ⟨#[]⟩) (.string ⟨#[]⟩) (.bool false) (.int .i64 0)
    refine bodyPost_ret (results_cell_tmpR rfl rfl (load_rb (hy.cell (k := 0) rfl) (hy.cell (k := 1) rfl) (hy.cell (k := 2) rfl) (hy.cell (k := 3) rfl) (hy.cell (k := 4) rfl))) rfl ?_
    exact ⟨by rw [HB0.out]; rfl, HB1.out.trans (hc.below (fun x (hx : x = w.heap.size) => by omega) HB1.out.size)⟩
  · obtain ⟨m, hm⟩ : ∃ m, s.blocks.length = m + 1 := ⟨s.blocks.length - 1, by omega⟩
    obtain ⟨g, rfl⟩ := h.ob.at0 h0
    have t1 : ((s.blocks.length : Int) == 0) = false := by rw [beq_eq_false_iff_ne]; omega
    have hm1 : (s.blocks.length : Int) - 1 = (m : Int) := by omega
    have hm2 : (m : Int) < (s.blocks.length : Int) := by omega
    have hm3 : (0 : Int) ≤ (m : Int) := by omega
    have hm4 : (s.blocks.length : Int) ≤ 1000 := by omega
    obtain ⟨b', off, ha, e0, e1, e2, e3, e4⟩ := recRb_at h1.ob.row (k := m) (by omega)
    injection ha with ha
    injection ha with ha1 ha2 _
    subst ha1 ha2
    rw [Nat.zero_add] at e0 e1 e2 e3 e4
    have hgl : s.blocks.getLast? = some (s.blocks[m]'(by omega)) := by
      rw [List.getLast?_eq_getElem?, show s.blocks.length - 1 = m by omega]; exact List.getElem?_eq_getElem _
    obtain ⟨q, hq⟩ : ∃ q, q = s.blocks[m]'(by omega) := ⟨_, rfl⟩
    rw [← hq] at e0 e1 e2 e3 e4 hgl
    have HGL := Lib.hid hgl
    have HM := Lib.hid hm
    have f0 := hx.free (k := 0) (by decide)
    have f1 := hx.free (k := 1) (by decide)
    have f2 := hx.free (k := 2) (by decide)
    have f3 := hx.free (k := 3) (by decide)
    have f4 := hx.free (k := 4) (by decide)
    have x0 := hx.cell (k := 0) rfl
    have x1 := hx.cell (k := 1) rfl
    have x2 := hx.cell (k := 2) rfl
    have x3 := hx.cell (k := 3) rfl
    have x4 := hx.cell (k := 4) rfl
    clear h h1 h0 hx hb1 hgl hm hq
    go_enter Tryz.func115, Tryz.ntmps115
    go_upto_region 1 with fail
    rw [← hW1]
    clear hW1
    go_upto_region 3 with fail
    go_region
    obtain ⟨hy, hc⟩ := rb_store HX.out (.int .u8 (q.op.toNat : Int)) (.string (bs q.opn)) (.string (bs (keptR q))) (.bool q.did) (.int .i64 (q.at_ : Int))
    obtain ⟨W2, hW2⟩ : ∃ W2, W2 = (((((W1.setCell ⟨w.heap.size, 0, none⟩ (.int .u8 (q.op.toNat : Int))).setCell ⟨w.heap.size, 1, none⟩ (.string (bs q.opn))).setCell ⟨w.heap.size, 2, none⟩ (.string (bs (keptR q)))).setCell ⟨w.heap.size, 3, none⟩ (.bool q.did)).setCell ⟨w.heap.size, 4, none⟩ (.int .i64 (q.at_ : Int))) := ⟨_, rfl⟩
    rw [← hW2] at hy hc ⊢
    have hz := hy.below (b_drew W2)
    have HB2 := Lib.hid ((HB1.out.trans (hc.below (fun x (hx : x = w.heap.size) => by omega) HB1.out.size)).trans (Below.mono (b_drew W2) (Nat.le_trans HB1.out.size hc.size)))
    have HZ := Lib.hid hz
    clear hW2 hy hc hz
    go_wp2_with fail
    have hz := HZ.out
    refine bodyPost_ret (results_cell_tmpR rfl rfl (load_rb (hz.cell (k := 0) rfl) (hz.cell (k := 1) rfl) (hz.cell (k := 2) rfl) (hz.cell (k := 3) rfl) (hz.cell (k := 4) rfl))) rfl ?_
    exact ⟨by rw [HGL.out]; rfl, HB2.out⟩
end
end Go.Proofs.YtndagciefnddmaaGreatDoor
namespace Go.Proofs.YtndagciefnddmaaGreatDoor
open Go.RowKit Oct
attribute [local irreducible] wpG
def lastR (l : List Vb) : Vb := l.getLast?.getD noVb
theorem elseBad_last (l : List Vb) : elseBad l.getLast? = (!l.getLast?.isSome || ((lastR l).op != 19 || (lastR l).did)) := by
  unfold lastR elseBad
  cases l.getLast? <;> rfl
theorem some_last (l : List Vb) : l.getLast?.isSome = !decide (l = []) := by
  cases l with
  | nil => rfl
  | cons x l => rw [List.getLast?_cons]; simp
section
variable {w : World} {base G : Nat} {tv cv bv sv ev : Value} {role : UInt8} {s : Vs}
set_option maxRecDepth 100000 in
set_option maxHeartbeats 16000000 in
theorem rAhead_any (x : VI) (nt ct : Nat) (at_ : Option Addr) (h : RG w base G (.slice at_ nt ct) cv role s bv sv ev) (hl : s.blocks.length ≤ 1000) (hnt : nt ≤ 1000) :
    Calls Tryz.prog 91 #[.pointer (some ⟨G, 0, none⟩), .agg #[.int .u8 (x.1.toNat : Int), .int .u8 (x.2.toNat : Int)]] w fun e w' => e = .returned (.int .i64 (thereV nt (inputsV role) role s.blocks x : Int)) ∧ Below w.heap.size w w' := by
  obtain ⟨p, a⟩ := x
  obtain ⟨⟨ab, cb, rfl⟩, _, _⟩ := h.slices
  obtain ⟨W1, hW1⟩ : ∃ W1, W1 = w.alloc (.cells #[.int .u8 (p.toNat : Int), .int .u8 (a.toNat : Int)] 92) := ⟨_, rfl⟩
  have hb1 : Below w.heap.size w W1 := by rw [hW1]; exact b_alloc _ _
  have hx : Blk W1 w.heap.size 92 [.int .u8 (p.toNat : Int), .int .u8 (a.toNat : Int)] := by rw [hW1]; exact Blk.new w _ _
  have HB1 := Lib.hid hb1
  have HX := Lib.hid hx
  have HH := Lib.hid h
  have H1 := Lib.hid (h.below hb1)
  have HLST := Lib.hid (fun w' (hB : Below w.heap.size w w') => rLast_any (h.below hB) hl)
  have a1 : (a.toNat : Int) < 256 := by have := a.toNat_lt; omega
  have a0 : (0 : Int) ≤ (a.toNat : Int) := by omega
  have n1 : (nt : Int) ≤ 1000 := by omega
  have aw : IntKind.i64.wrap (a.toNat : Int) = (a.toNat : Int) := by simp [IntKind.wrap, IntKind.bits, IntKind.signed]; omega
  have l1 : (s.blocks.length : Int) ≤ 1000 := by omega
  obtain ⟨q, hq⟩ : ∃ q, q = lastR s.blocks := ⟨_, rfl⟩
  obtain ⟨is_, his⟩ : ∃ is_, is_ = s.blocks.getLast?.isSome := ⟨_, rfl⟩
  have HEB := Lib.hid (elseBad_last s.blocks)
  have HSL := Lib.hid (some_last s.blocks)
  rw [← hq, ← his] at HEB
  rw [← his] at HSL
  obtain ⟨t, ht⟩ : ∃ t, t = thereV nt (inputsV role) role s.blocks (p, a) := ⟨_, rfl⟩
  rw [← ht]
  have HT := Lib.hid ht
  have HLQ := Lib.hid (show rbV (s.blocks.getLast?.getD noVb) = .agg #[.int .u8 (q.op.toNat : Int), .string (bs q.opn), .string (bs (keptR q)), .bool q.did, .int .i64 (q.at_ : Int)] by rw [hq]; rfl)
  have HIS := Lib.hid his
  clear h hb1 hx ht hq his
  go_enter Tryz.func91, Tryz.ntmps91
  go_upto_region 1 with fail
  rw [← hW1]
  clear hW1
  go_upto_region 2 with (go_at_call 115; refine (HLST.out _ HB1.out).mono ?_; rintro e w2 ⟨rfl, hB2⟩; rw [HLQ.out, ← HIS.out]; have HB2 := Lib.hid (bt HB1.out hB2); have HX2 := Lib.hid (HX.out.below hB2); clear hB2)
  obtain ⟨W3, hW3⟩ : ∃ W3, W3 = w2.alloc (.cells #[.int .u8 (q.op.toNat : Int), .string (bs q.opn), .string (bs (keptR q)), .bool q.did, .int .i64 (q.at_ : Int)] 206) := ⟨_, rfl⟩
  have hb23 : Below w2.heap.size w2 W3 := by rw [hW3]; exact b_alloc _ _
  have hy : Blk W3 w2.heap.size 206 [.int .u8 (q.op.toNat : Int), .string (bs q.opn), .string (bs (keptR q)), .bool q.did, .int .i64 (q.at_ : Int)] := by rw [hW3]; exact Blk.new w2 _ _
  rw [← hW3]
  have hb3 := bt HB2.out hb23
  have h3 := HH.out.below hb3
  have g0 := h3.cell (k := 0) rfl
  have g2 := h3.cell (k := 2) rfl
  have g4 := h3.cell (k := 4) rfl
  have hx3 := HX2.out.below hb23
  have x0 := hx3.cell (k := 0) rfl
  have x1 := hx3.cell (k := 1) rfl
  obtain ⟨C, hC⟩ : ∃ C, C = w2.heap.size := ⟨_, rfl⟩
  rw [← hC] at hy ⊢
  have y0 := hy.cell (k := 0) rfl
  have y3 := hy.cell (k := 3) rfl
  have HB3 := Lib.hid hb3
  clear hW3 hy hb23 hb3 h3 hx3 HB2 HX2 hC
  by_cases h1 : p = 1
  · have u1 : ((p.toNat : Int) == 1) = true := by rw [h1]; rfl
    by_cases hc : nt ≤ a.toNat
    · have tt : (nt : Int) ≤ (a.toNat : Int) := by omega
      have HV := Lib.hid (show t = 3 by rw [HT.out]; unfold thereV; simp [h1, hc])
      clear HT
      go_upto_region 4 with fail
      go_quiet (fail)
      go_wp2_with fail
      go_ret
      exact ⟨by rw [HV.out]; rfl, bt HB3.out (Below.drewN' _ _)⟩
    · have tt : ¬ (nt : Int) ≤ (a.toNat : Int) := by omega
      have HV := Lib.hid (show t = 0 by rw [HT.out]; unfold thereV; simp [h1, hc])
      clear HT
      go_upto_region 4 with fail
      go_quiet (fail)
      go_wp2_with fail
      go_ret
      exact ⟨by rw [HV.out]; rfl, bt HB3.out (Below.drewN' _ _)⟩
  by_cases h3 : p = 3
  · have u1 : ((p.toNat : Int) == 1) = false := u8_ne (by decide) h1
    have u3 : ((p.toNat : Int) == 3) = true := by rw [h3]; rfl
    by_cases hc : inputsV role ≤ a.toNat
    · have tt : (inputsV role : Int) ≤ (a.toNat : Int) := by omega
      have HV := Lib.hid (show t = 3 by rw [HT.out]; unfold thereV; simp [h3, hc])
      clear HT
      go_upto_region 7 with fail
      go_quiet (exact Calls.quiet_of_same (rInputs_any role _))
      go_wp2_with fail
      go_ret
      exact ⟨by rw [HV.out]; rfl, bt HB3.out (Below.drewN' _ _)⟩
    · have tt : ¬ (inputsV role : Int) ≤ (a.toNat : Int) := by omega
      have HV := Lib.hid (show t = 0 by rw [HT.out]; unfold thereV; simp [h3, hc])
      clear HT
      go_upto_region 7 with fail
      go_quiet (exact Calls.quiet_of_same (rInputs_any role _))
      go_wp2_with fail
      go_ret
      exact ⟨by rw [HV.out]; rfl, bt HB3.out (Below.drewN' _ _)⟩
  by_cases h17 : p = 17
  · have u1 : ((p.toNat : Int) == 1) = false := u8_ne (by decide) h1
    have u3 : ((p.toNat : Int) == 3) = false := u8_ne (by decide) h3
    have u17 : ((p.toNat : Int) == 17) = true := by rw [h17]; rfl
    by_cases hc : 8 ≤ a.toNat
    · have tt : (8 : Int) ≤ (a.toNat : Int) := by omega
      have HV := Lib.hid (show t = 3 by rw [HT.out]; unfold thereV; simp [h17, hc])
      clear HT
      go_wp2_with fail
      go_ret
      exact ⟨by rw [HV.out]; rfl, HB3.out⟩
    · have tt : ¬ (8 : Int) ≤ (a.toNat : Int) := by omega
      have HV := Lib.hid (show t = 0 by rw [HT.out]; unfold thereV; simp [h17, hc])
      clear HT
      go_wp2_with fail
      go_ret
      exact ⟨by rw [HV.out]; rfl, HB3.out⟩
  by_cases h18 : p = 18
  · have u1 : ((p.toNat : Int) == 1) = false := u8_ne (by decide) h1
    have u3 : ((p.toNat : Int) == 3) = false := u8_ne (by decide) h3
    have u17 : ((p.toNat : Int) == 17) = false := u8_ne (by decide) h17
    have u18 : ((p.toNat : Int) == 18) = true := by rw [h18]; rfl
    by_cases hc : 8 ≤ a.toNat
    · have tt : (8 : Int) ≤ (a.toNat : Int) := by omega
      have HV := Lib.hid (show t = 3 by rw [HT.out]; unfold thereV; simp [h18, hc])
      clear HT
      go_wp2_with fail
      go_ret
      exact ⟨by rw [HV.out]; rfl, HB3.out⟩
    · have tt : ¬ (8 : Int) ≤ (a.toNat : Int) := by omega
      have HV := Lib.hid (show t = 0 by rw [HT.out]; unfold thereV; simp [h18, hc])
      clear HT
      go_wp2_with fail
      go_ret
      exact ⟨by rw [HV.out]; rfl, HB3.out⟩
  by_cases h23 : p = 23
  · have u1 : ((p.toNat : Int) == 1) = false := u8_ne (by decide) h1
    have u3 : ((p.toNat : Int) == 3) = false := u8_ne (by decide) h3
    have u17 : ((p.toNat : Int) == 17) = false := u8_ne (by decide) h17
    have u18 : ((p.toNat : Int) == 18) = false := u8_ne (by decide) h18
    have u23 : ((p.toNat : Int) == 23) = true := by rw [h23]; rfl
    by_cases hc : role = 1
    · have tt : ((role.toNat : Int) != 1) = false := by rw [hc]; rfl
      have HV := Lib.hid (show t = 0 by rw [HT.out]; unfold thereV; simp [h23, hc])
      clear HT
      go_wp2_with fail
      go_ret
      exact ⟨by rw [HV.out]; rfl, HB3.out⟩
    · have tt : ((role.toNat : Int) != 1) = true := by rw [bne, show ((role.toNat : Int) == 1) = false from u8_ne (by decide) hc]; rfl
      have HV := Lib.hid (show t = 133 by rw [HT.out]; unfold thereV; simp [h23, hc])
      clear HT
      go_wp2_with fail
      go_ret
      exact ⟨by rw [HV.out]; rfl, HB3.out⟩
  by_cases h20 : p = 20
  · have u1 : ((p.toNat : Int) == 1) = false := u8_ne (by decide) h1
    have u3 : ((p.toNat : Int) == 3) = false := u8_ne (by decide) h3
    have u17 : ((p.toNat : Int) == 17) = false := u8_ne (by decide) h17
    have u18 : ((p.toNat : Int) == 18) = false := u8_ne (by decide) h18
    have u23 : ((p.toNat : Int) == 23) = false := u8_ne (by decide) h23
    have u20 : ((p.toNat : Int) == 20) = true := by rw [h20]; rfl
    by_cases hi : is_ = true
    · subst hi
      have HE := HEB.out
      by_cases hc : q.op = 19
      · have tt : ((q.op.toNat : Int) != 19) = false := by rw [hc]; rfl
        by_cases hd : q.did = true
        · have HW : elseBad s.blocks.getLast? = true := by rw [HE, hd]; simp
          rw [hd] at y3
          have HV := Lib.hid (show t = 132 by rw [HT.out]; unfold thereV; simp [h20, HW])
          clear HT
          go_wp2_with fail
          go_ret
          exact ⟨by rw [HV.out]; rfl, HB3.out⟩
        · have hd : q.did = false := by simpa using hd
          have HW : elseBad s.blocks.getLast? = false := by rw [HE, hd, hc]; rfl
          rw [hd] at y3
          have HV := Lib.hid (show t = 0 by rw [HT.out]; unfold thereV; simp [h20, HW])
          clear HT
          go_wp2_with fail
          go_ret
          exact ⟨by rw [HV.out]; rfl, HB3.out⟩
      · have tt : ((q.op.toNat : Int) != 19) = true := by rw [bne, show ((q.op.toNat : Int) == 19) = false from u8_ne (by decide) hc]; rfl
        have HW : elseBad s.blocks.getLast? = true := by rw [HE]; simp [hc]
        have HV := Lib.hid (show t = 132 by rw [HT.out]; unfold thereV; simp [h20, HW])
        clear HT
        go_wp2_with fail
        go_ret
        exact ⟨by rw [HV.out]; rfl, HB3.out⟩
    · have hi : is_ = false := by simpa using hi
      subst hi
      have HW : elseBad s.blocks.getLast? = true := by rw [HEB.out]; rfl
      have HV := Lib.hid (show t = 132 by rw [HT.out]; unfold thereV; simp [h20, HW])
      clear HT
      go_wp2_with fail
      go_ret
      exact ⟨by rw [HV.out]; rfl, HB3.out⟩
  by_cases h21 : p = 21
  · have u1 : ((p.toNat : Int) == 1) = false := u8_ne (by decide) h1
    have u3 : ((p.toNat : Int) == 3) = false := u8_ne (by decide) h3
    have u17 : ((p.toNat : Int) == 17) = false := u8_ne (by decide) h17
    have u18 : ((p.toNat : Int) == 18) = false := u8_ne (by decide) h18
    have u23 : ((p.toNat : Int) == 23) = false := u8_ne (by decide) h23
    have u20 : ((p.toNat : Int) == 20) = false := u8_ne (by decide) h20
    have u21 : ((p.toNat : Int) == 21) = true := by rw [h21]; rfl
    by_cases hi : s.blocks = []
    · have HI : is_ = false := by rw [HSL.out, decide_eq_true hi]; rfl
      subst HI
      have HV := Lib.hid (show t = 132 by rw [HT.out]; unfold thereV; simp [h21, hi])
      clear HT
      go_wp2_with fail
      go_ret
      exact ⟨by rw [HV.out]; rfl, HB3.out⟩
    · have HI : is_ = true := by rw [HSL.out, decide_eq_false hi]; rfl
      subst HI
      have HV := Lib.hid (show t = 0 by rw [HT.out]; unfold thereV; simp [h21, hi])
      clear HT
      go_wp2_with fail
      go_ret
      exact ⟨by rw [HV.out]; rfl, HB3.out⟩
  by_cases h19 : p = 19
  · have u1 : ((p.toNat : Int) == 1) = false := u8_ne (by decide) h1
    have u3 : ((p.toNat : Int) == 3) = false := u8_ne (by decide) h3
    have u17 : ((p.toNat : Int) == 17) = false := u8_ne (by decide) h17
    have u18 : ((p.toNat : Int) == 18) = false := u8_ne (by decide) h18
    have u23 : ((p.toNat : Int) == 23) = false := u8_ne (by decide) h23
    have u20 : ((p.toNat : Int) == 20) = false := u8_ne (by decide) h20
    have u21 : ((p.toNat : Int) == 21) = false := u8_ne (by decide) h21
    have u19 : ((p.toNat : Int) == 19) = true := by rw [h19]; rfl
    by_cases hc : 8 ≤ s.blocks.length
    · have tt : (8 : Int) ≤ (s.blocks.length : Int) := by omega
      have HV := Lib.hid (show t = 132 by rw [HT.out]; unfold thereV; simp [h19, hc])
      clear HT
      go_wp2_with fail
      go_ret
      exact ⟨by rw [HV.out]; rfl, HB3.out⟩
    · have tt : ¬ (8 : Int) ≤ (s.blocks.length : Int) := by omega
      have HV := Lib.hid (show t = 0 by rw [HT.out]; unfold thereV; simp [h19, hc])
      clear HT
      go_wp2_with fail
      go_ret
      exact ⟨by rw [HV.out]; rfl, HB3.out⟩
  by_cases h22 : p = 22
  · have u1 : ((p.toNat : Int) == 1) = false := u8_ne (by decide) h1
    have u3 : ((p.toNat : Int) == 3) = false := u8_ne (by decide) h3
    have u17 : ((p.toNat : Int) == 17) = false := u8_ne (by decide) h17
    have u18 : ((p.toNat : Int) == 18) = false := u8_ne (by decide) h18
    have u23 : ((p.toNat : Int) == 23) = false := u8_ne (by decide) h23
    have u20 : ((p.toNat : Int) == 20) = false := u8_ne (by decide) h20
    have u21 : ((p.toNat : Int) == 21) = false := u8_ne (by decide) h21
    have u19 : ((p.toNat : Int) == 19) = false := u8_ne (by decide) h19
    have u22 : ((p.toNat : Int) == 22) = true := by rw [h22]; rfl
    by_cases hc : 8 ≤ s.blocks.length
    · have tt : (8 : Int) ≤ (s.blocks.length : Int) := by omega
      have HV := Lib.hid (show t = 132 by rw [HT.out]; unfold thereV; simp [h22, hc])
      clear HT
      go_wp2_with fail
      go_ret
      exact ⟨by rw [HV.out]; rfl, HB3.out⟩
    · have tt : ¬ (8 : Int) ≤ (s.blocks.length : Int) := by omega
      have HV := Lib.hid (show t = 0 by rw [HT.out]; unfold thereV; simp [h22, hc])
      clear HT
      go_wp2_with fail
      go_ret
      exact ⟨by rw [HV.out]; rfl, HB3.out⟩
  have u1 : ((p.toNat : Int) == 1) = false := u8_ne (by decide) h1
  have u3 : ((p.toNat : Int) == 3) = false := u8_ne (by decide) h3
  have u17 : ((p.toNat : Int) == 17) = false := u8_ne (by decide) h17
  have u18 : ((p.toNat : Int) == 18) = false := u8_ne (by decide) h18
  have u23 : ((p.toNat : Int) == 23) = false := u8_ne (by decide) h23
  have u20 : ((p.toNat : Int) == 20) = false := u8_ne (by decide) h20
  have u21 : ((p.toNat : Int) == 21) = false := u8_ne (by decide) h21
  have u19 : ((p.toNat : Int) == 19) = false := u8_ne (by decide) h19
  have u22 : ((p.toNat : Int) == 22) = false := u8_ne (by decide) h22
  have HV := Lib.hid (show t = 0 by rw [HT.out]; unfold thereV; simp [h1, h3, h17, h18, h23, h20, h21, h19, h22])
  clear HT
  go_wp2_with fail
  go_ret
  exact ⟨by rw [HV.out]; rfl, HB3.out⟩
end
end Go.Proofs.YtndagciefnddmaaGreatDoor
namespace Go.Proofs.YtndagciefnddmaaGreatDoor
open Go.RowKit Oct
attribute [local irreducible] wpG
theorem effs_g5 : ∀ k, k < 24 → (50 ∈ (effs.getD k ([], [])).2 → (effs.getD k ([], [])).1.length = 2) := by decide
theorem eff_two (x : VI) (hx : x.1.toNat < 24) (h : 50 ∈ (effV x).2) : (effV x).1.length = 2 := by
  have hl : ∀ s : List UInt8, (replV s (regV x.2)).length = s.length := fun s => by
    unfold replV
    split
    · rename_i h; rw [h]; rcases regV_two x.2 with e | e <;> rw [e] <;> rfl
    · rfl
  unfold effV at h ⊢
  rw [hl]
  rcases replV_mem h with h | ⟨_, h⟩
  · exact effs_g5 _ hx h
  · rcases regV_two x.2 with e | e <;> (rw [e] at h; simp at h)
theorem valuesV_A {k : List UInt8} {x : VI} (h : k.length < (effV x).1.length) : valuesV k x = (130, k) := by unfold valuesV; rw [if_pos h]
theorem valuesV_B {k : List UInt8} {x : VI} (h : ¬ k.length < (effV x).1.length) (hf : fitV (effV x).1 (k.drop (k.length - (effV x).1.length)) = false) : valuesV k x = (131, k) := by unfold valuesV; rw [if_neg h, if_pos hf]
theorem valuesV_C {k : List UInt8} {x : VI} (h : ¬ k.length < (effV x).1.length) (hf : fitV (effV x).1 (k.drop (k.length - (effV x).1.length)) = true) {r : List UInt8}
    (hr : r = k.take (k.length - (effV x).1.length) ++ givesV (k.drop (k.length - (effV x).1.length)) (effV x).2) (hm : (x.1 = 22 ∧ 16 ≤ r.length) ∨ 16 < r.length) : valuesV k x = (130, k) := by
  unfold valuesV; rw [if_neg h, if_neg (by rw [hf]; decide), ← hr, if_pos hm]
theorem valuesV_D {k : List UInt8} {x : VI} (h : ¬ k.length < (effV x).1.length) (hf : fitV (effV x).1 (k.drop (k.length - (effV x).1.length)) = true) {r : List UInt8}
    (hr : r = k.take (k.length - (effV x).1.length) ++ givesV (k.drop (k.length - (effV x).1.length)) (effV x).2) (hm : ¬ ((x.1 = 22 ∧ 16 ≤ r.length) ∨ 16 < r.length)) : valuesV k x = (0, r) := by
  unfold valuesV; rw [if_neg h, if_neg (by rw [hf]; decide), ← hr, if_neg hm]
section
variable {w : World} {base G : Nat} {tv cv bv sv ev : Value} {role : UInt8} {s : Vs}
set_option maxRecDepth 100000 in
set_option maxHeartbeats 16000000 in
theorem rValues_any (x : VI) (hxo : x.1.toNat < 24) (h : RG w base G tv cv role s bv sv ev) (hl : s.kinds.length ≤ 1000) :
    Calls Tryz.prog 92 #[.pointer (some ⟨G, 0, none⟩), .agg #[.int .u8 (x.1.toNat : Int), .int .u8 (x.2.toNat : Int)]] w fun e w' => e = .returned (.int .i64 ((valuesV s.kinds x).1 : Int)) ∧ ((valuesV s.kinds x).1 = 0 → RG w' base G tv cv role { s with kinds := (valuesV s.kinds x).2 } bv sv ev) ∧ Below base w w' := by
  obtain ⟨F1, F2, F3, F4, F5, F6⟩ := eff_facts x hxo
  have F7 := eff_two x hxo
  have HEF := Lib.hid (rEffect_any x)
  have VA := Lib.hid (@valuesV_A s.kinds x)
  have VB := Lib.hid (@valuesV_B s.kinds x)
  have VC := Lib.hid (@valuesV_C s.kinds x)
  have VD := Lib.hid (@valuesV_D s.kinds x)
  obtain ⟨t, ht⟩ : ∃ t, t = (effV x).1 := ⟨_, rfl⟩
  obtain ⟨gv, hgv⟩ : ∃ gv, gv = (effV x).2 := ⟨_, rfl⟩
  obtain ⟨k, hk⟩ : ∃ k, k = s.kinds := ⟨_, rfl⟩
  rw [← ht] at HEF VA VB VC VD F1 F3 F4 F5 F7
  rw [← hgv] at HEF VC VD F2 F3 F4 F6 F7
  rw [← hk] at VA VB VC VD hl ⊢
  have HK := Lib.hid hk
  obtain ⟨W1, hW1⟩ : ∃ W1, W1 = w.alloc (.cells #[.int .u8 (x.1.toNat : Int), .int .u8 (x.2.toNat : Int)] 92) := ⟨_, rfl⟩
  have hb1 : Below w.heap.size w W1 := by rw [hW1]; exact b_alloc _ _
  have hx : Blk W1 w.heap.size 92 [.int .u8 (x.1.toNat : Int), .int .u8 (x.2.toNat : Int)] := by rw [hW1]; exact Blk.new w _ _
  have x0 := hx.cell (k := 0) rfl
  have x1 := hx.cell (k := 1) rfl
  have HX := Lib.hid hx
  have HB1 := Lib.hid hb1
  have HH := Lib.hid h
  have hGb := Nat.le_trans h.gb (Nat.le_of_lt h.blk.lt)
  have k1 : (k.length : Int) ≤ 1000 := by omega
  have t1 : (t.length : Int) ≤ 3 := by omega
  have g1 : (gv.length : Int) ≤ 2 := by omega
  have HF2 := Lib.hid F2
  have HF3 := Lib.hid F3
  have HF7 := Lib.hid F7
  clear h hb1 hx ht hgv hk F1 F2 F3 F4 F7
  go_enter Tryz.func92, Tryz.ntmps92
  go_upto_region 1 with fail
  rw [← hW1]
  clear hW1
  go_upto_region 2 with (go_at_call 116; refine (HEF.out _).mono ?_; rintro e w2 ⟨rfl, hB2⟩; have HB2 := Lib.hid (bt HB1.out hB2); have HC2 := Lib.hid hB2; clear hB2)
  have h2 := HH.out.below HB2.out
  have g3 := h2.cell (k := 3) rfl
  rw [← HK.out] at g3
  have H2 := Lib.hid h2
  clear h2 x0 x1
  by_cases hA : k.length < t.length
  · have tt : (k.length : Int) < (t.length : Int) := by omega
    have HV := Lib.hid (VA.out hA)
    go_wp2_with fail
    go_ret
    exact ⟨by rw [HV.out]; rfl, (fun e => by rw [HV.out] at e; cases e), HB2.out.mono hGb⟩
  · have tt : ¬ (k.length : Int) < (t.length : Int) := by omega
    obtain ⟨n, hn⟩ : ∃ n, n = k.length - t.length := ⟨_, rfl⟩
    have hn1 : (k.length : Int) - (t.length : Int) = (n : Int) := by omega
    have hn2 : (n : Int) ≤ (k.length : Int) := by omega
    have hn3 : (0 : Int) ≤ (n : Int) := by omega
    have VB := Lib.hid (VB.out hA)
    have VC := Lib.hid (@(VC.out hA))
    have VD := Lib.hid (@(VD.out hA))
    rw [← hn] at VB VC VD
    have hlen : (k.drop n).length = t.length := by rw [List.length_drop]; omega
    clear hA hn VA
    go_upto_region 4 with fail
    go_quiet (fail)
    obtain ⟨w3, hw3⟩ : ∃ W, W = w2.drewN nq := ⟨_, rfl⟩
    rw [← hw3]
    have hBq : Below w2.heap.size w2 w3 := by rw [hw3]; exact Below.drewN' _ _
    have HB3 := Lib.hid (bt HB2.out hBq)
    have HC3 := Lib.hid (bt HC2.out hBq)
    clear hw3 hBq nq g3
    obtain ⟨top, htop⟩ : ∃ top, top = k.drop n := ⟨_, rfl⟩
    obtain ⟨r0, hr0⟩ : ∃ r0, r0 = k.take n := ⟨_, rfl⟩
    have hr0l : r0.length ≤ 1000 := by rw [hr0, List.length_take]; omega
    rw [← htop] at hlen VB VC VD
    rw [← hr0] at VC VD
    have HTOP := Lib.hid htop
    have HR0 := Lib.hid hr0
    have HLEN := Lib.hid hlen
    have tl : (top.length : Int) = (t.length : Int) := by omega
    have HB3w := Lib.hid HB3.out.size
    clear htop hr0 hlen
    go_wp2_with fail
    rw [← HTOP.out, ← HR0.out]
    go_loopw [9] (fun v wr => ∃ i : Nat, v = .int .i64 (i : Int) ∧ i ≤ t.length ∧ Hid (∀ j (hj : j < t.length) (hj' : j < top.length), j < i → t[j] = 63 ∨ t[j] = top[j]) ∧ Hid (Below W1.heap.size W1 wr)) (fun v _ => t.length - (intOf v).toNat)
    case atStart => exact ⟨0, rfl, Nat.zero_le _, fun j _ _ h => absurd h (by omega), HC3.out⟩
    case round =>
      obtain ⟨i, rfl, hi, HFI, HBr⟩ := hrel
      by_cases h0 : i < t.length
      · have h0' : i < top.length := by rw [HLEN.out]; exact h0
        have kk0 : (0 : Int) ≤ (i : Int) := by omega
        have kk1 : (i : Int) < (t.length : Int) := by omega
        have kk2 : (i : Int) < (top.length : Int) := by omega
        by_cases h63 : t[i] = 63
        · have e1 : ((t[i].toNat : Int) != 63) = false := by rw [h63]; rfl
          have HN := Lib.hid (show ∀ j (hj : j < t.length) (hj' : j < top.length), j < i + 1 → t[j] = 63 ∨ t[j] = top[j] from fun j hj hj' hlt => by
            by_cases e : j = i
            · subst e; exact .inl h63
            · exact HFI.out j hj hj' (by omega))
          clear h63 HFI
          go_upto_region 8 with fail
          go_quiet (fail)
          go_wp2_with fail
          go_roundw
          case rel => exact ⟨i + 1, by go_num, by omega, HN.out, bt HBr.out (Below.drewN' _ _)⟩
          case measure => simp [intOf]; omega
        · have e1 : ((t[i].toNat : Int) != 63) = true := by rw [bne, show ((t[i].toNat : Int) == 63) = false from u8_ne (by decide) h63]; rfl
          by_cases hq : t[i] = top[i]
          · have e2 : ((t[i].toNat : Int) != (top[i].toNat : Int)) = false := by rw [hq]; simp
            have HN := Lib.hid (show ∀ j (hj : j < t.length) (hj' : j < top.length), j < i + 1 → t[j] = 63 ∨ t[j] = top[j] from fun j hj hj' hlt => by
              by_cases e : j = i
              · subst e; exact .inr hq
              · exact HFI.out j hj hj' (by omega))
            clear h63 hq HFI
            go_upto_region 8 with fail
            go_quiet (fail)
            go_wp2_with fail
            go_roundw
            case rel => exact ⟨i + 1, by go_num, by omega, HN.out, bt HBr.out (Below.drewN' _ _)⟩
            case measure => simp [intOf]; omega
          · have e2 : ((t[i].toNat : Int) != (top[i].toNat : Int)) = true := by rw [bne_iff_ne]; intro e; exact hq (UInt8.toNat_inj.1 (by omega))
            have HV := Lib.hid (VB.out (by
              cases hft : fitV t top with
              | false => rfl
              | true =>
                rcases (fitV_iff t top (by rw [HLEN.out]; exact Nat.le_refl _)).1 hft i h0 h0' with e | e
                · exact absurd e h63
                · exact absurd e hq))
            clear h63 hq HFI
            go_upto_region 8 with fail
            go_quiet (fail)
            go_wp2_with fail
            go_ret
            exact ⟨by rw [HV.out]; rfl, (fun e => by rw [HV.out] at e; cases e), (bt (bt HB1.out HBr.out) (Below.drewN' _ _)).mono hGb⟩
      · obtain rfl : i = t.length := by omega
        have hfit : fitV t top = true := (fitV_iff t top (by rw [HLEN.out]; exact Nat.le_refl _)).2 (fun j hj hj' => HFI.out j hj hj' hj)
        have HC := Lib.hid (VC.out hfit rfl)
        have HD := Lib.hid (VD.out hfit rfl)
        have e0 : ¬ (t.length : Int) < (t.length : Int) := by omega
        clear hfit HFI h0 VB VC VD
        go_wp2_with fail
        go_loop [7, 10] (fun vr vi => ∃ (i : Nat) (r : List UInt8), vr = .string (bs r) ∧ vi = .int .i64 (i : Int) ∧ i ≤ gv.length ∧ r.length ≤ 1000 + 3 * i ∧ Hid (r = r0 ++ givesV top (gv.take i))) (fun _ vi => gv.length - (intOf vi).toNat)
        case atStart => exact ⟨0, r0, rfl, rfl, Nat.zero_le _, by omega, by unfold Hid; simp [givesV]⟩
        case round =>
          obtain ⟨i, r, rfl, rfl, hi, hrl, HRI⟩ := hrel
          by_cases h0 : i < gv.length
          · have kk0 : (0 : Int) ≤ (i : Int) := by omega
            have kk1 : (i : Int) < (gv.length : Int) := by omega
            have HS := Lib.hid (givesV_succ (top := top) h0)
            have hmem := List.getElem_mem h0
            have hr1 : (r.length : Int) ≤ 1006 := by omega
            have tp3 : (top.length : Int) ≤ 3 := by omega
            by_cases h49 : gv[i] = 49
            · have e1 : ((gv[i].toNat : Int) == 49) = true := by rw [h49]; rfl
              have hp1 : 1 ≤ top.length := by rw [HLEN.out]; exact HF3.out (h49 ▸ hmem)
              have hp2 : (1 : Int) ≤ (top.length : Int) := by omega
              have HQ := Lib.hid (show r0 ++ givesV top (gv.take (i + 1)) = r ++ top.take 1 by rw [HS.out, if_pos h49, ← List.append_assoc, HRI.out])
              have hlt : (top.take 1).length = 1 := by rw [List.length_take]; omega
              clear h49 hmem
              go_wp2_with fail
              go_round
              case rel => exact ⟨i + 1, r ++ top.take 1, rfl, by go_num, by omega, by rw [List.length_append, hlt]; omega, HQ.out.symm⟩
              case measure => simp [intOf]; omega
            · have e1 : ((gv[i].toNat : Int) == 49) = false := u8_ne (by decide) h49
              by_cases h50 : gv[i] = 50
              · have e2 : ((gv[i].toNat : Int) == 50) = true := by rw [h50]; rfl
                have hp1 : top.length = 2 := by rw [HLEN.out]; exact HF7.out (h50 ▸ hmem)
                have hp2 : (top.length : Int) = 2 := by omega
                have hdl : (top.tail.take 1).length = 1 := by rw [List.length_take, List.length_tail]; omega
                have HQ := Lib.hid (show r0 ++ givesV top (gv.take (i + 1)) = r ++ top.tail.take 1 by rw [HS.out, if_neg h49, if_pos h50, ← List.append_assoc, ← HRI.out, List.drop_one])
                clear h49 h50 hmem
                go_wp2_with fail
                go_round
                case rel => exact ⟨i + 1, r ++ top.tail.take 1, rfl, by go_num, by omega, by rw [List.length_append, hdl]; omega, HQ.out.symm⟩
                case measure => simp [intOf]; omega
              · have e2 : ((gv[i].toNat : Int) == 50) = false := u8_ne (by decide) h50
                have HQ := Lib.hid (show r0 ++ givesV top (gv.take (i + 1)) = r ++ [gv[i]] by rw [HS.out, if_neg h49, if_neg h50, ← List.append_assoc, ← HRI.out])
                have hi1 : (0 : Int) ≤ (i : Int) + 1 := by omega
                have hi2 : (i : Int) + 1 ≤ (gv.length : Int) := by omega
                have hi3 : (i : Int) ≤ (i : Int) + 1 := by omega
                clear h49 h50 hmem
                have hd1 : (gv.drop i).take 1 = [gv[i]] := by rw [List.drop_eq_getElem_cons h0]; rfl
                have HD1 := Lib.hid hd1
                clear hd1
                go_wp2_with fail
                rw [HD1.out]
                refine ⟨⟨i + 1, r ++ [gv[i]], rfl, by go_num, by omega, by rw [List.length_append, List.length_singleton]; omega, HQ.out.symm⟩, by simp [intOf]; omega⟩
          · obtain rfl : i = gv.length := by omega
            have hrr := HRI.out
            rw [List.take_length] at hrr
            rw [← hrr] at HC HD
            have hbw := bt HB1.out HBr.out
            have hr6 := HH.out.below hbw
            have f3 := hr6.free (k := 3) (by decide)
            have c3 := hr6.cell (k := 3) rfl
            have hxr := HX.out.below HBr.out
            have x0 := hxr.cell (k := 0) rfl
            have r6 : (r.length : Int) ≤ 1006 := by omega
            have e9 : ¬ (gv.length : Int) < (gv.length : Int) := by omega
            have HR6 := Lib.hid hr6
            have HBW := Lib.hid hbw
            clear hrr h0 HRI hxr hr6 hbw
            by_cases h22 : x.1 = 22
            · have u22 : ((x.1.toNat : Int) == 22) = true := by rw [h22]; rfl
              by_cases hm : 16 ≤ r.length
              · have hm1 : (16 : Int) < (r.length : Int) + 1 := by omega
                have HV := Lib.hid (HC.out (.inl ⟨h22, hm⟩))
                clear h22 hm
                go_wp2_with fail
                go_ret
                exact ⟨by rw [HV.out]; rfl, (fun e => by rw [HV.out] at e; cases e), HBW.out.mono hGb⟩
              · have hm1 : ¬ (16 : Int) < (r.length : Int) + 1 := by omega
                have HV := Lib.hid (HD.out (by rintro (h | h) <;> omega))
                clear h22 hm
                go_wp2_with fail
                go_ret
                have hk := HR6.out.kinds r
                exact ⟨by rw [HV.out]; rfl, (fun _ => by rw [HV.out]; exact hk.1), (HBW.out.mono hGb).trans hk.2⟩
            · have u22 : ((x.1.toNat : Int) == 22) = false := u8_ne (by decide) h22
              by_cases hm : 16 < r.length
              · have hm1 : (16 : Int) < (r.length : Int) := by omega
                have HV := Lib.hid (HC.out (.inr hm))
                clear h22 hm
                go_wp2_with fail
                go_ret
                exact ⟨by rw [HV.out]; rfl, (fun e => by rw [HV.out] at e; cases e), HBW.out.mono hGb⟩
              · have hm1 : ¬ (16 : Int) < (r.length : Int) := by omega
                have HV := Lib.hid (HD.out (by rintro (h | h); exact h22 h.1; exact hm h))
                clear h22 hm
                go_wp2_with fail
                go_ret
                have hk := HR6.out.kinds r
                exact ⟨by rw [HV.out]; rfl, (fun _ => by rw [HV.out]; exact hk.1), (HBW.out.mono hGb).trans hk.2⟩
end
end Go.Proofs.YtndagciefnddmaaGreatDoor
namespace Go.Proofs.YtndagciefnddmaaGreatDoor
open Go.RowKit Oct
attribute [local irreducible] wpG
section
variable {α : Type}
def RelA (R : Rec α) (base : Nat) (xs : List α) (p : α) (w w' : World) : Prop :=
  Below base w w' ∧ (∀ v, R.Own w base v xs → R.Own w' base v xs) ∧ (∀ v, R.Own w base v (xs ++ [p]) → R.Own w' base v (xs ++ [p])) ∧
    ∀ b : Nat, w.heap[b]? = some (.cells (R.cell p).toArray R.e (0, 0)) → w'.heap[b]? = some (.cells (R.cell p).toArray R.e (0, 0))
variable {R : Rec α} {base : Nat} {xs : List α} {p : α}
theorem RelA.refl (w : World) : RelA R base xs p w w := ⟨Below.refl _ _, fun _ h => h, fun _ h => h, fun _ h => h⟩
theorem RelA.of_bel {w w' : World} (hb : base ≤ w.heap.size) (h : Bel w w') : RelA R base xs p w w' :=
  ⟨Below.mono h hb, fun _ ho => ownsRow_below ho h, fun _ ho => ownsRow_below ho h, fun b hh => (h.block b (Array.getElem?_eq_some_iff.1 hh).1).trans hh⟩
def kOwnA (R : Rec α) (base : Nat) (xs : List α) (p : α) : Known (RelA R base xs p) :=
  ⟨Option Addr × Nat, fun x => .slice x.1 xs.length x.2, fun x => some fun w => R.Own w base (.slice x.1 xs.length x.2) xs, fun _ _ h _ _ hφ hB => by cases h; exact hB.2.1 _ hφ⟩
@[go_sem] theorem kOwnA_val (a : Option Addr) (c : Nat) : (kOwnA R base xs p).val (a, c) = .slice a xs.length c := rfl
def kOwnB (R : Rec α) (base : Nat) (xs : List α) (p : α) : Known (RelA R base xs p) :=
  ⟨Option Addr × Nat, fun x => .slice x.1 (xs.length + 1) x.2, fun x => some fun w => R.Own w base (.slice x.1 (xs.length + 1) x.2) (xs ++ [p]), fun _ _ h _ _ hφ hB => by cases h; exact hB.2.2.1 _ hφ⟩
@[go_sem] theorem kOwnB_val (a : Option Addr) (c : Nat) : (kOwnB R base xs p).val (a, c) = .slice a (xs.length + 1) c := rfl
def kOneA (R : Rec α) (base : Nat) (xs : List α) (p : α) : Known (RelA R base xs p) :=
  ⟨Nat, fun b => .slice (some ⟨b, 0, none⟩) 1 1, fun b => some fun w => w.heap[b]? = some (.cells (R.cell p).toArray R.e (0, 0)), fun _ _ h _ _ hφ hB => by cases h; exact hB.2.2.2 _ hφ⟩
@[go_sem] theorem kOneA_val (b : Nat) : (kOneA R base xs p).val b = .slice (some ⟨b, 0, none⟩) 1 1 := rfl
theorem own_sameA {w w' : World} {v : Value} {l : List α} (h : R.Own w base v l) (h4 : ∀ k, k < w.heap.size → w'.heap[k]? = w.heap[k]?) : R.Own w' base v l := own_same h h4
theorem Rec.grow_app1 (R : Rec α) {o : Oper} {a : Act} {w : World} {G : Value → World → Prop} (s x : Operand) (t : TypeId)
    (ho : o.op = .call { callee := .builtin .append, args := #[s, x], argTypes := #[t, t] }) (ht : Tryz.prog.underlying t = some (.slice R.e))
    (base : Nat) (v : Value) (xs : List α) (p : α) (hown : R.Own w base v xs) (hs : a.eval s = v) (b : Nat) (hx : a.eval x = .slice (some ⟨b, 0, none⟩) 1 1) (hb : w.heap[b]? = some (.cells (R.cell p).toArray R.e (0, 0)))
    (hbytes : (xs.length + 1) * R.bytes ≤ 140737488355328) (hbase : base ≤ w.heap.size)
    (h : ∀ A C w', R.Own w' base (.slice A (xs.length + 1) C) (xs ++ [p]) → RelA R base xs p w w' → G (.slice A (xs.length + 1) C) w') : growAt Tryz.prog o a w G := by
  obtain ⟨i, hi, hz, hi1, hi2⟩ := info_parts R.info
  have hle : xs.length + 1 ≤ 140737488355328 := by have := Nat.le_mul_of_pos_right (xs.length + 1) R.bpos; omega
  obtain ⟨v', w', h1, h2, h3, h4⟩ := run_append3 (P := Tryz.prog) w base t o.type R.e i R.z R.n R.bytes ht hi hz hi1 hi2 R.zs R.pos v xs.length (R.cells xs) hown ⟨b, 0, none⟩ 1 1 (R.cell p) (by rw [Nat.one_mul]; exact R.len p) (by
    intro j u hj
    rw [Addr.add_lit, Nat.zero_add]
    simp [World.cell?, hb, hj]) (R.one p) (by unfold maxLen; omega) hbytes hbase
  have h2' : R.Own w' base v' (xs ++ [p]) := by
    unfold Rec.Own
    rw [R.cells_append, List.length_append, Rec.cells, Rec.cells, List.append_nil]
    exact h2
  have key : ∀ (l : List α), (l = xs ∨ l = xs ++ [p]) → ∀ u, R.Own w base u l → R.Own w' base u l := by
    intro l hl u hu
    rcases h4 with h4 | ⟨g, cap', cur, cur', rfl, hg, hg', hsz, htk, hoth⟩
    · exact own_sameA hu h4
    · refine ⟨hu.1, ?_⟩
      rcases hu.2 with h5 | ⟨g2, c2, cur2, rfl, hb2, hh2, hn2, hm2, hs2, ht2⟩
      · exact .inl h5
      · by_cases hgg : g2 = g
        · subst hgg
          rw [hg] at hh2
          obtain rfl : cur = cur2 := by simp only [Option.some.injEq, Obj.cells.injEq] at hh2; exact hh2.1
          refine .inr ⟨g2, c2, cur', rfl, hb2, hg', hn2, hm2, by rw [hsz]; exact hs2, ?_⟩
          rcases hl with rfl | rfl
          · have h6 : cur'.toList.take (l.length * R.n) = (cur'.toList.take ((l.length + 1) * R.n)).take (l.length * R.n) := by
              rw [List.take_take, Nat.min_eq_left (Nat.mul_le_mul_right _ (by omega))]
            rw [h6, htk, ← R.cells_length l]
            exact List.take_left
          · rw [List.length_append, List.length_singleton, htk, R.cells_append, Rec.cells, Rec.cells, List.append_nil]
        · exact .inr ⟨g2, c2, cur2, rfl, hb2, by rw [hoth g2 hgg]; exact hh2, hn2, hm2, hs2, ht2⟩
  have hrel : RelA R base xs p w w' := by
    refine ⟨(Below.refl base w).grown h3 hbase (fun k hk => (Rec.Own.ltV hown k hk).1), key xs (.inl rfl), key _ (.inr rfl), ?_⟩
    intro b' hb'
    rcases h4 with h4 | ⟨g, cap', cur, cur', rfl, hg, hg', hsz, htk, hoth⟩
    · rw [h4 b' (Array.getElem?_eq_some_iff.1 hb').1]; exact hb'
    · by_cases hgg : b' = g
      · subst hgg
        rw [hg] at hb'
        obtain rfl : cur = (R.cell p).toArray := by simp only [Option.some.injEq, Obj.cells.injEq] at hb'; exact hb'.1
        rw [hg']
        have hl1 := congrArg List.length htk
        have hcl : cur'.toList.length = R.n := by rw [show cur'.toList.length = cur'.size from Array.length_toList, hsz, List.size_toArray, R.len]
        rw [List.length_take, List.length_append, R.cells_length, R.len, hcl] at hl1
        have hp := R.pos
        have hx0 : xs.length * R.n = 0 := by
          have := Nat.min_le_right ((xs.length + 1) * R.n) R.n
          omega
        have hx1 : xs.length = 0 := by
          rcases Nat.mul_eq_zero.1 hx0 with e | e
          · exact e
          · omega
        obtain rfl : xs = [] := List.eq_nil_of_length_eq_zero hx1
        rw [Rec.cells, List.nil_append, List.length_nil, Nat.zero_add, Nat.one_mul, List.take_of_length_le (by rw [hcl]; exact Nat.le_refl _)] at htk
        rw [← htk, Array.toArray_toList]
      · rw [hoth b' hgg]; exact hb'
  obtain ⟨A, C, rfl⟩ := owns_slice h2
  unfold growAt execOp
  simp only [ho, resolve, invoke, builtin, Sem.run_bind, Sem.run_pure, Result.andThen_ok, List.map_toArray, List.map_cons, List.map_nil, hs, hx, h1]
  exact h A C w' h2' hrel
theorem one_newA {w' : World} {G : Value → World → Prop} {cs : Array Value} (hG : ∀ x w'', RelA R base xs p w' w'' → (∀ φ, (kOneA R base xs p).fact x = some φ → φ w'') → G ((kOneA R base xs p).val x) w'') (hcs : cs = (R.cell p).toArray) (hb : base ≤ w'.heap.size) :
    G (.slice (some ⟨w'.heap.size, 0, none⟩) 1 1) (w'.alloc (.cells cs R.e)) := by
  subst hcs
  exact hG w'.heap.size _ (RelA.of_bel hb (b_alloc w' _)) (fun φ h => by cases h; exact heap_alloc_last w' _)
theorem region_relA {id : Nat} {Q : Exit → Act → World → Prop} {a : Act} {w : World} {l : List Oper} (R : Rec α) (xs : List α) (p : α) (n : Nat) (L : List (Nat × Known (RelA R w.heap.size xs p))) (hm : Tryz.prog.follows .mixedOrders = true) (hB : splitB l.toArray n = true)
    (h : wpG Tryz.prog l.toArray (Bel w) (RelA R w.heap.size xs p) (knownAt L) (fun S a' => ∀ w', Bel w w' → S.all w' → wpList Tryz.prog l.toArray Q (l.drop n) a' w') 0 (l.take n) Facts.none a) : (Code.region id l.toArray true).wp Tryz.prog Q a w :=
  wp_region_grown (knownAt L) n hm hB (fun _ _ h k => h.trans k.1) (b_drew w) h
end
theorem wpG_nilVT {P : Program} {ops : Array Oper} {C : World → Prop} {R : World → World → Prop} {F : Nat → Option (Known R)} {Q : Facts → Act → Prop} {k : Nat} {S : Facts} {a : Act} (h : Q S a) : wpG P ops C R F Q k [] S a := by unfold wpG; exact h
section
variable {w : World} {base G : Nat} {tv cv bv sv ev : Value} {role : UInt8} {s : Vs}
theorem RG.freshB {w3 : World} {b0 : Nat} {bv' : Value} {l : List Vb} (h : RG w base G tv cv role s bv sv ev) (hB : Below w.heap.size w w3) (hb0 : w.heap.size ≤ b0) (ho : recRb.Own w3 b0 bv' l) :
    RG (w3.setCell ⟨G, 4, none⟩ bv') base G tv cv role { s with blocks := l } bv' sv ev ∧ Below base w (w3.setCell ⟨G, 4, none⟩ bv') := by
  have hGb := Nat.le_trans h.gb (Nat.le_of_lt h.blk.lt)
  refine h.newB (l := l) ⟨hB.os, hB.tape, hB.output, hB.size, fun j hj _ => hB.block j hj⟩ (fun k hk => .inr (Nat.le_trans hb0 (Rec.Own.ltV ho k hk).1)) (ho.baseLe (Nat.le_trans hGb hb0))
set_option maxRecDepth 100000 in
set_option maxHeartbeats 4000000 in
theorem rSet_any (b : Vb) (h : RG w base G tv cv role s bv sv ev) (hl : s.blocks.length ≤ 1000) (h0 : 0 < s.blocks.length) :
    Calls Tryz.prog 117 #[.pointer (some ⟨G, 0, none⟩), rbV b] w fun e w' => (∃ v, e = .returned v) ∧ (∃ bv', RG w' base G tv cv role { s with blocks := s.blocks.dropLast ++ [b] } bv' sv ev) ∧ Chg (fun x => x = G) w w' := by
  obtain ⟨⟨ab, cb, rfl⟩, _, _⟩ := h.slices
  obtain ⟨m, hm⟩ : ∃ m, s.blocks.length = m + 1 := ⟨s.blocks.length - 1, by omega⟩
  obtain ⟨g, rfl⟩ := h.ob.at0 h0
  have hm1 : (s.blocks.length : Int) - 1 = (m : Int) := by omega
  have hm2 : (m : Int) < (s.blocks.length : Int) := by omega
  have hm3 : (0 : Int) ≤ (m : Int) := by omega
  have hm4 : (s.blocks.length : Int) ≤ 1000 := by omega
  have hd : s.blocks.dropLast = s.blocks.take m := by rw [List.dropLast_eq_take]; congr 1; omega
  have HD := Lib.hid hd
  have hrun := h.ob.shortRun 162 Tryz.underlying162 (by intro wx; kernel_rfl) m (by omega)
  obtain ⟨W1, hW1⟩ : ∃ W1, W1 = w.alloc (.cells #[.int .u8 (b.op.toNat : Int), .string (bs b.opn), .string (bs (keptR b)), .bool b.did, .int .i64 (b.at_ : Int)] 206) := ⟨_, rfl⟩
  have hb1 : Below w.heap.size w W1 := by rw [hW1]; exact b_alloc _ _
  have hx : Blk W1 w.heap.size 206 [.int .u8 (b.op.toNat : Int), .string (bs b.opn), .string (bs (keptR b)), .bool b.did, .int .i64 (b.at_ : Int)] := by rw [hW1]; exact Blk.new w _ _
  have h1 := h.below hb1
  have c4 := h1.cell (k := 4) rfl
  have HX := Lib.hid hx
  have HB1 := Lib.hid hb1
  have H1 := Lib.hid h1
  have HH := Lib.hid h
  obtain ⟨xs, hxs⟩ : ∃ xs, xs = s.blocks.take m := ⟨_, rfl⟩
  have hxl : xs.length = m := by rw [hxs, List.length_take]; omega
  have HXS := Lib.hid hxs
  have HSH := Lib.hid (show recRb.Own W1 base (.slice (some ⟨g, 0, none⟩) m cb) xs from by rw [hxs]; exact h1.ob.short m (by omega))
  have HXL := Lib.hid hxl
  have hm5 : m ≤ 1000 := by omega
  clear h h1 h0 hm hd hb1 hx hxs hxl
  unfold rbV
  go_enter Tryz.func117, Tryz.ntmps117
  go_upto_region 1 with fail
  rw [← hW1]
  clear hW1
  refine region_known [(3, .exact _ (.slice (some ⟨g, 0, none⟩) s.blocks.length cb)), (7, .exact _ (.slice (some ⟨g, 0, none⟩) s.blocks.length cb)), (11, kOwnV recRb W1.heap.size xs)] (by kernel_rfl) (by kernel_rfl) ?_
  (repeat (first | (refine wpG_skip (by kernel_rfl) (fun K hK => ?_); go_big_quiet_skip; refine wpQuiet_nil (hK _ ?_); clear hK K) | (refine wpG_quiet (by rfl) (by rfl) (fun K hK => ?_); go_big_quiet_want; go_big_quiet_op; go_big_quiet_on; refine wpQuiet_nil (hK _ ?_); clear hK K) | (refine wpG_nilOk rfl rfl rfl (by kernel_rfl) (fun K hK => ?_); go_simp; refine hK _ ?_; clear hK K)))
  refine wpG_exact rfl (by kernel_rfl) (fun w' G hB hS hG => ?_) (fun K hK => ?_)
  · have y := Below.keeps hB c4
    go_simp; exact hG _ (Bel.refl _)
  go_simp; refine hK _ ?_; clear hK K; (repeat (first | (refine wpG_skip (by kernel_rfl) (fun K hK => ?_); go_big_quiet_skip; refine wpQuiet_nil (hK _ ?_); clear hK K) | (refine wpG_quiet (by rfl) (by rfl) (fun K hK => ?_); go_big_quiet_want; go_big_quiet_op; go_big_quiet_on; refine wpQuiet_nil (hK _ ?_); clear hK K) | (refine wpG_nilOk rfl rfl rfl (by kernel_rfl) (fun K hK => ?_); go_simp; refine hK _ ?_; clear hK K)))
  refine wpG_exact rfl (by kernel_rfl) (fun w' G hB hS hG => ?_) (fun K hK => ?_)
  · have y := Below.keeps hB c4
    go_simp; exact hG _ (Bel.refl _)
  go_simp; refine hK _ ?_; clear hK K; (repeat (first | (refine wpG_skip (by kernel_rfl) (fun K hK => ?_); go_big_quiet_skip; refine wpQuiet_nil (hK _ ?_); clear hK K) | (refine wpG_quiet (by rfl) (by rfl) (fun K hK => ?_); go_big_quiet_want; go_big_quiet_op; go_big_quiet_on; refine wpQuiet_nil (hK _ ?_); clear hK K) | (refine wpG_nilOk rfl rfl rfl (by kernel_rfl) (fun K hK => ?_); go_simp; refine hK _ ?_; clear hK K)))
  refine wpG_known (kOwnV recRb W1.heap.size xs) rfl (by kernel_rfl) (fun w' G hB hS hG => ?_) (fun x K hK => ?_)
  · refine recRb.grow_copy _ _ 162 rfl Tryz.underlying162 W1.heap.size rfl _ xs (show recRb.Row w' (.slice (some ⟨g, 0, none⟩) m cb) xs from (HSH.out.below hB).row) rfl (by show xs.length * 56 ≤ _; rw [HXL.out]; omega) hB.size (fun A C w'' ho hb => hG (A, C) w'' hb (fun φ h => by cases h; exact ho))
  obtain ⟨ad, c⟩ := x; go_simp; refine hK _ ?_; clear hK K; (repeat (first | (refine wpG_skip (by kernel_rfl) (fun K hK => ?_); go_big_quiet_skip; refine wpQuiet_nil (hK _ ?_); clear hK K) | (refine wpG_quiet (by rfl) (by rfl) (fun K hK => ?_); go_big_quiet_want; go_big_quiet_op; go_big_quiet_on; refine wpQuiet_nil (hK _ ?_); clear hK K) | (refine wpG_nilOk rfl rfl rfl (by kernel_rfl) (fun K hK => ?_); go_simp; refine hK _ ?_; clear hK K)))
  refine wpG_nilVT ?_
  intro w5 hB5 hA5
  have HO := Lib.hid (show recRb.Own w5 W1.heap.size (.slice ad xs.length c) xs from all0 hA5)
  have hx5 := HX.out.below hB5
  have x0 := hx5.cell (k := 0) rfl
  have x1 := hx5.cell (k := 1) rfl
  have x2 := hx5.cell (k := 2) rfl
  have x3 := hx5.cell (k := 3) rfl
  have x4 := hx5.cell (k := 4) rfl
  have HB5 := Lib.hid hB5
  have HW5 := Lib.hid (bt HB1.out hB5)
  have hsz : W1.heap.size ≤ w5.heap.size := hB5.size
  clear hB5 hA5 hx5 c4
  rw [HXL.out] at HO ⊢
  go_wp2_with (at_builtin; go_must (refine recRb.append1V _ b rfl _ _ 162 rfl Tryz.underlying162 W1.heap.size _ xs (HO.out.below (b_alloc _ _)) rfl _ rfl (Rec.Row.new (R := recRb) w5 [b] _).1 (by show (xs.length + 1) * 56 ≤ _; rw [HXL.out]; omega) (Nat.le_trans hsz (b_alloc _ _).size) ?_); go_must (intro g3 gc w6 hown3 hc3 _; have hb6 : Below w.heap.size w w6 := (by have e1 : Below W1.heap.size w5 (w5.alloc (.cells (recRb.cells [b]).toArray 206)) := (b_alloc _ _).mono hsz; have e2 := hc3.below (B := W1.heap.size) (fun k hk => (Rec.Own.ltV HO.out k hk).1) (Nat.le_trans hsz (b_alloc _ _).size); exact HW5.out.trans ((e1.trans e2).mono HB1.out.size)); have h6 := HH.out.below hb6; have c4 := h6.cell (k := 4) rfl; have f4 := h6.free (k := 4) (by decide); have HN := Lib.hid (HH.out.freshB hb6 HB1.out.size hown3); have HC6 := Lib.hid ((Chg.of_below (X := fun x => x = G) hb6).trans (Chg.set1R (k := 4) (v := .slice (some ⟨g3, 0, none⟩) (xs.length + 1) gc))); clear h6 hb6 hown3 hc3))
  refine bodyPost_end (results_none rfl _ _ _) rfl ?_
  rw [HD.out, ← HXS.out]
  exact ⟨⟨_, rfl⟩, ⟨_, HN.out.1⟩, HC6.out⟩
end
end Go.Proofs.YtndagciefnddmaaGreatDoor
namespace Go.Proofs.YtndagciefnddmaaGreatDoor
open Go.RowKit Oct
abbrev RV := Bool × MV
def recVa : Rec RV where
  cell v := [.bool v.1, .int .i64 v.2.1, .string (bs v.2.2)]
  e := 173
  n := 3
  bytes := 32
  z := .agg #[.bool false, .int .i64 0, .string ByteArray.empty]
  len := fun _ => rfl
  one := by intro x u h; simp at h; rcases h with rfl | rfl | rfl <;> rfl
  info := by kernel_rfl
  zs := rfl
  pos := by decide
  bpos := by decide
def rvV (v : RV) : Value := .agg #[.bool v.1, .int .i64 v.2.1, .string (bs v.2.2)]
structure Lo where
  at_ : Nat
  ad : Option Addr
  n : Nat
  c : Nat
  ps : List (List UInt8)
def recLo : Rec Lo where
  cell e := [.int .i64 (e.at_ : Int), .slice e.ad e.n e.c]
  e := 232
  n := 2
  bytes := 32
  z := .agg #[.int .i64 0, .slice none 0 0]
  len := fun _ => rfl
  one := by intro x u h; simp at h; rcases h with rfl | rfl <;> rfl
  info := by kernel_rfl
  zs := rfl
  pos := by decide
  bpos := by decide
def recKq : Rec (List UInt8 × List UInt8) where
  cell v := [.string (bs v.1), .string (bs v.2)]
  e := 60
  n := 2
  bytes := 32
  z := .agg #[.string ByteArray.empty, .string ByteArray.empty]
  len := fun _ => rfl
  one := by intro x u h; simp at h; rcases h with rfl | rfl <;> rfl
  info := by kernel_rfl
  zs := rfl
  pos := by decide
  bpos := by decide
theorem Rec.Row.chgN {α : Type} {R : Rec α} {X : Nat → Prop} {w w' : World} {v : Value} {l : List α} (h : R.Row w v l) (hc : Chg X w w') (hX : ∀ b, v.ownBlock = some b → ¬ X b) : R.Row w' v l := by
  obtain ⟨⟨a, cap, rfl, hn, hu⟩, h2⟩ := h
  refine ⟨⟨a, cap, rfl, hn, fun j u hj => ?_⟩, h2⟩
  obtain ⟨b, off, rfl, hcell⟩ := hu j u hj
  exact ⟨b, off, rfl, hc.cell hcell (hX b rfl)⟩
def loV (e : Lo) : Value := .slice e.ad e.n e.c
def loPt {base : Nat} (l : List Lo) : Pt base where
  fp k := ∃ e ∈ l, (loV e).ownBlock = some k
  P w := (∀ e ∈ l, recS.Row w (loV e) e.ps ∧ ∀ k, (loV e).ownBlock = some k → base ≤ k ∧ k < w.heap.size) ∧ l.Pairwise fun e f => ∀ k, (loV e).ownBlock = some k → ¬ (loV f).ownBlock = some k
  frame := fun h hc hX => ⟨fun e he => ⟨(h.1 e he).1.chgN hc (fun b hb => hX b ⟨e, he, hb⟩), fun k hk => ⟨((h.1 e he).2 k hk).1, Nat.lt_of_lt_of_le ((h.1 e he).2 k hk).2 hc.size⟩⟩, h.2⟩
  lt := fun h k hk => by
    obtain ⟨e, he, hk⟩ := hk
    exact (h.1 e he).2 k hk
structure Rf where
  tv : Value
  cv : Value
  iv : Value
  ev : Value
  ow : Value
def rCells (f : Rf) (at_ : Int) (sv : Value) (rg : List RV) (lv prv : Value) : List Value := [f.tv, f.cv, f.iv, f.ev, f.ow, .int .i64 at_, sv] ++ (recVa.cells rg ++ [lv, prv])
structure RM (base : Nat) (w : World) (G : Nat) (f : Rf) (at_ : Int) (st rg : List RV) (los : List Lo) (pr : List (List UInt8 × List UInt8)) (sv lv prv : Value) (X : List (Pt base)) : Prop where
  gb : base ≤ G
  rl : rg.length = 8
  sep : Sep base w (blkPt G gb 177 (rCells f at_ sv rg lv prv) :: ownPt recVa sv st.reverse :: ownPt recLo lv los :: loPt los :: ownPt recKq prv pr :: X)
section
variable {base G : Nat} {w w' w3 : World} {f : Rf} {at_ : Int} {st rg : List RV} {los : List Lo} {pr : List (List UInt8 × List UInt8)} {sv sv' lv lv' prv prv' : Value} {X : List (Pt base)}
theorem eightR {α : Type} {l : List α} (h : l.length = 8) : ∃ a b c d e f g i, l = [a, b, c, d, e, f, g, i] := by
  match l, h with
  | [a, b, c, d, e, f, g, i], _ => exact ⟨a, b, c, d, e, f, g, i, rfl⟩
theorem RM.blk (h : RM base w G f at_ st rg los pr sv lv prv X) : Blk w G 177 (rCells f at_ sv rg lv prv) := h.sep.get (i := 0) rfl
theorem RM.os (h : RM base w G f at_ st rg los pr sv lv prv X) : recVa.Own w base sv st.reverse := h.sep.get (i := 1) rfl
theorem RM.ol (h : RM base w G f at_ st rg los pr sv lv prv X) : recLo.Own w base lv los := h.sep.get (i := 2) rfl
theorem RM.ow (h : RM base w G f at_ st rg los pr sv lv prv X) : (∀ e ∈ los, recS.Row w (loV e) e.ps ∧ ∀ k, (loV e).ownBlock = some k → base ≤ k ∧ k < w.heap.size) ∧ los.Pairwise fun e f => ∀ k, (loV e).ownBlock = some k → ¬ (loV f).ownBlock = some k := h.sep.get (i := 3) rfl
theorem RM.op (h : RM base w G f at_ st rg los pr sv lv prv X) : recKq.Own w base prv pr := h.sep.get (i := 4) rfl
theorem RM.size (h : RM base w G f at_ st rg los pr sv lv prv X) : base ≤ w.heap.size := Nat.le_trans h.gb (Nat.le_of_lt h.blk.lt)
theorem RM.below (h : RM base w G f at_ st rg los pr sv lv prv X) (hB : Below w.heap.size w w') : RM base w' G f at_ st rg los pr sv lv prv X := ⟨h.gb, h.rl, h.sep.below hB⟩
theorem RM.add (h : RM base w G f at_ st rg los pr sv lv prv X) (cs : List Value) (t : TypeId) : RM base (w.alloc (.cells cs.toArray t)) G f at_ st rg los pr sv lv prv (X ++ [blkPt w.heap.size h.size t cs]) :=
  ⟨h.gb, h.rl, h.sep.snoc (b_alloc _ _) (blkPt w.heap.size h.size t cs) (Blk.new w cs t) (fun k hk => by rw [show k = w.heap.size from hk]; exact Nat.le_refl _)⟩
theorem RM.drop {Y : List (Pt base)} (h : RM base w G f at_ st rg los pr sv lv prv (X ++ Y)) : RM base w G f at_ st rg los pr sv lv prv X := ⟨h.gb, h.rl, Sep.init (p := Y) h.sep⟩
theorem RM.loc {p : Pt base} (h : RM base w G f at_ st rg los pr sv lv prv X) (hp : p ∈ X) : p.P w := h.sep.1 p (by simp [hp])
theorem RM.updX (h : RM base w G f at_ st rg los pr sv lv prv X) {Y : Nat → Prop} {i : Nat} {p : Pt base} (hi : X[i]? = some p) (hc : Chg Y w w') (hY : ∀ k, Y k → p.fp k) (q : Pt base) (hq : q.P w') (hf : ∀ k, q.fp k → p.fp k) :
    RM base w' G f at_ st rg los pr sv lv prv (X.set i q) ∧ Below base w w' :=
  ⟨⟨h.gb, h.rl, h.sep.upd (i := i + 5) hi hc hY q hq (fun k hk => .inl (hf k hk))⟩, h.sep.updB (i := i + 5) hi hc hY h.size⟩
theorem RM.cell (h : RM base w G f at_ st rg los pr sv lv prv X) {k : Nat} {v : Value} (hv : [f.tv, f.cv, f.iv, f.ev, f.ow, .int .i64 at_, sv][k]? = some v) : w.cell? ⟨G, k, none⟩ = some v := by
  refine h.blk.cell (k := k) ?_
  unfold rCells
  rw [List.getElem?_append_left (List.getElem?_eq_some_iff.1 hv).1]
  exact hv
theorem RM.cellR (h : RM base w G f at_ st rg los pr sv lv prv X) {k : Nat} {v : Value} (hv : [lv, prv][k]? = some v) : w.cell? ⟨G, 31 + k, none⟩ = some v := by
  refine h.blk.cell (k := 31 + k) ?_
  obtain ⟨a, b, c, d, e, f', g, i, rfl⟩ := eightR h.rl
  unfold rCells
  rw [List.getElem?_append_right (by simp; omega), List.getElem?_append_right (by simp [Rec.cells, recVa]; omega)]
  rw [← hv]
  congr 1
  simp [Rec.cells, recVa]
  omega
theorem RM.reg (h : RM base w G f at_ st rg los pr sv lv prv X) {i : Nat} (hi : i < 8) : w.cell? ⟨G, 7 + i * 3, none⟩ = some (.bool (rg.getD i (false, 0, [])).1) ∧ w.cell? ⟨G, 7 + i * 3 + 1, none⟩ = some (.int .i64 (rg.getD i (false, 0, [])).2.1) ∧ w.cell? ⟨G, 7 + i * 3 + 2, none⟩ = some (.string (bs (rg.getD i (false, 0, [])).2.2)) := by
  obtain ⟨a, b, c, d, e, f', g, j, hr⟩ := eightR h.rl
  have hb := h.blk
  rw [hr] at hb ⊢
  rcases (by omega : i = 0 ∨ i = 1 ∨ i = 2 ∨ i = 3 ∨ i = 4 ∨ i = 5 ∨ i = 6 ∨ i = 7) with rfl | rfl | rfl | rfl | rfl | rfl | rfl | rfl <;> exact ⟨hb.cell (by rfl), hb.cell (by rfl), hb.cell (by rfl)⟩
theorem RM.free (h : RM base w G f at_ st rg los pr sv lv prv X) {k : Nat} (hk : k < 33) : w.frozen? ⟨G, k, none⟩ = false := by
  refine h.blk.free ?_
  obtain ⟨a, b, c, d, e, f', g, j, hr⟩ := eightR h.rl
  rw [hr]
  exact hk
theorem RM.slices (h : RM base w G f at_ st rg los pr sv lv prv X) : (∃ a c, sv = .slice a st.length c) ∧ (∃ a c, lv = .slice a los.length c) ∧ ∃ a c, prv = .slice a pr.length c := by
  obtain ⟨a, c, e⟩ := owns_slice h.os
  rw [List.length_reverse] at e
  exact ⟨⟨a, c, e⟩, owns_slice h.ol, owns_slice h.op⟩
theorem RM.newS (h : RM base w G f at_ st rg los pr sv lv prv X) {l : List RV} (hc : Chg (fun k => sv.ownBlock = some k) w w3) (hg : ∀ k, sv'.ownBlock = some k → sv.ownBlock = some k ∨ w.heap.size ≤ k) (ho : recVa.Own w3 base sv' l.reverse) :
    RM base (w3.setCell ⟨G, 6, none⟩ sv') G f at_ l rg los pr sv' lv prv X ∧ Below base w (w3.setCell ⟨G, 6, none⟩ sv') ∧ w3.cell? ⟨G, 6, none⟩ = some sv ∧ w3.frozen? ⟨G, 6, none⟩ = false := by
  have s1 := h.sep.upd (i := 1) rfl hc (fun k hk => hk) (ownPt recVa sv' l.reverse) ho hg
  have hs : Chg (fun k => k = G) w3 (w3.setCell ⟨G, 6, none⟩ sv') := Chg.setCell _ _ _ rfl
  have b3 : Blk w3 G 177 (rCells f at_ sv rg lv prv) := s1.get (i := 0) rfl
  have s2 := s1.upd (i := 0) rfl hs (fun k hk => hk) (blkPt G h.gb 177 (rCells f at_ sv' rg lv prv)) (b3.set 6 sv') (fun k hk => .inl hk)
  exact ⟨⟨h.gb, h.rl, s2⟩, (h.sep.updB (i := 1) rfl hc (fun k hk => hk) h.size).trans (hs.below (fun k hk => by have := h.gb; omega) (Nat.le_trans h.size hc.size)), b3.cell (k := 6) rfl, b3.free (k := 6) (by simp [rCells])⟩
theorem RM.setAt (h : RM base w G f at_ st rg los pr sv lv prv X) (n : Int) : RM base (w.setCell ⟨G, 5, none⟩ (.int .i64 n)) G f n st rg los pr sv lv prv X ∧ Below base w (w.setCell ⟨G, 5, none⟩ (.int .i64 n)) := by
  have hs : Chg (fun k => k = G) w (w.setCell ⟨G, 5, none⟩ (.int .i64 n)) := Chg.setCell _ _ _ rfl
  have s2 := h.sep.upd (i := 0) rfl hs (fun k hk => hk) (blkPt G h.gb 177 (rCells f n sv rg lv prv)) (h.blk.set 5 (.int .i64 n)) (fun k hk => .inl hk)
  exact ⟨⟨h.gb, h.rl, s2⟩, h.sep.updB (i := 0) rfl hs (fun k hk => hk) h.size⟩
theorem RM.pre {Y : List (Pt base)} (h : RM base w G f at_ st rg los pr sv lv prv Y) (hX : X <+: Y) : RM base w G f at_ st rg los pr sv lv prv X := by
  obtain ⟨Z, rfl⟩ := hX
  exact h.drop
theorem RM.top {v : RV} {ab : Option Addr} {n cb : Nat} (h : RM base w G f at_ (v :: st) rg los pr (.slice ab n cb) lv prv X) : ∃ g, ab = some ⟨g, 0, none⟩ ∧ n = st.length + 1 ∧ w.cell? ⟨g, st.length * 3, none⟩ = some (.bool v.1) ∧ w.cell? ⟨g, st.length * 3 + 1, none⟩ = some (.int .i64 v.2.1) ∧ w.cell? ⟨g, st.length * 3 + 2, none⟩ = some (.string (bs v.2.2)) := by
  obtain ⟨⟨a, c, e⟩, _, _⟩ := h.slices
  injection e with e1 e2 e3
  subst e1 e2 e3
  obtain ⟨g, rfl⟩ := h.os.at0 (by simp)
  obtain ⟨a', cap, hv, hle, hc⟩ := Rec.Row.open h.os.row
  injection hv with e1 e2 e3
  subst e1
  obtain ⟨b, off, ha, hu⟩ := hc st.length (by simp)
  injection ha with ha
  injection ha with ha1 ha2 _
  subst ha1 ha2
  have hg : (v :: st).reverse[st.length]'(by simp) = v := by simp [List.reverse_cons]
  rw [hg] at hu
  have h0 := hu 0 _ rfl
  have h1 := hu 1 _ rfl
  have h2 := hu 2 _ rfl
  rw [Nat.zero_add] at h0 h1 h2
  exact ⟨g, rfl, rfl, h0, h1, h2⟩
end
end Go.Proofs.YtndagciefnddmaaGreatDoor
