/- Lemmas for CodeTells, part 6: walks of the functions that it reaches, and the plain laws behind them. -/
import Derived.Deep.DeepCutAuto
import Derived.ProofKit
import Derived.OpenShut
import Derived.ShutString
import Derived.ChangeOld
import Derived.SizedLaws
import Derived.SliceStrings
import Derived.Test.YtbcjfppdeapamaaDoorCodeTellsK5
set_option linter.unusedSimpArgs false
set_option linter.unusedVariables false
namespace Go.Proofs.YtbcjfppdeapamaaDoor
open Go.RowKit Oct
attribute [local irreducible] wpG
theorem putIs_of : ∀ (k : Nat) (r : List UInt8), r.length = 2 * k → ∃ cs : List VI, r = putIs cs ∧ cs.length = k := by
  intro k
  induction k with
  | zero => intro r h; exact ⟨[], by rw [List.eq_nil_of_length_eq_zero (l := r) (by omega)]; rfl, rfl⟩
  | succ k ih =>
    intro r h
    match r, h with
    | x :: y :: r2, h =>
      obtain ⟨cs, h1, h2⟩ := ih r2 (by simp at h; omega)
      exact ⟨(x, y) :: cs, by rw [h1]; rfl, by simp [h2]⟩
theorem putIs_get (cs : List VI) : ∀ (j : Nat) (h : j < cs.length), (putIs cs)[2 * j]? = some cs[j].1 ∧ (putIs cs)[2 * j + 1]? = some cs[j].2 := by
  induction cs with
  | nil => intro j h; simp at h
  | cons x cs ih =>
    intro j h
    cases j with
    | zero => exact ⟨rfl, rfl⟩
    | succ j => exact ih j (by simpa using h)
/-- the length that a program's end must have -/
theorem getC_len_bad {n a b : UInt8} {s r : List UInt8} {t : List (List UInt8)} (h : takeT n.toNat s = some (t, a :: b :: r)) (hr : r.length ≠ 2 * (a.toNat + 256 * b.toNat)) : getC (n :: s) = none := by
  cases hi : goneI r (a.toNat + 256 * b.toNat) [] with
  | none => exact getC_noI h hi
  | some p =>
    obtain ⟨c, r'⟩ := p
    rw [getC_isI h hi, if_neg]
    rintro ⟨rfl, -⟩
    unfold goneI at hi
    cases hk : takeI (a.toNat + 256 * b.toNat) r with
    | none => rw [hk] at hi; cases hi
    | some q =>
      obtain ⟨c2, r2⟩ := q
      rw [hk] at hi
      injection hi with hi
      injection hi with h1 h2
      simp at h2
      subst h2
      obtain ⟨h3, h4⟩ := takeI_sound _ _ _ _ hk
      have := putIs_len c2
      rw [h4, List.append_nil, this, h3] at hr
      exact hr rfl
theorem getC_len_ok {n a b : UInt8} {s : List UInt8} {t : List (List UInt8)} {cs : List VI} (h : takeT n.toNat s = some (t, a :: b :: putIs cs)) (hr : cs.length = a.toNat + 256 * b.toNat) : getC (n :: s) = if mayV t cs = true then some (t, cs) else none := by
  have h1 := takeI_put cs []
  rw [List.append_nil, hr] at h1
  have h2 : goneI (putIs cs) (a.toNat + 256 * b.toNat) [] = some (cs, []) := by unfold goneI; rw [h1]; simp
  rw [getC_isI h h2]
  simp
/-- what stands in the first loop -/
def GT (w wx : World) (B : Nat) (tv : Value) (acc : List (List UInt8)) : Prop :=
  Blk wx w.heap.size 25 [.slice none 0 0, .slice none 0 0] ∧ Blk wx (w.heap.size + 1) 25 [tv, .slice none 0 0] ∧ recS.Own wx B tv acc ∧ Below w.heap.size w wx ∧ B ≤ wx.heap.size
section
variable {w wx w' : World} {B : Nat} {tv tv' : Value} {acc acc' : List (List UInt8)}
theorem GT.drew (h : GT w wx B tv acc) : GT w wx.drew B tv acc := ⟨h.1.below (b_drew wx), h.2.1.below (b_drew wx), h.2.2.1.below (b_drew wx), bt h.2.2.2.1 (b_drew wx), Nat.le_trans h.2.2.2.2 (b_drew wx).size⟩
theorem GT.appP (h : GT w wx B tv acc) (hB : w.heap.size + 2 ≤ B) (hc : Chg (fun k => tv.ownBlock = some k) wx w') : Blk w' (w.heap.size + 1) 25 [tv, .slice none 0 0] :=
  h.2.1.chg hc (fun e => by have := (Rec.Own.ltV h.2.2.1 _ e).1; omega)
theorem GT.app (h : GT w wx B tv acc) (hB : w.heap.size + 2 ≤ B) (ho : recS.Own w' B tv' acc') (hc : Chg (fun k => tv.ownBlock = some k) wx w') : GT w (w'.setCell ⟨w.heap.size + 1, 0, none⟩ tv') B tv' acc' := by
  have g : Chg (fun x => x = w.heap.size + 1) w' (w'.setCell ⟨w.heap.size + 1, 0, none⟩ tv') := Chg.set1R
  have hb : Below w.heap.size w w' := h.2.2.2.1.trans (hc.below (fun j hj => by have := (Rec.Own.ltV h.2.2.1 j hj).1; omega) h.2.2.2.1.size)
  refine ⟨?_, (h.appP hB hc).set 0 tv', ho.chgV g (fun k hk (e : k = w.heap.size + 1) => by have := (Rec.Own.ltV ho k hk).1; omega), hb.trans (g.below (fun j (hj : j = w.heap.size + 1) => by omega) hb.size), Nat.le_trans h.2.2.2.2 (Nat.le_trans hc.size g.size)⟩
  exact (h.1.chg hc (fun e => by have := (Rec.Own.ltV h.2.2.1 _ e).1; omega)).chg g (by omega)
end
/-- what stands in the second loop -/
def GI (w wx : World) (B C : Nat) (tv cv : Value) (t : List (List UInt8)) (acc : List VI) : Prop :=
  Blk wx w.heap.size 25 [.slice none 0 0, .slice none 0 0] ∧ Blk wx (w.heap.size + 1) 25 [tv, cv] ∧ recS.Own wx B tv t ∧ recIns.Own wx C cv acc ∧ Below w.heap.size w wx ∧ C ≤ wx.heap.size ∧ (∀ k, tv.ownBlock = some k → k < C)
section
variable {w wx w' : World} {B C : Nat} {tv cv cv' : Value} {t : List (List UInt8)} {acc acc' : List VI}
theorem GT.code (h : GT w wx B tv t) : GI w wx B wx.heap.size tv (.slice none 0 0) t [] := ⟨h.1, h.2.1, h.2.2.1, Rec.Own.nil _ _, h.2.2.2.1, Nat.le_refl _, fun k hk => (Rec.Own.ltV h.2.2.1 k hk).2⟩
theorem GI.below (h : GI w wx B C tv cv t acc) {w' : World} (hb : Below wx.heap.size wx w') : GI w w' B C tv cv t acc := ⟨h.1.below hb, h.2.1.below hb, h.2.2.1.below hb, h.2.2.2.1.below hb, bt h.2.2.2.2.1 hb, Nat.le_trans h.2.2.2.2.2.1 hb.size, h.2.2.2.2.2.2⟩
theorem GI.drew (h : GI w wx B C tv cv t acc) : GI w wx.drew B C tv cv t acc := h.below (b_drew wx)
theorem GI.appP (h : GI w wx B C tv cv t acc) (hBC : w.heap.size + 2 ≤ C) (hc : Chg (fun k => cv.ownBlock = some k) wx w') : Blk w' (w.heap.size + 1) 25 [tv, cv] :=
  h.2.1.chg hc (fun e => by have := (Rec.Own.ltV h.2.2.2.1 _ e).1; omega)
theorem GI.app (h : GI w wx B C tv cv t acc) (hB : w.heap.size + 2 ≤ B) (hBC : w.heap.size + 2 ≤ C) (ho : recIns.Own w' C cv' acc') (hc : Chg (fun k => cv.ownBlock = some k) wx w') : GI w (w'.setCell ⟨w.heap.size + 1, 1, none⟩ cv') B C tv cv' t acc' := by
  have g : Chg (fun x => x = w.heap.size + 1) w' (w'.setCell ⟨w.heap.size + 1, 1, none⟩ cv') := Chg.set1R
  have hb : Below w.heap.size w w' := h.2.2.2.2.1.trans (hc.below (fun j hj => by have := (Rec.Own.ltV h.2.2.2.1 j hj).1; omega) h.2.2.2.2.1.size)
  refine ⟨?_, (h.appP hBC hc).set 1 cv', (h.2.2.1.chgV hc (fun k hk e => ?_)).chgV g (fun k hk (e : k = w.heap.size + 1) => by have := (Rec.Own.ltV h.2.2.1 k hk).1; omega), ho.chgV g (fun k hk (e : k = w.heap.size + 1) => by have := (Rec.Own.ltV ho k hk).1; omega), hb.trans (g.below (fun j (hj : j = w.heap.size + 1) => by omega) hb.size), Nat.le_trans h.2.2.2.2.2.1 (Nat.le_trans hc.size g.size), h.2.2.2.2.2.2⟩
  · exact (h.1.chg hc (fun e => by have := (Rec.Own.ltV h.2.2.2.1 _ e).1; omega)).chg g (by omega)
  · have h1 := h.2.2.2.2.2.2 k hk
    have h2 := (Rec.Own.ltV h.2.2.2.1 k e).1
    omega
/-- the result, written -/
theorem GI.fin (h : GI w wx B C tv cv t acc) (hB : w.heap.size + 2 ≤ B) (hC : w.heap.size + 2 ≤ C) (x y : Value) : Blk ((wx.setCell ⟨w.heap.size, 0, none⟩ x).setCell ⟨w.heap.size, 1, none⟩ y) w.heap.size 25 [x, y] ∧
    recS.Own ((wx.setCell ⟨w.heap.size, 0, none⟩ x).setCell ⟨w.heap.size, 1, none⟩ y) w.heap.size tv t ∧ recIns.Own ((wx.setCell ⟨w.heap.size, 0, none⟩ x).setCell ⟨w.heap.size, 1, none⟩ y) w.heap.size cv acc ∧
    Below w.heap.size w ((wx.setCell ⟨w.heap.size, 0, none⟩ x).setCell ⟨w.heap.size, 1, none⟩ y) := by
  obtain ⟨g1, g⟩ := ins_store h.1 x y
  exact ⟨g1, (h.2.2.1.chgV g (fun k hk (e : k = w.heap.size) => by have := (Rec.Own.ltV h.2.2.1 k hk).1; omega)).mono (by omega), (h.2.2.2.1.chgV g (fun k hk (e : k = w.heap.size) => by have := (Rec.Own.ltV h.2.2.2.1 k hk).1; omega)).mono (by omega), h.2.2.2.2.1.trans (g.below (fun j (hj : j = w.heap.size) => by omega) h.2.2.2.2.1.size)⟩
end
/-- the result is nothing -/
theorem rget_none {w wx : World} {s : List UInt8} (hb : Blk wx w.heap.size 25 [.slice none 0 0, .slice none 0 0]) (hB : Below w.heap.size w wx) (hg : getC s = none) :
    (loadVar 25 ⟨w.heap.size, 0, none⟩).run Tryd.prog ((wx.setCell ⟨w.heap.size, 0, none⟩ (.slice none 0 0)).setCell ⟨w.heap.size, 1, none⟩ (.slice none 0 0)) = .ok (.agg #[.slice none 0 0, .slice none 0 0]) ((wx.setCell ⟨w.heap.size, 0, none⟩ (.slice none 0 0)).setCell ⟨w.heap.size, 1, none⟩ (.slice none 0 0)) ∧
    GetR w ((wx.setCell ⟨w.heap.size, 0, none⟩ (.slice none 0 0)).setCell ⟨w.heap.size, 1, none⟩ (.slice none 0 0)) s (.returned (.tuple #[.agg #[.slice none 0 0, .slice none 0 0], .int .i64 7])) ∧
    Below w.heap.size w ((wx.setCell ⟨w.heap.size, 0, none⟩ (.slice none 0 0)).setCell ⟨w.heap.size, 1, none⟩ (.slice none 0 0)) := by
  obtain ⟨g1, g⟩ := ins_store hb (.slice none 0 0) (.slice none 0 0)
  exact ⟨load_prog (g1.cell (k := 0) rfl) (g1.cell (k := 1) rfl), GetR_none hg, hB.trans (g.below (fun j (hj : j = w.heap.size) => by omega) hB.size)⟩
set_option maxRecDepth 100000 in
set_option maxHeartbeats 32000000 in
theorem rGet_any (s : List UInt8) (w : World) (hs : s.length ≤ 10000) :
    Calls Tryd.prog 13 #[.string (bs s)] w fun e w' => GetR w w' s e ∧ Below w.heap.size w w' := by
  obtain ⟨W2, hW2⟩ : ∃ W2, W2 = (w.alloc (.cells #[.slice none 0 0, .slice none 0 0] 25)).alloc (.cells #[.slice none 0 0, .slice none 0 0] 25) := ⟨_, rfl⟩
  have hp : Blk W2 w.heap.size 25 [.slice none 0 0, .slice none 0 0] := by rw [hW2]; exact (Blk.new w _ _).below (b_alloc _ _)
  have hq : Blk W2 (w.heap.size + 1) 25 [.slice none 0 0, .slice none 0 0] := by
    rw [hW2]
    have := Blk.new (w.alloc (.cells #[.slice none 0 0, .slice none 0 0] 25)) [.slice none 0 0, .slice none 0 0] 25
    rw [size_alV] at this
    exact this
  have hb2 : Below w.heap.size w W2 := by rw [hW2]; exact bt (b_alloc _ _) (b_alloc _ _)
  have hsz2 : w.heap.size + 2 ≤ W2.heap.size := by have := hq.lt; omega
  have HP := Lib.hid hp
  have HQ := Lib.hid hq
  have HB2 := Lib.hid hb2
  clear hp hq hb2
  cases s with
  | nil =>
    have p0 := HP.out.cell (k := 0) rfl
    have p1 := HP.out.cell (k := 1) rfl
    have g0 := HP.out.free (k := 0) (by simp)
    have g1 := HP.out.free (k := 1) (by simp)
    have q0 := HQ.out.cell (k := 0) rfl
    have q1 := HQ.out.cell (k := 1) rfl
    go_enter Tryd.func13, Tryd.ntmps13
    go_upto_region 3 with fail
    rw [← hW2]
    clear hW2
    go_wp2_with fail
    obtain ⟨h1, h2, h3⟩ := rget_none (s := []) HP.out HB2.out rfl
    refine bodyPost_ret (results_cell_tmpR rfl rfl h1) rfl ?_
    exact ⟨h2, h3⟩
  | cons n s =>
    have hs2 : s.length ≤ 10000 := by simp at hs; omega
    have nw : wrap64 (n.toNat : Int) = (n.toNat : Int) := by have := n.toNat_lt; unfold wrap64; omega
    have hn256 := n.toNat_lt
    clear hs
    go_enter Tryd.func13, Tryd.ntmps13
    go_upto_region 6 with fail
    rw [← hW2]
    clear hW2 nw
    go_wp2_with fail
    go_loopw [0, 6] (fun vs vi wr => ∃ (i : Nat) (acc : List (List UInt8)) (r : List UInt8) (tv : Value), vs = .string (bs r) ∧ vi = .int .i64 (i : Int) ∧ i ≤ n.toNat ∧ r.length ≤ 10000 ∧ acc.length = i ∧ Hid (takeT n.toNat s = goneC r (n.toNat - i) acc) ∧ Hid (GT w wr W2.heap.size tv acc) ∧ Hid (∀ x ∈ acc, x.length ≤ 255)) (fun _ vi _ => n.toNat - (intOf vi).toNat)
    case atStart => exact ⟨0, [], s, _, rfl, rfl, Nat.zero_le _, hs2, rfl, by unfold Hid goneC; rw [Nat.sub_zero]; cases takeT n.toNat s <;> simp, ⟨HP.out, HQ.out, Rec.Own.nil _ _, HB2.out, Nat.le_refl _⟩, fun x hx => by cases hx⟩
    case round =>
      obtain ⟨i, acc, r, tv, rfl, rfl, hi, hrl, hac, HT, HO, HL⟩ := hrel
      obtain ⟨at_, ct, rfl⟩ := owns_slice HO.out.2.2.1
      have p0 := HO.out.1.cell (k := 0) rfl
      have p1 := HO.out.1.cell (k := 1) rfl
      have g0 := HO.out.1.free (k := 0) (by simp)
      have g1 := HO.out.1.free (k := 1) (by simp)
      have hacl : acc.length ≤ 256 := by omega
      have HAC := Lib.hid hac
      clear hac
      by_cases h0 : i < n.toNat
      · have t0 : (i : Int) < (n.toNat : Int) := by omega
        obtain ⟨k', hk'⟩ : ∃ k', n.toNat - i = k' + 1 := ⟨n.toNat - i - 1, by omega⟩
        have HK := Lib.hid hk'
        rw [hk'] at HT
        clear hk'
        cases r with
        | nil =>
          have HGN := Lib.hid (show getC (n :: s) = none from getC_bad (by rw [HT.out]; exact goneC_nil _ _))
          go_wp2_with fail
          obtain ⟨h1, h2, h3⟩ := rget_none (s := n :: s) HO.out.1 HO.out.2.2.2.1 HGN.out
          refine bodyPost_ret (results_cell_tmpR rfl rfl h1) rfl ?_
          exact ⟨h2, h3⟩
        | cons c r =>
          have hrl2 : r.length ≤ 10000 := by simp at hrl; omega
          have hc256 := c.toNat_lt
          have cw : wrap64 (c.toNat : Int) = (c.toNat : Int) := by unfold wrap64; omega
          have tne : ((c :: r : List UInt8) == []) = false := rfl
          by_cases hcr : c.toNat ≤ r.length
          · have t1 : ¬ (r.length : Int) < (c.toNat : Int) := by omega
            have HT2 := Lib.hid (show takeT n.toNat s = goneC (r.drop c.toNat) k' (acc ++ [r.take c.toNat]) by rw [HT.out]; exact goneC_ok hcr)
            have HD := Lib.hid (GT.drew HO.out)
            have l7 := HO.out.2.1.lt
            have c0 := HO.out.2.1.cell (k := 0) rfl
            have HL2 := Lib.hid (show ∀ x ∈ acc ++ [r.take c.toNat], x.length ≤ 255 from fun x hx => by
              rcases List.mem_append.1 hx with h | h
              · exact HL.out x h
              · rw [List.mem_singleton.1 h, List.length_take]; omega)
            have cq1 : (0 : Int) ≤ (c.toNat : Int) := by omega
            have cq2 : (c.toNat : Int) ≤ 255 := by omega
            have cq3 : (c.toNat : Int) ≤ (r.length : Int) := by omega
            obtain ⟨m, hm⟩ : ∃ m, m = 1 + c.toNat := ⟨_, rfl⟩
            have em : 1 + (c.toNat : Int) = (m : Int) := by omega
            have em1 : m - 1 = c.toNat := by omega
            have em2 : (m : Int) ≤ (r.length : Int) + 1 := by omega
            have em3 : (1 : Int) ≤ (m : Int) := by omega
            have em4 : (0 : Int) ≤ (m : Int) := by omega
            have em5 : List.drop m (c :: r) = List.drop c.toNat r := by rw [hm, Nat.add_comm]; rfl
            have HM5 := Lib.hid em5
            clear em5 hm
            go_upto_region 12 with fail
            go_region_law (refine recS.step_append1V wr.drew (r.take c.toNat) rfl _ _ 22 rfl Tryd.underlying22 W2.heap.size (.slice at_ acc.length ct) acc rfl HD.out.2.2.1 _ rfl _ rfl _ rfl (by show (acc.length + 1) * 16 ≤ _; omega) HD.out.2.2.2.2 ?_; intro g gc w8 hown8 hc8 _; have hp8 := HD.out.appP hsz2 hc8; have c8 := hp8.cell (k := 0) rfl; have f8 := hp8.free (k := 0) (by simp); have H9 := Lib.hid (HD.out.app hsz2 hown8 hc8); clear hown8 hc8 hp8)
            all_goals
              (try dsimp only)
              (try go_frame)
              go_wp2
              refine ⟨⟨i + 1, acc ++ [r.take c.toNat], r.drop c.toNat, _, by rw [HM5.out, List.take_of_length_le (by rw [List.length_drop]; omega)], by go_num, by omega, by rw [List.length_drop]; omega, by rw [List.length_append, List.length_singleton, HAC.out], by rw [show n.toNat - (i + 1) = k' by have := HK.out; omega]; exact HT2.out, H9.out, HL2.out⟩, by simp [intOf]; omega⟩
          · have HGN := Lib.hid (show getC (n :: s) = none from getC_bad (by rw [HT.out]; exact goneC_bad hcr))
            have t1 : (r.length : Int) < (c.toNat : Int) := by omega
            go_wp2_with fail
            obtain ⟨h1, h2, h3⟩ := rget_none (s := n :: s) HO.out.1 HO.out.2.2.2.1 HGN.out
            refine bodyPost_ret (results_cell_tmpR rfl rfl h1) rfl ?_
            exact ⟨h2, h3⟩
      · obtain rfl : i = n.toNat := by omega
        have e0 : ¬ (n.toNat : Int) < (n.toNat : Int) := by omega
        have hT := HT.out
        rw [Nat.sub_self, goneC_zero] at hT
        have HT0 := Lib.hid hT
        clear hT HT h0
        by_cases h2 : r.length < 2
        · have HGN := Lib.hid (getC_short HT0.out h2)
          have t1 : (r.length : Int) < 2 := by omega
          clear h2
          go_upto_region 14 with fail
          go_quiet (fail)
          go_wp2_with fail
          obtain ⟨h1, h2, h3⟩ := rget_none (s := n :: s) (HO.out.1.below (Below.drewN' _ nq)) (bt HO.out.2.2.2.1 (Below.drewN' _ nq)) HGN.out
          refine bodyPost_ret (results_cell_tmpR rfl rfl h1) rfl ?_
          exact ⟨h2, h3⟩
        · obtain ⟨a, b, r2, rfl⟩ : ∃ x y r2, r = x :: y :: r2 := by
            match r, h2 with
            | [], h => exact absurd (by simp) h
            | [a], h => exact absurd (by simp) h
            | x :: y :: r2, _ => exact ⟨x, y, r2, rfl⟩
          have ha := a.toNat_lt
          have hb := b.toNat_lt
          have hrl3 : r2.length ≤ 10000 := by simp at hrl; omega
          have q1 : (0 : Int) ≤ (b.toNat : Int) := by omega
          have q2 : (b.toNat : Int) ≤ 255 := by omega
          have q3 : (0 : Int) ≤ (a.toNat : Int) := by omega
          have q4 : (a.toNat : Int) ≤ 255 := by omega
          have q5 : (r2.length : Int) ≤ 10000 := by omega
          clear h2 hrl ha hb
          have t1 : decide ((r2.length : Int) + 1 + 1 < 2) = false := decide_eq_false (by omega)
          obtain ⟨N, hN⟩ : ∃ N, N = a.toNat + 256 * b.toNat := ⟨_, rfl⟩
          have hNl : N ≤ 65535 := by omega
          have ew : (a.toNat : Int) + 256 * (b.toNat : Int) = (N : Int) := by omega
          have HNN := Lib.hid hN
          clear hN
          by_cases hlen : r2.length = 2 * N
          · have tl : ((r2.length : Int) + 1 + 1 != 2 + 2 * (N : Int)) = false := by rw [bne_eq_false_iff_eq]; omega
            obtain ⟨cs, hcs1, hcs2⟩ := putIs_of N r2 hlen
            have HGI := Lib.hid (show getC (n :: s) = if mayV acc cs = true then some (acc, cs) else none from getC_len_ok (a := a) (b := b) (by rw [HT0.out, hcs1]) (by rw [hcs2, HNN.out]))
            obtain ⟨ss, hss⟩ : ∃ ss, ss = a :: b :: r2 := ⟨_, rfl⟩
            have hsl : ss.length = 2 + 2 * cs.length := by rw [hss]; simp; omega
            have HSL := Lib.hid hsl
            have HSG := Lib.hid (show ∀ j (h : j < cs.length) (h1 : 2 + 2 * j < ss.length) (h2 : 2 + 2 * j + 1 < ss.length), (ss[2 + 2 * j], ss[2 + 2 * j + 1]) = cs[j] from fun j h h1 h2 => by
              obtain ⟨e1, e2⟩ := putIs_get cs j h
              subst hss
              rw [← hcs1] at e1 e2
              have f1 : (a :: b :: r2)[2 + 2 * j]? = some cs[j].1 := by rw [Nat.add_comm 2]; exact e1
              have f2 : (a :: b :: r2)[2 + 2 * j + 1]? = some cs[j].2 := by rw [Nat.add_comm 2, Nat.add_right_comm]; exact e2
              rw [List.getElem?_eq_getElem h1] at f1
              rw [List.getElem?_eq_getElem h2] at f2
              rw [Option.some.inj f1, Option.some.inj f2])
            have hcl : cs.length ≤ 65535 := by omega
            clear hcs1 hcs2 hlen
            have HSS := Lib.hid hss
            clear hsl hss
            go_upto_region 14 with fail
            go_quiet (fail)
            obtain ⟨Wn, hWn⟩ : ∃ Wn, Wn = wr.drewN nq := ⟨_, rfl⟩
            have HGT := Lib.hid (show GT w Wn W2.heap.size (.slice at_ acc.length ct) acc from by
              have hb : Below wr.heap.size wr Wn := by rw [hWn]; exact Below.drewN' _ _
              exact ⟨HO.out.1.below hb, HO.out.2.1.below hb, HO.out.2.2.1.below hb, bt HO.out.2.2.2.1 hb, Nat.le_trans HO.out.2.2.2.2 hb.size⟩)
            have hszn : w.heap.size + 2 ≤ Wn.heap.size := by have := HGT.out.2.2.2.2; omega
            rw [← hWn]
            rw [← HSS.out]
            clear hWn p0 p1 g0 g1 HO t1 tl q1 q2 q3 q4 q5 ew
            have hsl : ss.length = 2 + 2 * cs.length := HSL.out
            go_wp2_with fail
            go_loopw [8] (fun vi wr => ∃ (j m : Nat) (cv : Value), vi = .int .i64 (m : Int) ∧ m = 2 + 2 * j ∧ j ≤ cs.length ∧ Hid (GI w wr W2.heap.size Wn.heap.size (.slice at_ acc.length ct) cv acc (cs.take j))) (fun vi _ => ss.length - (intOf vi).toNat)
            case atStart => exact ⟨0, 2, _, rfl, rfl, Nat.zero_le _, HGT.out.code⟩
            case round =>
              obtain ⟨j, m, cv, rfl, hm, hj, HI⟩ := hrel
              obtain ⟨ac_, cc, rfl⟩ := owns_slice HI.out.2.2.2.1
              by_cases h0 : j < cs.length
              · have m1 : (m : Int) < (ss.length : Int) := by omega
                have m2 : (0 : Int) ≤ (m : Int) := by omega
                obtain ⟨m', hm'⟩ : ∃ m', m' = m + 1 := ⟨_, rfl⟩
                have m0 : (m : Int) + 1 = (m' : Int) := by omega
                have m3 : (0 : Int) ≤ (m' : Int) := by omega
                have m4 : (m' : Int) < (ss.length : Int) := by omega
                have m7 : (m : Int) ≤ 200000 := by omega
                have mw : IntKind.i64.wrap (m' : Int) = (m' : Int) := IntWalk.i64_in _ (by omega)
                have l7 := HI.out.2.1.lt
                have c1 := HI.out.2.1.cell (k := 1) rfl
                have HD := Lib.hid HI.out.drew
                have m5 : m < ss.length := by omega
                have m6 : m' < ss.length := by omega
                have HTK := Lib.hid (show cs.take (j + 1) = cs.take j ++ [(ss[m], ss[m'])] from by
                  subst hm'
                  subst hm
                  rw [HSG.out j h0 m5 m6, List.take_append_getElem h0])
                have hjl : (cs.take j).length ≤ 65535 := by rw [List.length_take]; omega
                obtain ⟨acc2, hacc2⟩ : ∃ acc2, acc2 = cs.take j := ⟨_, rfl⟩
                rw [← hacc2] at HI HD HTK hjl c1
                have HMJ := Lib.hid hm
                clear hacc2 hm hm' hsl
                go_upto_region 19 with fail
                go_region_law (refine recIns.step_append1V wr.drew (ss[m], ss[m']) rfl _ _ 23 rfl Tryd.underlying23 Wn.heap.size (.slice ac_ acc2.length cc) acc2 rfl HD.out.2.2.2.1 _ rfl _ rfl _ rfl (by show (acc2.length + 1) * 2 ≤ _; omega) HD.out.2.2.2.2.2.1 ?_; intro g gc w8 hown8 hc8 _; have hp8 := HD.out.appP hszn hc8; have c8 := hp8.cell (k := 1) rfl; have f8 := hp8.free (k := 1) (by simp); have H9 := Lib.hid (HD.out.app hsz2 hszn hown8 hc8); clear hown8 hc8 hp8)
                all_goals
                  (try dsimp only)
                  (try go_frame)
                  go_wp2
                  refine ⟨⟨j + 1, m + 2, _, by go_num, by have := HMJ.out; omega, by omega, by unfold Hid; rw [HTK.out]; exact H9.out⟩, by have := HSL.out; simp [intOf]; omega⟩
              · obtain rfl : j = cs.length := by omega
                have m1 : ¬ (m : Int) < (ss.length : Int) := by omega
                rw [List.take_length] at HI
                have HMJ := Lib.hid hm
                clear hm
                have c0 := HI.out.2.1.cell (k := 0) rfl
                have c1 := HI.out.2.1.cell (k := 1) rfl
                have HMY := Lib.hid (rMay12_any _ _ acc cs wr HI.out.2.2.1.row HI.out.2.2.2.1.row (by omega) (by omega) (fun x hx => Nat.le_trans (HL.out x hx) (by decide)))
                clear h0
                by_cases hmv : mayV acc cs = true
                · rw [hmv] at HMY
                  have HG2 := Lib.hid (HGI.out.trans (if_pos hmv))
                  clear hmv
                  go_upto_region 22 with (go_at_call 15; refine HMY.out.mono ?_; rintro e wa ⟨rfl, hBa⟩; have HA := Lib.hid (HI.out.below hBa); clear hBa)
                  clear c0 c1
                  have c0 := HA.out.2.1.cell (k := 0) rfl
                  have c1 := HA.out.2.1.cell (k := 1) rfl
                  have p0 := HA.out.1.cell (k := 0) rfl
                  have p1 := HA.out.1.cell (k := 1) rfl
                  have g0 := HA.out.1.free (k := 0) (by simp)
                  have g1 := HA.out.1.free (k := 1) (by simp)
                  go_wp2_with fail
                  obtain ⟨f1, f2, f3, f4⟩ := HA.out.fin hsz2 hszn (.slice at_ acc.length ct) (.slice ac_ cs.length cc)
                  refine bodyPost_ret (results_cell_tmpR rfl rfl (load_prog (f1.cell (k := 0) rfl) (f1.cell (k := 1) rfl))) rfl ?_
                  exact ⟨GetR_some HG2.out f2 f3, f4⟩
                · have hm2 : mayV acc cs = false := by simpa using hmv
                  rw [hm2] at HMY
                  have HGN := Lib.hid (HGI.out.trans (if_neg hmv))
                  clear hmv hm2
                  go_upto_region 21 with (go_at_call 15; refine HMY.out.mono ?_; rintro e wa ⟨rfl, hBa⟩; have HA := Lib.hid (HI.out.below hBa); clear hBa)
                  clear c0 c1
                  have p0 := HA.out.1.cell (k := 0) rfl
                  have p1 := HA.out.1.cell (k := 1) rfl
                  have g0 := HA.out.1.free (k := 0) (by simp)
                  have g1 := HA.out.1.free (k := 1) (by simp)
                  go_wp2_with fail
                  obtain ⟨h1, h2, h3⟩ := rget_none (s := n :: s) HA.out.1 HA.out.2.2.2.2.1 HGN.out
                  refine bodyPost_ret (results_cell_tmpR rfl rfl h1) rfl ?_
                  exact ⟨h2, h3⟩
          · have HGN := Lib.hid (getC_len_bad HT0.out (by rw [← HNN.out]; exact hlen))
            have tl : ¬ (r2.length : Int) + 1 + 1 = 2 + 2 * (N : Int) := by omega
            clear hlen
            go_upto_region 14 with fail
            go_quiet (fail)
            go_wp2_with fail
            obtain ⟨h1, h2, h3⟩ := rget_none (s := n :: s) (HO.out.1.below (Below.drewN' _ nq)) (bt HO.out.2.2.2.1 (Below.drewN' _ nq)) HGN.out
            refine bodyPost_ret (results_cell_tmpR rfl rfl h1) rfl ?_
            exact ⟨h2, h3⟩
end Go.Proofs.YtbcjfppdeapamaaDoor
namespace Go.Proofs.YtbcjfppdeapamaaDoor
open Go.RowKit Oct
attribute [local irreducible] wpG
theorem readC_1 : ∀ a : Nat, a < 256 → readC (lineC (1, UInt8.ofNat a)) = some (1, UInt8.ofNat a) := by decide +kernel
theorem readC_2 : ∀ a : Nat, a < 256 → readC (lineC (2, UInt8.ofNat a)) = some (2, UInt8.ofNat a) := by decide +kernel
theorem readC_3 : ∀ a : Nat, a < 256 → readC (lineC (3, UInt8.ofNat a)) = some (3, UInt8.ofNat a) := by decide +kernel
theorem readC_17 : ∀ a : Nat, a < 256 → readC (lineC (17, UInt8.ofNat a)) = some (17, UInt8.ofNat a) := by decide +kernel
theorem readC_18 : ∀ a : Nat, a < 256 → readC (lineC (18, UInt8.ofNat a)) = some (18, UInt8.ofNat a) := by decide +kernel
theorem readC_22 : ∀ a : Nat, a < 256 → readC (lineC (22, UInt8.ofNat a)) = some (22, UInt8.ofNat a) := by decide +kernel
theorem readC_no : ∀ o : Nat, o < 24 → 1 ≤ o → hasArg (UInt8.ofNat o) = false → readC (lineC (UInt8.ofNat o, 0)) = some (UInt8.ofNat o, 0) := by decide +kernel
theorem hasArg_six {p : UInt8} (h : hasArg p = true) : p = 1 ∨ p = 2 ∨ p = 3 ∨ p = 17 ∨ p = 18 ∨ p = 22 := by
  unfold hasArg at h
  simp only [Bool.or_eq_true, beq_iff_eq] at h
  rcases h with ((((h | h) | h) | h) | h) | h <;> simp [h]
theorem readC_line {x : VI} (h : insOk x = true) : readC (lineC x) = some x := by
  obtain ⟨p, a⟩ := x
  have hp := insOk_24 h
  have ha : UInt8.ofNat a.toNat = a := UInt8.ofNat_toNat
  have hpp : UInt8.ofNat p.toNat = p := UInt8.ofNat_toNat
  have hlt := a.toNat_lt
  unfold insOk at h
  simp only [Bool.and_eq_true, decide_eq_true_eq, Bool.or_eq_true, beq_iff_eq] at h
  obtain ⟨⟨h1, h2⟩, h3⟩ := h
  cases hh : hasArg p with
  | true =>
    rcases hasArg_six hh with rfl | rfl | rfl | rfl | rfl | rfl
    · have := readC_1 a.toNat hlt; rw [ha] at this; exact this
    · have := readC_2 a.toNat hlt; rw [ha] at this; exact this
    · have := readC_3 a.toNat hlt; rw [ha] at this; exact this
    · have := readC_17 a.toNat hlt; rw [ha] at this; exact this
    · have := readC_18 a.toNat hlt; rw [ha] at this; exact this
    · have := readC_22 a.toNat hlt; rw [ha] at this; exact this
  | false =>
    have h0 : a = 0 := by
      rcases h3 with h3 | h3
      · exact h3
      · have h3' : hasArg p = true := h3
        rw [hh] at h3'; cases h3'
    subst h0
    have := readC_no p.toNat hp h1 (by rw [hpp]; exact hh)
    rw [hpp] at this
    exact this
theorem readC_sound {s : List UInt8} {x : VI} (h : readC s = some x) : insOk x = true ∧ lineC x = s := by
  unfold readC at h
  split at h
  · rename_i hc
    injection h with h
    subst h
    exact hc
  · cases h
set_option maxRecDepth 100000 in
set_option maxHeartbeats 4000000 in
theorem rName_any (op : UInt8) (w : World) : Calls Tryd.prog 36 #[.int .u8 (op.toNat : Int)] w fun e w' => e = .returned (.string (bs (nameC op))) ∧ Below w.heap.size w w' := by
  obtain ⟨W1, hW1⟩ : ∃ W1, W1 = w.alloc (.cells #[.string ⟨#[]⟩, .string ⟨#[116, 101, 120, 116]⟩, .string ⟨#[110, 117, 109]⟩, .string ⟨#[105, 110]⟩, .string ⟨#[99, 97, 116]⟩, .string ⟨#[108, 101, 110]⟩, .string ⟨#[112, 97, 114, 116]⟩, .string ⟨#[112, 97, 114, 115, 101]⟩, .string ⟨#[115, 104, 111, 119]⟩, .string ⟨#[97, 100, 100]⟩, .string ⟨#[109, 117, 108]⟩, .string ⟨#[108, 101, 115, 115]⟩, .string ⟨#[115, 97, 109, 101]⟩, .string ⟨#[110, 111, 116]⟩, .string ⟨#[100, 114, 111, 112]⟩, .string ⟨#[100, 117, 112]⟩, .string ⟨#[115, 119, 97, 112]⟩, .string ⟨#[103, 101, 116]⟩, .string ⟨#[115, 101, 116]⟩, .string ⟨#[105, 102]⟩, .string ⟨#[101, 108, 115, 101]⟩, .string ⟨#[101, 110, 100]⟩, .string ⟨#[101, 97, 99, 104]⟩, .string ⟨#[101, 109, 105, 116]⟩] 9) := ⟨_, rfl⟩
  have hb1 : Below w.heap.size w W1 := by rw [hW1]; exact b_alloc _ _
  have hr : recS.Row W1 (.slice (some ⟨w.heap.size, 0, none⟩) 24 24) namesC := by rw [hW1]; exact litC recS w namesC _ rfl 24 rfl (by omega)
  have ow : IntKind.i64.wrap (op.toNat : Int) = (op.toNat : Int) := by have := op.toNat_lt; simp [IntKind.wrap, IntKind.bits, IntKind.signed]; omega
  have o0 : (0 : Int) ≤ (op.toNat : Int) := by omega
  have HB1 := Lib.hid hb1
  by_cases h24 : op.toNat < 24
  · have t1 : ¬ (24 : Int) ≤ (op.toNat : Int) := by omega
    have t2 : (op.toNat : Int) < 24 := by omega
    obtain ⟨a', cap, hv, e6, hc⟩ := recS_open hr
    obtain ⟨b, off, ha, hu⟩ := hc op.toNat h24
    injection hv with e1 e4 e5
    rw [← e1] at ha
    injection ha with ha
    injection ha with e2 e3 _
    subst e2 e3
    have c0 : W1.cell? ⟨w.heap.size, op.toNat, none⟩ = some (.string (bs (nameC op))) := by
      rw [Nat.zero_add] at hu
      rw [hu]; unfold nameC; rw [List.getD, List.getElem?_eq_getElem h24]; rfl
    clear hb1 hr hc hu e1 e4 e5 e6
    go_enter Tryd.func36, Tryd.ntmps36
    go_upto_region 2 with fail
    rw [← hW1]
    clear hW1
    go_wp2_with fail
    go_ret
    exact ⟨rfl, HB1.out⟩
  · have t1 : (24 : Int) ≤ (op.toNat : Int) := by omega
    have HN := Lib.hid (show nameC op = [] by unfold nameC; rw [List.getD, List.getElem?_eq_none (by show 24 ≤ op.toNat; omega)]; rfl)
    clear hb1 hr
    go_enter Tryd.func36, Tryd.ntmps36
    go_upto_region 2 with fail
    rw [← hW1]
    clear hW1
    go_wp2_with fail
    go_ret
    exact ⟨by rw [HN.out]; rfl, HB1.out⟩
set_option maxRecDepth 100000 in
set_option maxHeartbeats 4000000 in
theorem rLine_any (x : VI) (w : World) (hG : GlobC w) : Calls Tryd.prog 21 #[.agg #[.int .u8 (x.1.toNat : Int), .int .u8 (x.2.toNat : Int)]] w fun e w' => e = .returned (.string (bs (lineC x))) ∧ Below w.heap.size w w' := by
  obtain ⟨W1, hW1⟩ : ∃ W1, W1 = w.alloc (.cells #[.int .u8 (x.1.toNat : Int), .int .u8 (x.2.toNat : Int)] 39) := ⟨_, rfl⟩
  have hb1 : Below w.heap.size w W1 := by rw [hW1]; exact b_alloc _ _
  have hx : Blk W1 w.heap.size 39 [.int .u8 (x.1.toNat : Int), .int .u8 (x.2.toNat : Int)] := by rw [hW1]; exact Blk.new w _ _
  have x0 := hx.cell (k := 0) rfl
  have x1 := hx.cell (k := 1) rfl
  have HB1 := Lib.hid hb1
  have HG1 := Lib.hid (hG.below hb1)
  have HHA := Lib.hid (rHas_any x.1)
  obtain ⟨h, hh⟩ : ∃ h, h = hasArg x.1 := ⟨_, rfl⟩
  rw [← hh] at HHA
  have HH := Lib.hid hh
  have nl := nameC_len x.1
  have nl1 : ((nameC x.1).length : Int) ≤ 5 := by omega
  have HNM := Lib.hid (rName_any x.1)
  clear hh hb1 hx
  cases h with
  | false =>
    have HR := Lib.hid (show lineC x = nameC x.1 by unfold lineC; rw [← HH.out]; rfl)
    go_enter Tryd.func21, Tryd.ntmps21
    go_upto_region 1 with fail
    rw [← hW1]
    clear hW1
    go_wp2_with (first | (go_at_call 35; refine (HHA.out _).mono ?_; rintro e w3 ⟨rfl, rfl⟩) | (go_at_call 36; refine (HNM.out _).mono ?_; rintro e w4 ⟨rfl, hB4⟩; have HB4 := Lib.hid (bt HB1.out hB4); clear hB4))
    go_ret
    exact ⟨by rw [HR.out]; rfl, HB4.out⟩
  | true =>
    have HR := Lib.hid (show lineC x = nameC x.1 ++ [32] ++ digC x.2 by unfold lineC; rw [← HH.out]; rfl)
    have a0 : (0 : Int) ≤ (x.2.toNat : Int) := by omega
    have a1 : (x.2.toNat : Int) ≤ 255 := by have := x.2.toNat_lt; omega
    have aw : IntKind.i64.wrap (x.2.toNat : Int) = (x.2.toNat : Int) := by simp [IntKind.wrap, IntKind.bits, IntKind.signed]; omega
    have dl := digC_len x.2
    have dl1 : ((Lib.itoa (x.2.toNat : Int)).length : Int) ≤ 3 := by unfold digC at dl; omega
    have HIT := Lib.hid (fun w' (hB : Below W1.heap.size W1 w') => itoa_bel a0 a1 (HG1.out.below hB))
    obtain ⟨dg, hdg⟩ : ∃ dg, dg = Lib.itoa (x.2.toNat : Int) := ⟨_, rfl⟩
    rw [← hdg] at dl1 HIT
    have HDG := Lib.hid (show digC x.2 = dg from hdg.symm)
    obtain ⟨nm, hnm⟩ : ∃ nm, nm = nameC x.1 := ⟨_, rfl⟩
    rw [← hnm] at nl1 nl HR HNM
    rw [HDG.out] at HR
    clear hdg hnm dl
    go_enter Tryd.func21, Tryd.ntmps21
    go_upto_region 1 with fail
    rw [← hW1]
    clear hW1
    go_upto_region 2 with (go_at_call 35; refine (HHA.out _).mono ?_; rintro e w3 ⟨rfl, rfl⟩)
    refine region_known [(1, .exact _ (.int .u8 (x.1.toNat : Int))), (2, .exact _ (.string (bs nm))), (5, .exact _ (.int .u8 (x.2.toNat : Int))), (7, .exact _ (.string (bs dg)))] (by kernel_rfl) (by kernel_rfl) ?_
    (repeat (first | (refine wpG_skip (by kernel_rfl) (fun K hK => ?_); go_big_quiet_skip; refine wpQuiet_nil (hK _ ?_); clear hK K) | (refine wpG_quiet (by rfl) (by rfl) (fun K hK => ?_); go_big_quiet_want; go_big_quiet_op; go_big_quiet_on; refine wpQuiet_nil (hK _ ?_); clear hK K) | (refine wpG_nilOk rfl rfl rfl (by kernel_rfl) (fun K hK => ?_); go_simp; refine hK _ ?_; clear hK K)))
    refine wpG_exact rfl (by kernel_rfl) (fun w' G hB hS hG => ?_) (fun K hK => ?_)
    · have y := Below.keeps hB x0
      go_simp; exact hG _ (Bel.refl _)
    go_simp; refine hK _ ?_; clear hK K; (repeat (first | (refine wpG_skip (by kernel_rfl) (fun K hK => ?_); go_big_quiet_skip; refine wpQuiet_nil (hK _ ?_); clear hK K) | (refine wpG_quiet (by rfl) (by rfl) (fun K hK => ?_); go_big_quiet_want; go_big_quiet_op; go_big_quiet_on; refine wpQuiet_nil (hK _ ?_); clear hK K) | (refine wpG_nilOk rfl rfl rfl (by kernel_rfl) (fun K hK => ?_); go_simp; refine hK _ ?_; clear hK K)))
    refine wpG_exact rfl (by kernel_rfl) (fun w' G hB hS hG => ?_) (fun K hK => ?_)
    · have hu := HNM.out w'
      go_simp
      exact calls_told hG hu
    go_simp; refine hK _ ?_; clear hK K; (repeat (first | (refine wpG_skip (by kernel_rfl) (fun K hK => ?_); go_big_quiet_skip; refine wpQuiet_nil (hK _ ?_); clear hK K) | (refine wpG_quiet (by rfl) (by rfl) (fun K hK => ?_); go_big_quiet_want; go_big_quiet_op; go_big_quiet_on; refine wpQuiet_nil (hK _ ?_); clear hK K) | (refine wpG_nilOk rfl rfl rfl (by kernel_rfl) (fun K hK => ?_); go_simp; refine hK _ ?_; clear hK K)))
    refine wpG_exact rfl (by kernel_rfl) (fun w' G hB hS hG => ?_) (fun K hK => ?_)
    · have y := Below.keeps hB x1
      go_simp; exact hG _ (Bel.refl _)
    go_simp; refine hK _ ?_; clear hK K; (repeat (first | (refine wpG_skip (by kernel_rfl) (fun K hK => ?_); go_big_quiet_skip; refine wpQuiet_nil (hK _ ?_); clear hK K) | (refine wpG_quiet (by rfl) (by rfl) (fun K hK => ?_); go_big_quiet_want; go_big_quiet_op; go_big_quiet_on; refine wpQuiet_nil (hK _ ?_); clear hK K) | (refine wpG_nilOk rfl rfl rfl (by kernel_rfl) (fun K hK => ?_); go_simp; refine hK _ ?_; clear hK K)))
    refine wpG_exact rfl (by kernel_rfl) (fun w' G hB hS hG => ?_) (fun K hK => ?_)
    · have hu := HIT.out w' hB
      go_simp
      exact calls_told hG hu
    go_simp; refine hK _ ?_; clear hK K; (repeat (first | (refine wpG_skip (by kernel_rfl) (fun K hK => ?_); go_big_quiet_skip; refine wpQuiet_nil (hK _ ?_); clear hK K) | (refine wpG_quiet (by rfl) (by rfl) (fun K hK => ?_); go_big_quiet_want; go_big_quiet_op; go_big_quiet_on; refine wpQuiet_nil (hK _ ?_); clear hK K) | (refine wpG_nilOk rfl rfl rfl (by kernel_rfl) (fun K hK => ?_); go_simp; refine hK _ ?_; clear hK K)))
    refine wpG_nilVT ?_
    intro w5 hB5 hA5
    go_wp2_with fail
    go_ret
    exact ⟨by rw [HR.out]; rfl, bt HB1.out hB5⟩
end Go.Proofs.YtbcjfppdeapamaaDoor
namespace Go.Proofs.YtbcjfppdeapamaaDoor
open Go.RowKit Oct
attribute [local irreducible] wpG
theorem no_zero (s : List UInt8) : ∀ x : VI, x.1.toNat < 1 → insOk x = true → lineC x ≠ s := by
  intro x hx h
  unfold insOk at h
  simp only [Bool.and_eq_true, decide_eq_true_eq] at h
  omega
theorem readC_nothing {s : List UInt8} (h : ∀ x : VI, x.1.toNat < 24 → insOk x = true → lineC x ≠ s) : readC s = none := by
  cases hr : readC s with
  | none => rfl
  | some x =>
    obtain ⟨h1, h2⟩ := readC_sound hr
    exact absurd h2 (h x (insOk_24 h1) h1)
theorem no_more {s : List UInt8} {o : Nat} (h : ∀ x : VI, x.1.toNat < o → insOk x = true → lineC x ≠ s) (h' : ∀ x : VI, x.1.toNat = o → x.2.toNat < 256 → insOk x = true → lineC x ≠ s) :
    ∀ x : VI, x.1.toNat < o + 1 → insOk x = true → lineC x ≠ s := by
  intro x hx
  by_cases hq : x.1.toNat < o
  · exact h x hq
  · exact h' x (by omega) x.2.toNat_lt
theorem no_next {s : List UInt8} {y : VI} (h : ∀ x : VI, x.1.toNat = y.1.toNat → x.2.toNat < y.2.toNat → insOk x = true → lineC x ≠ s) (h' : ¬ (insOk y = true ∧ lineC y = s)) :
    ∀ x : VI, x.1.toNat = y.1.toNat → x.2.toNat < y.2.toNat + 1 → insOk x = true → lineC x ≠ s := by
  intro x hx hx2 hok
  by_cases hq : x.2.toNat < y.2.toNat
  · exact h x hx hq hok
  · have : x = y := Prod.ext (UInt8.toNat_inj.1 hx) (UInt8.toNat_inj.1 (by omega))
    subst this
    exact fun he => h' ⟨hok, he⟩
theorem lineC_len (x : VI) : (lineC x).length ≤ 9 := by
  have h1 := nameC_len x.1
  have h2 := digC_len x.2
  unfold lineC
  split <;> simp <;> omega
set_option maxRecDepth 100000 in
set_option maxHeartbeats 8000000 in
theorem rRead_any (s : List UInt8) (w : World) (hG : GlobC w) (hs : s.length ≤ 1000) :
    Calls Tryd.prog 19 #[.string (bs s)] w fun e w' => e = .returned (readV s) ∧ Below w.heap.size w w' := by
  obtain ⟨W1, hW1⟩ : ∃ W1, W1 = w.alloc (.cells #[.int .u8 0, .int .u8 0] 39) := ⟨_, rfl⟩
  have hb1 : Below w.heap.size w W1 := by rw [hW1]; exact b_alloc _ _
  have hx : Blk W1 w.heap.size 39 [.int .u8 0, .int .u8 0] := by rw [hW1]; exact Blk.new w _ _
  have HX := Lib.hid hx
  have HB1 := Lib.hid hb1
  have HG := Lib.hid hG
  clear hG hx hb1
  go_enter Tryd.func19, Tryd.ntmps19
  go_upto_region 1 with fail
  rw [← hW1]
  clear hW1
  go_wp2
  go_loopw [4] (fun vo wr => ∃ o : Nat, vo = .int .u8 (o : Int) ∧ 1 ≤ o ∧ o ≤ 24 ∧ Hid (∀ x : VI, x.1.toNat < o → insOk x = true → lineC x ≠ s) ∧ Hid (Below W1.heap.size W1 wr)) (fun vo _ => 24 - (intOf vo).toNat)
  case atStart => exact ⟨1, rfl, Nat.le_refl _, by omega, no_zero s, Below.refl _ _⟩
  case round =>
    obtain ⟨o, rfl, ho1, ho2, HN, HBW⟩ := hrel
    by_cases h0 : o < 24
    · have c0 : (o : Int) ≤ 23 := by omega
      obtain ⟨W0, hW0⟩ : ∃ W, W = wr := ⟨_, rfl⟩
      subst hW0
      go_wp2
      go_loopw [5] (fun va wx => ∃ a : Nat, va = .int .i64 (a : Int) ∧ a ≤ 256 ∧ Hid (∀ x : VI, x.1.toNat = o → x.2.toNat < a → insOk x = true → lineC x ≠ s) ∧ Hid (Below W1.heap.size W1 wx)) (fun va _ => 256 - (intOf va).toNat)
      case atStart => exact ⟨0, rfl, by omega, fun x _ h => absurd h (Nat.not_lt_zero _), HBW.out⟩
      case round =>
        obtain ⟨a, rfl, ha, HA, HBX⟩ := hrel
        by_cases h1 : a < 256
        · obtain ⟨x, hxx⟩ : ∃ x : VI, x = (UInt8.ofNat o, UInt8.ofNat a) := ⟨_, rfl⟩
          have e1 : x.1.toNat = o := by rw [hxx]; show (UInt8.ofNat o).toNat = o; rw [UInt8.toNat_ofNat']; omega
          have e2 : x.2.toNat = a := by rw [hxx]; show (UInt8.ofNat a).toNat = a; rw [UInt8.toNat_ofNat']; omega
          clear hxx
          subst e1 e2
          have c1 : (x.2.toNat : Int) < 256 := by omega
          have ow : IntKind.u8.wrap (x.2.toNat : Int) = (x.2.toNat : Int) := by simp [IntKind.wrap, IntKind.bits, IntKind.signed]; omega
          have ow2 : (x.2.toNat : Int) % 256 = (x.2.toNat : Int) := by omega
          obtain ⟨W2, hW2⟩ : ∃ W2, W2 = wr.alloc (.cells #[.int .u8 (x.1.toNat : Int), .int .u8 (x.2.toNat : Int)] 39) := ⟨_, rfl⟩
          have hb2 : Below wr.heap.size wr W2 := by rw [hW2]; exact b_alloc _ _
          have hy : Blk W2 wr.heap.size 39 [.int .u8 (x.1.toNat : Int), .int .u8 (x.2.toNat : Int)] := by rw [hW2]; exact Blk.new wr _ _
          have y0 := hy.cell (k := 0) rfl
          have y1 := hy.cell (k := 1) rfl
          have HY := Lib.hid hy
          have HB2 := Lib.hid (bt HBX.out hb2)
          have HIN := Lib.hid (fun w' => rIns_any x w')
          have HLN := Lib.hid (fun w' (hB : Below W1.heap.size W1 w') => rLine_any x w' (HG.out.below (bt HB1.out hB)))
          obtain ⟨q, hq⟩ : ∃ q, q = insOk x := ⟨_, rfl⟩
          rw [← hq] at HIN
          have HQ := Lib.hid hq
          clear hb2 hy hq
          go_upto_region 8 with fail
          rw [← hW2]
          clear hW2
          cases q with
          | false =>
            have HNX := Lib.hid (no_next HA.out (fun h => by have := HQ.out; rw [h.1] at this; cases this))
            go_wp2_with (go_at_call 20; refine (HIN.out _).mono ?_; rintro e w3 ⟨rfl, hB3⟩; have HB3 := Lib.hid (bt HB2.out hB3); clear hB3)
            refine ⟨⟨x.2.toNat + 1, by go_num, by omega, HNX.out, HB3.out⟩, by simp [intOf]; omega⟩
          | true =>
            have ll := lineC_len x
            obtain ⟨ln, hln⟩ : ∃ ln, ln = lineC x := ⟨_, rfl⟩
            rw [← hln] at HLN ll
            by_cases he : ln = s
            · have t2 : (ln == s) = true := by rw [he]; simp
              have t1 : (ln != s) = false := by rw [he]; simp
              have HV := Lib.hid (show readV s = .tuple #[.agg #[.int .u8 (x.1.toNat : Int), .int .u8 (x.2.toNat : Int)], .int .i64 0] by unfold readV; rw [← he, hln, readC_line HQ.out.symm])
              clear hln he
              go_upto_region 9 with (first | (go_at_call 20; refine (HIN.out _).mono ?_; rintro e w3 ⟨rfl, hB3⟩; have HB3 := Lib.hid (bt HB2.out hB3); have HY3 := Lib.hid (HY.out.below hB3); have z0 := HY3.out.cell (k := 0) rfl; have z1 := HY3.out.cell (k := 1) rfl; clear hB3) | (go_at_call 21; refine (HLN.out _ HB3.out).mono ?_; rintro e w4 ⟨rfl, hB4⟩; have HB4 := Lib.hid (bt HB3.out hB4); have HY4 := Lib.hid (HY3.out.below hB4); clear hB4))
              have u0 := HY4.out.cell (k := 0) rfl
              have u1 := HY4.out.cell (k := 1) rfl
              have hx6 := HX.out.below HB4.out
              have x0 := hx6.cell (k := 0) rfl
              have x1 := hx6.cell (k := 1) rfl
              have f0 := hx6.free (k := 0) (by decide)
              have f1 := hx6.free (k := 1) (by decide)
              have HX6 := Lib.hid hx6
              clear hx6 y0 y1 z0 z1
              go_wp2_with fail
              have hx7 := (HX6.out.set 0 (.int .u8 (x.1.toNat : Int))).set 1 (.int .u8 (x.2.toNat : Int))
              have hc7 := (Chg.set1R (w := w4) (b := w.heap.size) (k := 0) (v := .int .u8 (x.1.toNat : Int))).trans (Chg.set1R (k := 1) (v := .int .u8 (x.2.toNat : Int)))
              refine bodyPost_ret (results_cell_tmpR rfl rfl (load_ins (hx7.cell (k := 0) rfl) (hx7.cell (k := 1) rfl))) rfl ?_
              exact ⟨by rw [HV.out]; rfl, (bt HB1.out HB4.out).trans (hc7.below (fun j (hj : j = w.heap.size) => by omega) (bt HB1.out HB4.out).size)⟩
            · have t2 : (ln == s) = false := by simpa using he
              have t1 : (ln != s) = true := by simpa using he
              have HNX := Lib.hid (no_next HA.out (fun h => he (by rw [hln]; exact h.2)))
              clear hln he
              go_wp2_with (first | (go_at_call 20; refine (HIN.out _).mono ?_; rintro e w3 ⟨rfl, hB3⟩; have HB3 := Lib.hid (bt HB2.out hB3); have HY3 := Lib.hid (HY.out.below hB3); have z0 := HY3.out.cell (k := 0) rfl; have z1 := HY3.out.cell (k := 1) rfl; clear hB3) | (go_at_call 21; refine (HLN.out _ HB3.out).mono ?_; rintro e w4 ⟨rfl, hB4⟩; have HB4 := Lib.hid (bt HB3.out hB4); clear hB4))
              refine ⟨⟨x.2.toNat + 1, by go_num, by omega, HNX.out, HB4.out⟩, by simp [intOf]; omega⟩
        · have c1 : ¬ (a : Int) < 256 := by omega
          obtain rfl : a = 256 := by omega
          have HNX := Lib.hid (no_more HN.out HA.out)
          go_wp2_with fail
          refine ⟨⟨o + 1, by go_num, by omega, by omega, HNX.out, HBX.out⟩, by simp [intOf]; omega⟩
    · have c0 : ¬ (o : Int) ≤ 23 := by omega
      obtain rfl : o = 24 := by omega
      have HV := Lib.hid (show readV s = .tuple #[.agg #[.int .u8 0, .int .u8 0], .int .i64 7] by unfold readV; rw [readC_nothing HN.out])
      have hx6 := HX.out.below HBW.out
      have x0 := hx6.cell (k := 0) rfl
      have x1 := hx6.cell (k := 1) rfl
      have f0 := hx6.free (k := 0) (by decide)
      have f1 := hx6.free (k := 1) (by decide)
      have HX6 := Lib.hid hx6
      clear hx6
      go_wp2_with fail
      have hx7 := (HX6.out.set 0 (.int .u8 0)).set 1 (.int .u8 0)
      have hc7 := (Chg.set1R (w := wr) (b := w.heap.size) (k := 0) (v := .int .u8 0)).trans (Chg.set1R (k := 1) (v := .int .u8 0))
      refine bodyPost_ret (results_cell_tmpR rfl rfl (load_ins (hx7.cell (k := 0) rfl) (hx7.cell (k := 1) rfl))) rfl ?_
      exact ⟨by rw [HV.out]; rfl, (bt HB1.out HBW.out).trans (hc7.below (fun j (hj : j = w.heap.size) => by omega) (bt HB1.out HBW.out).size)⟩
end Go.Proofs.YtbcjfppdeapamaaDoor
namespace Go.Proofs.YtbcjfppdeapamaaDoor
open Go.RowKit Oct
attribute [local irreducible] wpG
theorem readV_parts (s : List UInt8) : ∃ y1 y2 er : Int, readV s = .tuple #[.agg #[.int .u8 y1, .int .u8 y2], .int .i64 er] := by
  unfold readV
  cases readC s with
  | none => exact ⟨_, _, _, rfl⟩
  | some x => exact ⟨_, _, _, rfl⟩
theorem lineR_parts (x : VI) : ∃ (lx : List UInt8) (ex : Int), lineR x = .tuple #[.string (bs lx), .int .i64 ex] ∧ (insOk x = true → lx = lineC x ∧ ex = 0) ∧ (insOk x = false → lx = [] ∧ ex = 2) := by
  by_cases h : insOk x = true
  · exact ⟨lineC x, 0, by rw [lineR, if_pos h], fun _ => ⟨rfl, rfl⟩, fun h' => by rw [h] at h'; cases h'⟩
  · exact ⟨[], 2, by rw [lineR, if_neg h], fun h' => absurd h' h, fun _ => ⟨rfl, rfl⟩⟩
set_option maxRecDepth 100000 in
set_option maxHeartbeats 8000000 in
theorem CodeLines_any (x : VI) (s : List UInt8) (w : World) (hs0 : s.length ≤ 140737488355328) (hG : GlobC w) :
    Calls Tryd.prog 4 #[.agg #[.int .u8 (x.1.toNat : Int), .int .u8 (x.2.toNat : Int)], .string (bs s)] w fun e w' => e = .returned (.bool true) ∧ Below w.heap.size w w' := by
  obtain ⟨W1, hW1⟩ : ∃ W1, W1 = w.alloc (.cells #[.int .u8 (x.1.toNat : Int), .int .u8 (x.2.toNat : Int)] 39) := ⟨_, rfl⟩
  have hb1 : Below w.heap.size w W1 := by rw [hW1]; exact b_alloc _ _
  have hx : Blk W1 w.heap.size 39 [.int .u8 (x.1.toNat : Int), .int .u8 (x.2.toNat : Int)] := by rw [hW1]; exact Blk.new w _ _
  have HX := Lib.hid hx
  have HB1 := Lib.hid hb1
  have HG1 := Lib.hid (hG.below hb1)
  have HAL := Lib.hid (fun w' (hB : Below W1.heap.size W1 w') => alive12_any w' (HG1.out.below hB))
  clear hx hb1 hG
  by_cases h100 : s.length ≤ 100
  · have c0 : ¬ (100 : Int) < (s.length : Int) := by omega
    have HLN := Lib.hid (fun w' (hB : Below W1.heap.size W1 w') => Line_any x w' (HG1.out.below hB))
    have HRD := Lib.hid (fun w' (hB : Below W1.heap.size W1 w') => Read_any s w' (HG1.out.below hB) (by omega))
    have HRR := Lib.hid (fun w' (hB : Below W1.heap.size W1 w') => rRead_any s w' (HG1.out.below hB) (by omega))
    have HRL := Lib.hid (fun w' (hB : Below W1.heap.size W1 w') => rLine_any x w' (HG1.out.below hB))
    have HIN := Lib.hid (fun w' => rIns_any x w')
    obtain ⟨y1, y2, er, hv⟩ := readV_parts s
    obtain ⟨lx, ex, hl1, hl2, hl3⟩ := lineR_parts x
    rw [hv] at HRD HRR
    rw [hl1] at HLN
    have HL2 := Lib.hid hl2
    have HL3 := Lib.hid hl3
    have ll := lineC_len x
    obtain ⟨ln, hln⟩ : ∃ ln, ln = lineC x := ⟨_, rfl⟩
    rw [← hln] at HRL ll HL2
    obtain ⟨q, hq⟩ : ∃ q, q = insOk x := ⟨_, rfl⟩
    rw [← hq] at HIN HL2 HL3
    clear hv hl1 hl2 hl3 hln hq h100
    go_enter Tryd.func4, Tryd.ntmps4
    go_upto_region 1 with fail
    rw [← hW1]
    clear hW1
    have x0 := HX.out.cell (k := 0) rfl
    have x1 := HX.out.cell (k := 1) rfl
    go_upto_region 4 with (go_at_call 17; refine (HLN.out _ (Below.refl _ _)).mono ?_; rintro e w2 ⟨rfl, hB2⟩; have HB2 := Lib.hid hB2; clear hB2)
    clear x0 x1
    go_upto_region 5 with (go_at_call 18; refine (HRD.out _ HB2.out).mono ?_; rintro e w3 ⟨rfl, hB3⟩; have HB3 := Lib.hid (bt HB2.out hB3); clear hB3)
    obtain ⟨W4, hW4⟩ : ∃ W, W = w3.alloc (.cells #[.int .u8 y1, .int .u8 y2] 39) := ⟨_, rfl⟩
    have hb4 : Below w3.heap.size w3 W4 := by rw [hW4]; exact b_alloc _ _
    have hy : Blk W4 w3.heap.size 39 [.int .u8 y1, .int .u8 y2] := by rw [hW4]; exact Blk.new w3 _ _
    rw [← hW4]
    obtain ⟨D, hD⟩ : ∃ D, D = w3.heap.size := ⟨_, rfl⟩
    rw [← hD] at hy ⊢
    have HY := Lib.hid hy
    have HB4 := Lib.hid (bt HB3.out hb4)
    clear hy hb4 hW4 hD
    go_upto_region 6 with (go_at_call 19; refine (HRR.out _ HB4.out).mono ?_; rintro e w5 ⟨rfl, hB5⟩; have HB5 := Lib.hid (bt HB4.out hB5); have HY5 := Lib.hid (HY.out.below hB5); clear hB5)
    obtain ⟨W6, hW6⟩ : ∃ W, W = w5.alloc (.cells #[.int .u8 y1, .int .u8 y2] 39) := ⟨_, rfl⟩
    have hb6 : Below w5.heap.size w5 W6 := by rw [hW6]; exact b_alloc _ _
    have hz : Blk W6 w5.heap.size 39 [.int .u8 y1, .int .u8 y2] := by rw [hW6]; exact Blk.new w5 _ _
    rw [← hW6]
    obtain ⟨E, hE⟩ : ∃ E, E = w5.heap.size := ⟨_, rfl⟩
    rw [← hE] at hz ⊢
    have HB6 := Lib.hid (bt HB5.out hb6)
    have y0 := (HY5.out.below hb6).cell (k := 0) rfl
    have y1' := (HY5.out.below hb6).cell (k := 1) rfl
    have z0 := hz.cell (k := 0) rfl
    have z1 := hz.cell (k := 1) rfl
    have hx6 := HX.out.below HB6.out
    have x0 := hx6.cell (k := 0) rfl
    have x1 := hx6.cell (k := 1) rfl
    have HX6 := Lib.hid hx6
    clear hz hb6 hW6 hE hx6
    cases q with
    | false =>
      obtain ⟨rfl, rfl⟩ := HL3.out rfl
      rw [show Value.string (bs ([] : List UInt8)) = .string ⟨#[]⟩ from rfl]
      go_wp2_with (first | (go_at_call 20; refine (HIN.out _).mono ?_; rintro e w7 ⟨rfl, hB7⟩; have HB7 := Lib.hid (bt HB6.out hB7); clear hB7) | (go_at_call 8; refine (HAL.out _ HB7.out).mono ?_; rintro e w8 ⟨rfl, hB8⟩; have HB8 := Lib.hid (bt HB7.out hB8); clear hB8))
      go_ret
      exact ⟨rfl, bt HB1.out HB8.out⟩
    | true =>
      obtain ⟨rfl, rfl⟩ := HL2.out rfl
      have t0 : (lx == lx) = true := by simp
      go_wp2_with (first | (go_at_call 20; refine (HIN.out _).mono ?_; rintro e w7 ⟨rfl, hB7⟩; have HB7 := Lib.hid (bt HB6.out hB7); have x0 := (HX6.out.below hB7).cell (k := 0) rfl; have x1 := (HX6.out.below hB7).cell (k := 1) rfl; clear hB7) | (go_at_call 21; refine (HRL.out _ HB7.out).mono ?_; rintro e w8 ⟨rfl, hB8⟩; have HB8 := Lib.hid (bt HB7.out hB8); clear hB8) | (go_at_call 8; refine (HAL.out _ HB8.out).mono ?_; rintro e w9 ⟨rfl, hB9⟩; have HB9 := Lib.hid (bt HB8.out hB9); clear hB9))
      go_ret
      exact ⟨rfl, bt HB1.out HB9.out⟩
  · have c0 : (100 : Int) < (s.length : Int) := by omega
    clear h100
    go_enter Tryd.func4, Tryd.ntmps4
    go_upto_region 1 with fail
    rw [← hW1]
    clear hW1
    go_wp2_with (go_at_call 8; refine (HAL.out _ (Below.refl _ _)).mono ?_; rintro e w2 ⟨rfl, hB2⟩; have HB2 := Lib.hid hB2; clear hB2)
    go_ret
    exact ⟨rfl, bt HB1.out HB2.out⟩
end Go.Proofs.YtbcjfppdeapamaaDoor
namespace Go.Proofs.YtbcjfppdeapamaaDoor
open Go.RowKit Oct
attribute [local irreducible] wpG
theorem putR_parts (t : List (List UInt8)) (c : List VI) : ∃ (A : List UInt8) (ea : Int), putR t c = .tuple #[.string (bs A), .int .i64 ea] ∧ A.length ≤ 1600 ∧ ((mayV t c = true ∧ A = putC t c ∧ ea = 0) ∨ (mayV t c = false ∧ A = [] ∧ ea = 2)) := by
  by_cases h : mayV t c = true
  · exact ⟨putC t c, 0, by unfold putR; rw [if_pos h], (putC_len h).2, .inl ⟨h, rfl, rfl⟩⟩
  · exact ⟨[], 2, by unfold putR; rw [if_neg h], by simp, .inr ⟨by simpa using h, rfl, rfl⟩⟩
theorem readV_vi (s : List UInt8) : ∃ (x : VI) (er : Int), readV s = .tuple #[.agg #[.int .u8 (x.1.toNat : Int), .int .u8 (x.2.toNat : Int)], .int .i64 er] ∧ ((readC s = some x ∧ er = 0) ∨ (readC s = none ∧ er = 7)) := by
  cases h : readC s with
  | none => exact ⟨(0, 0), 7, by unfold readV; rw [h]; rfl, .inr ⟨rfl, rfl⟩⟩
  | some x => exact ⟨x, 0, by unfold readV; rw [h], .inl ⟨rfl, rfl⟩⟩
theorem rSameP_self (ta ca tb cb : Value) (t : List (List UInt8)) (c : List VI) (w : World) (ht : recS.Row w ta t) (hc : recIns.Row w ca c) (ht' : recS.Row w tb t) (hc' : recIns.Row w cb c) (hlt : t.length ≤ 140737488355328) (hlc : c.length ≤ 140737488355328) :
    Calls Tryd.prog 14 #[.agg #[ta, ca], .agg #[tb, cb]] w fun e w' => e = .returned (.bool true) ∧ Below w.heap.size w w' := by
  have h := rSameP_any ta ca tb cb t t c c w ht hc ht' hc' hlt hlc
  rwa [decide_eq_true ⟨rfl, rfl⟩] at h
theorem Put_yes {t : List (List UInt8)} {c : List VI} {s : List UInt8} (hg : getC s = some (t, c)) (tv cv : Value) (w : World) (ht : recS.Row w tv t) (hc : recIns.Row w cv c) :
    Calls Tryd.prog 11 #[.agg #[tv, cv]] w fun e w' => e = .returned (.tuple #[.string (bs s), .int .i64 0]) ∧ Below w.heap.size w w' := by
  obtain ⟨hm, hs⟩ := getC_sound hg
  obtain ⟨h1, h2, h3⟩ := mayV_parts hm
  have h := Put_any tv cv t c w ht hc (by omega) (by omega) (fun s hs => by have := h3 s hs; omega)
  unfold putR at h
  rwa [if_pos hm, hs] at h
set_option maxRecDepth 100000 in
set_option maxHeartbeats 32000000 in
theorem CodeBack_any (tpv cpv : Value) (tp : List (List UInt8)) (cp : List VI) (tqv cqv : Value) (tq : List (List UInt8)) (cq : List VI) (s : List UInt8) (x : VI) (t : List UInt8) (w : World) (hp : ProgR w tpv cpv tp cp) (hq : ProgR w tqv cqv tq cq)
    (hsl : s.length ≤ 140737488355328) (htl : t.length ≤ 140737488355328) (hG : GlobC w) :
    Calls Tryd.prog 5 #[.agg #[tpv, cpv], .agg #[tqv, cqv], .string (bs s), .agg #[.int .u8 (x.1.toNat : Int), .int .u8 (x.2.toNat : Int)], .string (bs t)] w fun e w' => e = .returned (.bool true) ∧ Below w.heap.size w w' := by
  obtain ⟨p1, p2, p3, p4, rfl, rfl⟩ := hp.sl
  obtain ⟨q1, q2, q3, q4, rfl, rfl⟩ := hq.sl
  have HP := Lib.hid (fun w' (hB : Below w.heap.size w w') => hp.below hB)
  have HQ := Lib.hid (fun w' (hB : Below w.heap.size w w') => hq.below hB)
  obtain ⟨W1, hW1⟩ : ∃ W1, W1 = ((w.alloc (.cells #[.slice p1 tp.length p2, .slice p3 cp.length p4] 25)).alloc (.cells #[.slice q1 tq.length q2, .slice q3 cq.length q4] 25)).alloc (.cells #[.int .u8 (x.1.toNat : Int), .int .u8 (x.2.toNat : Int)] 39) := ⟨_, rfl⟩
  have hb1 : Below w.heap.size w W1 := by rw [hW1]; exact bt (b_alloc _ _) (bt (b_alloc _ _) (b_alloc _ _))
  have hx : Blk W1 w.heap.size 25 [.slice p1 tp.length p2, .slice p3 cp.length p4] := by rw [hW1]; exact ((Blk.new w _ _).below (b_alloc _ _)).below (b_alloc _ _)
  have hy : Blk W1 (w.heap.size + 1) 25 [.slice q1 tq.length q2, .slice q3 cq.length q4] := by
    rw [hW1]
    have := Blk.new (w.alloc (.cells #[.slice p1 tp.length p2, .slice p3 cp.length p4] 25)) [.slice q1 tq.length q2, .slice q3 cq.length q4] 25
    rw [size_alV] at this
    exact this.below (b_alloc _ _)
  have hz : Blk W1 (w.heap.size + 2) 39 [.int .u8 (x.1.toNat : Int), .int .u8 (x.2.toNat : Int)] := by
    rw [hW1]
    have := Blk.new ((w.alloc (.cells #[.slice p1 tp.length p2, .slice p3 cp.length p4] 25)).alloc (.cells #[.slice q1 tq.length q2, .slice q3 cq.length q4] 25)) [.int .u8 (x.1.toNat : Int), .int .u8 (x.2.toNat : Int)] 39
    rw [size_alV, size_alV] at this
    exact this
  have HX := Lib.hid hx
  have HY := Lib.hid hy
  have HZ := Lib.hid hz
  have HB1 := Lib.hid hb1
  have x0 := hx.cell (k := 0) rfl
  have x1 := hx.cell (k := 1) rfl
  have y0 := hy.cell (k := 0) rfl
  have y1 := hy.cell (k := 1) rfl
  have HG1 := Lib.hid (hG.below hb1)
  have HAL := Lib.hid (fun w' (hB : Below W1.heap.size W1 w') => alive12_any w' (HG1.out.below hB))
  have HLP := Lib.hid (HP.out _ HB1.out).large
  have HLQ := Lib.hid (fun w' (hB : Below W1.heap.size W1 w') => (HQ.out w' (bt HB1.out hB)).large)
  clear hp hq hG hb1 hx hy hz
  have cs : (s.length : Int) ≤ 140737488355328 := by omega
  have ct : (t.length : Int) ≤ 140737488355328 := by omega
  by_cases hlp : largeV tp cp = true
  · rw [hlp] at HLP
    clear hlp
    go_enter Tryd.func5, Tryd.ntmps5
    go_upto_region 1 with fail
    rw [← hW1]
    clear hW1
    go_wp2_with (first | (go_at_call 8; refine (HAL.out _ HB2.out).mono ?_; rintro e w3 ⟨rfl, hB3⟩; have HB3 := Lib.hid (bt HB2.out hB3); clear hB3) | (go_at_call 7; refine HLP.out.mono ?_; rintro e w2 ⟨rfl, hB2⟩; have HB2 := Lib.hid hB2; clear hB2))
    go_ret
    exact ⟨rfl, bt HB1.out HB3.out⟩
  · have hlp : largeV tp cp = false := by simpa using hlp
    rw [hlp] at HLP
    by_cases hlq : largeV tq cq = true
    · rw [hlq] at HLQ
      clear hlp hlq
      go_enter Tryd.func5, Tryd.ntmps5
      go_upto_region 1 with fail
      rw [← hW1]
      clear hW1
      go_wp2_with (first | (go_at_call 8; refine (HAL.out _ HB3.out).mono ?_; rintro e w4 ⟨rfl, hB4⟩; have HB4 := Lib.hid (bt HB3.out hB4); clear hB4) | (go_at_call 7; refine (HLQ.out _ HB2.out).mono ?_; rintro e w3 ⟨rfl, hB3⟩; have HB3 := Lib.hid (bt HB2.out hB3); clear hB3) | (go_at_call 7; refine HLP.out.mono ?_; rintro e w2 ⟨rfl, hB2⟩; have HB2 := Lib.hid hB2; have y0 := (HY.out.below hB2).cell (k := 0) rfl; have y1 := (HY.out.below hB2).cell (k := 1) rfl; clear hB2))
      go_ret
      exact ⟨rfl, bt HB1.out HB4.out⟩
    · have hlq : largeV tq cq = false := by simpa using hlq
      rw [hlq] at HLQ
      by_cases h1 : s.length ≤ 4096 ∧ t.length ≤ 100
      · obtain ⟨h1, h2⟩ := h1
        have c0 : ¬ (4096 : Int) < (s.length : Int) := by omega
        have c1 : ¬ (100 : Int) < (t.length : Int) := by omega
        obtain ⟨b1, b2, b3⟩ := largeV_no hlp
        obtain ⟨b4, b5, b6⟩ := largeV_no hlq
        obtain ⟨A, ea, ha, hal, haa⟩ := putR_parts tp cp
        obtain ⟨B, eb, hb, hbl, hbb⟩ := putR_parts tq cq
        have HPA := Lib.hid (fun w' (hB : Below w.heap.size w w') => Put_any _ _ tp cp w' (HP.out _ hB).t (HP.out _ hB).c (by omega) (by omega) (fun s hs => by have := b3 s hs; omega))
        have HPB := Lib.hid (fun w' (hB : Below w.heap.size w w') => Put_any _ _ tq cq w' (HQ.out _ hB).t (HQ.out _ hB).c (by omega) (by omega) (fun s hs => by have := b6 s hs; omega))
        rw [ha] at HPA
        rw [hb] at HPB
        have HA := Lib.hid haa
        have HB := Lib.hid hbb
        have HSZ := Lib.hid (And.intro b1 (And.intro b2 (And.intro b4 b5)))
        clear hlp hlq ha hb haa hbb b1 b2 b3 b4 b5 b6
        go_enter Tryd.func5, Tryd.ntmps5
        go_upto_region 1 with fail
        rw [← hW1]
        clear hW1
        go_upto_region 3 with (first | (go_at_call 7; refine (HLQ.out _ HB2.out).mono ?_; rintro e w3 ⟨rfl, hB3⟩; have HB3 := Lib.hid (bt HB2.out hB3); have x0 := (HX.out.below HB3.out).cell (k := 0) rfl; have x1 := (HX.out.below HB3.out).cell (k := 1) rfl; clear hB3) | (go_at_call 7; refine HLP.out.mono ?_; rintro e w2 ⟨rfl, hB2⟩; have HB2 := Lib.hid hB2; have y0 := (HY.out.below hB2).cell (k := 0) rfl; have y1 := (HY.out.below hB2).cell (k := 1) rfl; clear hB2))
        clear HB2
        go_upto_region 5 with (first | (go_at_call 11; refine (HPB.out _ (bt HB1.out HB4.out)).mono ?_; rintro e w5 ⟨rfl, hB5⟩; have HB5 := Lib.hid (bt HB4.out hB5); clear hB5) | (go_at_call 11; refine (HPA.out _ (bt HB1.out HB3.out)).mono ?_; rintro e w4 ⟨rfl, hB4⟩; have HB4 := Lib.hid (bt HB3.out hB4); have y0 := (HY.out.below HB4.out).cell (k := 0) rfl; have y1 := (HY.out.below HB4.out).cell (k := 1) rfl; clear hB4))
        clear x0 x1 y0 y1 HB3 HB4
        go_upto_if 53 with fail
        go_cut [] (fun wx => Hid (Below W1.heap.size W1 wx))
        case first =>
          rcases HA.out with ⟨hm, hA, rfl⟩ | ⟨hm, hA, rfl⟩
          · have HGY := Lib.hid (fun w' => Get_yes (s := A) (by rw [hA]; exact getC_put hm) w' (by omega))
            clear hm hA
            go_upto_region 7 with (go_at_call 12; refine (HGY.out _).mono ?_; rintro e w6 ⟨⟨a1, n1, a2, n2, rfl, ht6, hc6⟩, hB6⟩; have HT6 := Lib.hid ht6; have HC6 := Lib.hid hc6; have HB6 := Lib.hid (bt HB5.out hB6); clear hB6 ht6 hc6)
            obtain ⟨W7, hW7⟩ : ∃ W, W = w6.alloc (.cells #[.slice a1 tp.length n1, .slice a2 cp.length n2] 25) := ⟨_, rfl⟩
            have hb7 : Below w6.heap.size w6 W7 := by rw [hW7]; exact b_alloc _ _
            have hy7 : Blk W7 w6.heap.size 25 [.slice a1 tp.length n1, .slice a2 cp.length n2] := by rw [hW7]; exact Blk.new w6 _ _
            rw [← hW7]
            obtain ⟨E, hE⟩ : ∃ E, E = w6.heap.size := ⟨_, rfl⟩
            rw [← hE] at hy7 ⊢
            have HB7 := Lib.hid (bt HB6.out hb7)
            have y0 := hy7.cell (k := 0) rfl
            have y1 := hy7.cell (k := 1) rfl
            have x0 := (HX.out.below HB7.out).cell (k := 0) rfl
            have x1 := (HX.out.below HB7.out).cell (k := 1) rfl
            have HSM := Lib.hid (rSameP_self _ _ _ _ tp cp W7 (HT6.out.below hb7) (HC6.out.below hb7) (HP.out _ (bt HB1.out HB7.out)).t (HP.out _ (bt HB1.out HB7.out)).c (by have := HSZ.out; omega) (by have := HSZ.out; omega))
            clear hy7 hb7 hW7 hE
            go_wp2_with (go_at_call 14; refine HSM.out.mono ?_; rintro e w8 ⟨rfl, hB8⟩; have HB8 := Lib.hid (bt HB7.out hB8); clear hB8)
            go_meet
            case rel => exact HB8
          · clear hm hA
            go_wp2_with fail
            go_meet
            case rel => exact HB5
        case rest =>
          have HBc := hcut
          clear hcut
          go_upto_region 9 with fail
          go_cut [81] (fun s wx => s = .bool false ∧ Hid (Below W1.heap.size W1 wx))
          case first =>
            rcases HA.out with ⟨hm, hA, rfl⟩ | ⟨hm, hA, rfl⟩
            · rcases HB.out with ⟨hn, hBB, rfl⟩ | ⟨hn, hBB, rfl⟩
              · have hd : (A == B) = decide (tp = tq ∧ cp = cq) := by
                  by_cases hc : tp = tq ∧ cp = cq
                  · rw [decide_eq_true hc, hA, hBB, hc.1, hc.2]; simp
                  · rw [decide_eq_false hc, beq_eq_false_iff_ne, hA, hBB]
                    exact fun h => hc (putC_inj hm hn h)
                have hsm := rSameP_any _ _ _ _ tp tq cp cq wc (HP.out _ (bt HB1.out HBc.out)).t (HP.out _ (bt HB1.out HBc.out)).c (HQ.out _ (bt HB1.out HBc.out)).t (HQ.out _ (bt HB1.out HBc.out)).c (by have := HSZ.out; omega) (by have := HSZ.out; omega)
                obtain ⟨d, hdd⟩ : ∃ d, d = decide (tp = tq ∧ cp = cq) := ⟨_, rfl⟩
                rw [← hdd] at hd hsm
                have HSM := Lib.hid hsm
                have x0 := (HX.out.below HBc.out).cell (k := 0) rfl
                have x1 := (HX.out.below HBc.out).cell (k := 1) rfl
                have y0 := (HY.out.below HBc.out).cell (k := 0) rfl
                have y1 := (HY.out.below HBc.out).cell (k := 1) rfl
                clear hm hn hA hBB hdd hsm
                go_wp2_with (go_at_call 14; refine HSM.out.mono ?_; rintro e w8 ⟨rfl, hB8⟩; have HB8 := Lib.hid (bt HBc.out hB8); clear hB8)
                go_meet
                case rel => exact ⟨by simp, HB8⟩
              · clear hm hA hn hBB
                go_wp2_with fail
                go_meet
                case rel => exact ⟨rfl, HBc⟩
            · clear hm hA
              go_wp2_with fail
              go_meet
              case rel => exact ⟨rfl, HBc⟩
          case rest =>
            clear HBc
            obtain ⟨rfl, HBc⟩ := hcut
            have HGS := Lib.hid (fun w' => GetU_any s w' (by omega))
            go_upto_region 12 with (go_at_call 12; refine (HGS.out _).mono ?_; rintro e w6 ⟨⟨t6, c6, a1, n1, a2, n2, e6, rfl, hk6, ht6, hc6⟩, hB6⟩; have HK6 := Lib.hid hk6; have HT6 := Lib.hid ht6; have HC6 := Lib.hid hc6; have HB6 := Lib.hid (bt HBc.out hB6); clear hB6 ht6 hc6 hk6)
            obtain ⟨W7, hW7⟩ : ∃ W, W = w6.alloc (.cells #[.slice a1 t6.length n1, .slice a2 c6.length n2] 25) := ⟨_, rfl⟩
            have hb7 : Below w6.heap.size w6 W7 := by rw [hW7]; exact b_alloc _ _
            have hy7 : Blk W7 w6.heap.size 25 [.slice a1 t6.length n1, .slice a2 c6.length n2] := by rw [hW7]; exact Blk.new w6 _ _
            rw [← hW7]
            obtain ⟨E, hE⟩ : ∃ E, E = w6.heap.size := ⟨_, rfl⟩
            rw [← hE] at hy7 ⊢
            have HB7 := Lib.hid (bt HB6.out hb7)
            have y0 := hy7.cell (k := 0) rfl
            have y1 := hy7.cell (k := 1) rfl
            have HT7 := Lib.hid (HT6.out.below hb7)
            have HC7 := Lib.hid (HC6.out.below hb7)
            clear hy7 hb7 hW7 hE
            go_upto_if 88 with fail
            go_cut [] (fun wx => Hid (Below W1.heap.size W1 wx))
            case first =>
              rcases HK6.out with ⟨hg, rfl⟩ | ⟨hg, rfl, rfl, rfl⟩
              · have HPU := Lib.hid (Put_yes hg _ _ W7 HT7.out HC7.out)
                have tss : (s != s) = false := by simp
                clear hg
                go_wp2_with (go_at_call 11; refine HPU.out.mono ?_; rintro e w8 ⟨rfl, hB8⟩; have HB8 := Lib.hid (bt HB7.out hB8); clear hB8)
                go_meet
                case rel => exact HB8
              · go_wp2_with fail
                go_meet
                case rel => exact HB7
            case rest =>
              clear HBc
              have HBc := hcut
              clear hcut
              have hlp := lineR_parts x
              obtain ⟨l, h6, hl, hll, hlno⟩ := hlp
              have HLN := Lib.hid (fun w' (hB : Below W1.heap.size W1 w') => Line_any x w' (HG1.out.below hB))
              rw [hl] at HLN
              have hlen : l.length ≤ 9 := by
                cases hq : insOk x with
                | true => rw [(hll hq).1]; exact lineC_len x
                | false => rw [(hlno hq).1]; simp
              obtain ⟨z, h7, hz, hzz⟩ := readV_vi l
              have HRD := Lib.hid (fun w' (hB : Below W1.heap.size W1 w') => Read_any l w' (HG1.out.below hB) (by omega))
              rw [hz] at HRD
              have HLL := Lib.hid hll
              have HLNO := Lib.hid hlno
              have HZZ := Lib.hid hzz
              clear hl hll hlno hz hzz
              have x0 := (HZ.out.below HBc.out).cell (k := 0) rfl
              have x1 := (HZ.out.below HBc.out).cell (k := 1) rfl
              go_upto_region 17 with (go_at_call 17; refine (HLN.out _ HBc.out).mono ?_; rintro e w8 ⟨rfl, hB8⟩; have HB8 := Lib.hid (bt HBc.out hB8); clear hB8)
              go_upto_region 18 with (go_at_call 18; refine (HRD.out _ HB8.out).mono ?_; rintro e w9 ⟨rfl, hB9⟩; have HB9 := Lib.hid (bt HB8.out hB9); clear hB9)
              obtain ⟨W9, hW9⟩ : ∃ W, W = w9.alloc (.cells #[.int .u8 (z.1.toNat : Int), .int .u8 (z.2.toNat : Int)] 39) := ⟨_, rfl⟩
              have hb9 : Below w9.heap.size w9 W9 := by rw [hW9]; exact b_alloc _ _
              have hy9 : Blk W9 w9.heap.size 39 [.int .u8 (z.1.toNat : Int), .int .u8 (z.2.toNat : Int)] := by rw [hW9]; exact Blk.new w9 _ _
              rw [← hW9]
              obtain ⟨D, hD⟩ : ∃ D, D = w9.heap.size := ⟨_, rfl⟩
              have hDW : W1.heap.size ≤ D := by rw [hD]; exact HB9.out.size
              rw [← hD] at hy9 ⊢
              have HB10 := Lib.hid (bt HB9.out hb9)
              have y0 := hy9.cell (k := 0) rfl
              have y1 := hy9.cell (k := 1) rfl
              have HYD := Lib.hid hy9
              clear x0 x1
              have x0 := (HZ.out.below HB10.out).cell (k := 0) rfl
              have x1 := (HZ.out.below HB10.out).cell (k := 1) rfl
              clear hy9 hb9 hW9 hD
              go_cut [121] (fun s wx => s = .bool false ∧ wx = W9)
              case first =>
                cases hq : insOk x with
                | true =>
                  obtain ⟨rfl, rfl⟩ := HLL.out hq
                  rcases HZZ.out with ⟨hr, rfl⟩ | ⟨hr, rfl⟩
                  · rw [readC_line hq] at hr
                    obtain rfl := Option.some.inj hr
                    clear hr hq
                    go_wp2_with fail
                    go_meet
                    case rel => exact ⟨by simp, rfl⟩
                  · rw [readC_line hq] at hr
                    cases hr
                | false =>
                  obtain ⟨rfl, rfl⟩ := HLNO.out hq
                  clear hq
                  go_wp2_with fail
                  go_meet
                  case rel => exact ⟨by simp, rfl⟩
              case rest =>
                obtain ⟨rfl, rfl⟩ := hcut
                clear x0 x1 y0 y1 HZZ HLL HLNO HRD HLN
                obtain ⟨z2, h8, hz2, hzz2⟩ := readV_vi t
                have HRD := Lib.hid (fun w' (hB : Below W1.heap.size W1 w') => Read_any t w' (HG1.out.below hB) (by omega))
                rw [hz2] at HRD
                have HLN := Lib.hid (fun w' (hB : Below W1.heap.size W1 w') => Line_any z2 w' (HG1.out.below hB))
                go_upto_region 21 with (go_at_call 18; refine (HRD.out _ HB10.out).mono ?_; rintro e wb ⟨rfl, hBb⟩; have HYB := Lib.hid (HYD.out.below hBb); have HBb := Lib.hid (bt HB10.out hBb); have f0 := HYB.out.free (k := 0) (by simp); have f1 := HYB.out.free (k := 1) (by simp); have y0 := HYB.out.cell (k := 0) rfl; have y1 := HYB.out.cell (k := 1) rfl; clear hBb)
                obtain ⟨W3, hW3⟩ : ∃ W, W = (wb.setCell ⟨D, 0, none⟩ (.int .u8 (z2.1.toNat : Int))).setCell ⟨D, 1, none⟩ (.int .u8 (z2.2.toNat : Int)) := ⟨_, rfl⟩
                obtain ⟨hyc, hcc⟩ := ins_store HYB.out (.int .u8 (z2.1.toNat : Int)) (.int .u8 (z2.2.toNat : Int))
                rw [← hW3] at hyc hcc ⊢
                have HB13 := Lib.hid (HBb.out.trans (hcc.below (fun j (hj : j = D) => by omega) HBb.out.size))
                clear f0 f1 y0 y1 hW3
                have y0 := hyc.cell (k := 0) rfl
                have y1 := hyc.cell (k := 1) rfl
                clear hyc hcc
                rcases hzz2 with ⟨hr, rfl⟩ | ⟨hr, rfl⟩
                · obtain ⟨hok, hle⟩ := readC_sound hr
                  unfold lineR at HLN
                  rw [if_pos hok, hle] at HLN
                  have ttt : (t == t) = true := by simp
                  clear hr hok hle hz2
                  go_wp2_with (first | (go_at_call 8; refine (HAL.out _ HBd.out).mono ?_; rintro e we ⟨rfl, hBe⟩; have HBe := Lib.hid (bt HBd.out hBe); clear hBe) | (go_at_call 17; refine (HLN.out _ HB13.out).mono ?_; rintro e wd ⟨rfl, hBd⟩; have HBd := Lib.hid (bt HB13.out hBd); clear hBd))
                  go_ret
                  exact ⟨rfl, bt HB1.out HBe.out⟩
                · obtain ⟨l2, ex2, hl2, -, -⟩ := lineR_parts z2
                  rw [hl2] at HLN
                  clear hr hl2 hz2
                  go_wp2_with (first | (go_at_call 8; refine (HAL.out _ HBd.out).mono ?_; rintro e we ⟨rfl, hBe⟩; have HBe := Lib.hid (bt HBd.out hBe); clear hBe) | (go_at_call 17; refine (HLN.out _ HB13.out).mono ?_; rintro e wd ⟨rfl, hBd⟩; have HBd := Lib.hid (bt HB13.out hBd); clear hBd))
                  go_ret
                  exact ⟨rfl, bt HB1.out HBe.out⟩
      · by_cases h2 : s.length ≤ 4096
        · have c0 : ¬ (4096 : Int) < (s.length : Int) := by omega
          have c1 : (100 : Int) < (t.length : Int) := by omega
          clear h1 h2 hlp hlq
          go_enter Tryd.func5, Tryd.ntmps5
          go_upto_region 1 with fail
          rw [← hW1]
          clear hW1
          go_wp2_with (first | (go_at_call 8; refine (HAL.out _ HB3.out).mono ?_; rintro e w4 ⟨rfl, hB4⟩; have HB4 := Lib.hid (bt HB3.out hB4); clear hB4) | (go_at_call 7; refine (HLQ.out _ HB2.out).mono ?_; rintro e w3 ⟨rfl, hB3⟩; have HB3 := Lib.hid (bt HB2.out hB3); clear hB3) | (go_at_call 7; refine HLP.out.mono ?_; rintro e w2 ⟨rfl, hB2⟩; have HB2 := Lib.hid hB2; have y0 := (HY.out.below hB2).cell (k := 0) rfl; have y1 := (HY.out.below hB2).cell (k := 1) rfl; clear hB2))
          go_ret
          exact ⟨rfl, bt HB1.out HB4.out⟩
        · have c0 : (4096 : Int) < (s.length : Int) := by omega
          clear h1 h2 hlp hlq
          go_enter Tryd.func5, Tryd.ntmps5
          go_upto_region 1 with fail
          rw [← hW1]
          clear hW1
          go_wp2_with (first | (go_at_call 8; refine (HAL.out _ HB3.out).mono ?_; rintro e w4 ⟨rfl, hB4⟩; have HB4 := Lib.hid (bt HB3.out hB4); clear hB4) | (go_at_call 7; refine (HLQ.out _ HB2.out).mono ?_; rintro e w3 ⟨rfl, hB3⟩; have HB3 := Lib.hid (bt HB2.out hB3); clear hB3) | (go_at_call 7; refine HLP.out.mono ?_; rintro e w2 ⟨rfl, hB2⟩; have HB2 := Lib.hid hB2; have y0 := (HY.out.below hB2).cell (k := 0) rfl; have y1 := (HY.out.below hB2).cell (k := 1) rfl; clear hB2))
          go_ret
          exact ⟨rfl, bt HB1.out HB4.out⟩
end Go.Proofs.YtbcjfppdeapamaaDoor
namespace Go.Proofs.YtbcjfppdeapamaaDoor
open Go.RowKit Oct
attribute [local irreducible] wpG
theorem GetR_U {w w' : World} {s : List UInt8} {e : Ending} (hR : GetR w w' s e) : GetUR s e w' := by
  unfold GetR at hR
  cases hg : getC s with
  | none =>
    rw [hg] at hR
    subst hR
    exact ⟨[], [], none, 0, none, 0, 7, rfl, .inr ⟨hg, rfl, rfl, rfl⟩, Rec.Row.nil _, Rec.Row.nil _⟩
  | some p =>
    obtain ⟨t, c⟩ := p
    rw [hg] at hR
    obtain ⟨tv, cv, rfl, ht, hc⟩ := hR
    obtain ⟨a1, n1, rfl⟩ := owns_slice ht
    obtain ⟨a2, n2, rfl⟩ := owns_slice hc
    exact ⟨t, c, a1, n1, a2, n2, 0, rfl, .inl ⟨hg, rfl⟩, ht.row, hc.row⟩
theorem GetK_eq {s : List UInt8} {t t' : List (List UInt8)} {c c' : List VI} {e e' : Int} (h : GetK s t c e) (h' : GetK s t' c' e') : t' = t ∧ c' = c ∧ e' = e := by
  rcases h with ⟨h1, rfl⟩ | ⟨h1, rfl, rfl, rfl⟩ <;> rcases h' with ⟨h2, rfl⟩ | ⟨h2, rfl, rfl, rfl⟩
  · rw [h1] at h2; cases h2; exact ⟨rfl, rfl, rfl⟩
  · rw [h1] at h2; cases h2
  · rw [h1] at h2; cases h2
  · exact ⟨rfl, rfl, rfl⟩
theorem GetK_len {s : List UInt8} {t : List (List UInt8)} {c : List VI} {e : Int} (h : GetK s t c e) : t.length ≤ 16 ∧ c.length ≤ 256 := by
  rcases h with ⟨h1, rfl⟩ | ⟨h1, rfl, rfl, rfl⟩
  · obtain ⟨h2, h3, -⟩ := mayV_parts (getC_sound h1).1
    exact ⟨h2, h3⟩
  · simp
theorem GetU2_any (s : List UInt8) (w : World) (hs : s.length ≤ 10000) : Calls Tryd.prog 13 #[.string (bs s)] w fun e w' => GetUR s e w' ∧ Below w.heap.size w w' :=
  (rGet_any s w hs).mono fun _ _ ⟨hR, hB⟩ => ⟨GetR_U hR, hB⟩
set_option maxRecDepth 100000 in
set_option maxHeartbeats 32000000 in
theorem CodeTells_any (tpv cpv : Value) (tp : List (List UInt8)) (cp : List VI) (s : List UInt8) (w : World) (hp : ProgR w tpv cpv tp cp) (hsl : s.length ≤ 140737488355328) (hG : GlobC w) :
    Calls Tryd.prog 3 #[.agg #[tpv, cpv], .string (bs s)] w fun e w' => e = .returned (.bool true) ∧ Below w.heap.size w w' := by
  obtain ⟨p1, p2, p3, p4, rfl, rfl⟩ := hp.sl
  have HP := Lib.hid (fun w' (hB : Below w.heap.size w w') => hp.below hB)
  obtain ⟨W1, hW1⟩ : ∃ W1, W1 = w.alloc (.cells #[.slice p1 tp.length p2, .slice p3 cp.length p4] 25) := ⟨_, rfl⟩
  have hb1 : Below w.heap.size w W1 := by rw [hW1]; exact b_alloc _ _
  have hx : Blk W1 w.heap.size 25 [.slice p1 tp.length p2, .slice p3 cp.length p4] := by rw [hW1]; exact Blk.new w _ _
  have HX := Lib.hid hx
  have HB1 := Lib.hid hb1
  have x0 := hx.cell (k := 0) rfl
  have x1 := hx.cell (k := 1) rfl
  have HG1 := Lib.hid (hG.below hb1)
  have HAL := Lib.hid (fun w' (hB : Below W1.heap.size W1 w') => alive12_any w' (HG1.out.below hB))
  have HLG := Lib.hid (HP.out _ HB1.out).large
  clear hp hG hb1 hx
  have cs : (s.length : Int) ≤ 140737488355328 := by omega
  by_cases hlp : largeV tp cp = true
  · rw [hlp] at HLG
    clear hlp
    go_enter Tryd.func3, Tryd.ntmps3
    go_upto_region 1 with fail
    rw [← hW1]
    clear hW1
    go_wp2_with (first | (go_at_call 8; refine (HAL.out _ HB2.out).mono ?_; rintro e w3 ⟨rfl, hB3⟩; have HB3 := Lib.hid (bt HB2.out hB3); clear hB3) | (go_at_call 7; refine HLG.out.mono ?_; rintro e w2 ⟨rfl, hB2⟩; have HB2 := Lib.hid hB2; clear hB2))
    go_ret
    exact ⟨rfl, bt HB1.out HB3.out⟩
  · have hlp : largeV tp cp = false := by simpa using hlp
    obtain ⟨b1, b2, b3⟩ := largeV_no hlp
    rw [hlp] at HLG
    by_cases hm1 : s.length ≤ 4096
    · have c0 : ¬ (4096 : Int) < (s.length : Int) := by omega
      have HPT := Lib.hid (fun tv cv w' (h1 : recS.Row w' tv tp) (h2 : recIns.Row w' cv cp) => Put_any tv cv tp cp w' h1 h2 (by omega) (by omega) (fun s hs => by have := b3 s hs; omega))
      have HCK := Lib.hid (fun tv cv w' (h1 : recS.Row w' tv tp) (h2 : recIns.Row w' cv cp) => CCheck_any tv cv tp cp w' h1 h2 (by omega) (by omega) (fun s hs => by have := b3 s hs; omega))
      have HMY := Lib.hid (fun w' (hB : Below w.heap.size w w') => rMay12_any _ _ tp cp w' (HP.out _ hB).t (HP.out _ hB).c (by omega) (by omega) (fun s hs => by have := b3 s hs; omega))
      have HCPY := Lib.hid (fun w' (hB : Below w.heap.size w w') => Copy_any _ _ tp cp w' (HP.out _ hB).t (HP.out _ hB).c (by omega) (by omega))
      have HGT := Lib.hid (fun w' => GetU_any s w' (by omega))
      have HRG := Lib.hid (fun w' => GetU2_any s w' (by omega))
      have HRP := Lib.hid (fun w' (hB : Below w.heap.size w w') (hm : mayV tp cp = true) => rPut_any _ _ tp cp w' (HP.out _ hB).t (HP.out _ hB).c hm)
      have HSZ := Lib.hid (And.intro b1 b2)
      obtain ⟨A, ea, ha, hal, haa⟩ := putR_parts tp cp
      have hck : (if mayV tp cp = true then (0 : Int) else 2) = ea := by
        rcases haa with ⟨hm, -, rfl⟩ | ⟨hm, -, rfl⟩
        · rw [if_pos hm]
        · rw [hm]; rfl
      rw [ha] at HPT
      rw [hck] at HCK
      have HA := Lib.hid haa
      clear hlp b1 b2 b3 hck ha haa
      go_enter Tryd.func3, Tryd.ntmps3
      go_upto_region 1 with fail
      rw [← hW1]
      clear hW1
      go_upto_region 3 with (go_at_call 7; refine HLG.out.mono ?_; rintro e w2 ⟨rfl, hB2⟩; have HB2 := Lib.hid hB2; have x0 := (HX.out.below hB2).cell (k := 0) rfl; have x1 := (HX.out.below hB2).cell (k := 1) rfl; clear hB2)
      go_upto_region 4 with (go_at_call 9; refine (HCPY.out _ (bt HB1.out HB2.out)).mono ?_; rintro e w3 ⟨⟨tv3, cv3, rfl, ht3, hc3⟩, hB3⟩; obtain ⟨a3, n3, rfl⟩ := owns_slice ht3; obtain ⟨a4, n4, rfl⟩ := owns_slice hc3; have HT3 := Lib.hid ht3.row; have HC3 := Lib.hid hc3.row; have HB3 := Lib.hid (bt HB2.out hB3); clear hB3 ht3 hc3)
      obtain ⟨W4, hW4⟩ : ∃ W, W = w3.alloc (.cells #[.slice a3 tp.length n3, .slice a4 cp.length n4] 25) := ⟨_, rfl⟩
      have hb4 : Below w3.heap.size w3 W4 := by rw [hW4]; exact b_alloc _ _
      have ho4 : Blk W4 w3.heap.size 25 [.slice a3 tp.length n3, .slice a4 cp.length n4] := by rw [hW4]; exact Blk.new w3 _ _
      rw [← hW4]
      obtain ⟨D, hD⟩ : ∃ D, D = w3.heap.size := ⟨_, rfl⟩
      rw [← hD] at ho4 ⊢
      have HO := Lib.hid ho4
      have HB4 := Lib.hid (bt HB3.out hb4)
      have HT4 := Lib.hid (HT3.out.below hb4)
      have HC4 := Lib.hid (HC3.out.below hb4)
      clear hb4 ho4 hW4 hD HT3 HC3 x0 x1
      have o0 := HO.out.cell (k := 0) rfl
      have o1 := HO.out.cell (k := 1) rfl
      go_upto_region 5 with (go_at_call 10; refine (HCK.out _ _ _ HT4.out HC4.out).mono ?_; rintro e w5 ⟨rfl, hB5⟩; have HO5 := Lib.hid (HO.out.below hB5); have HT5 := Lib.hid (HT4.out.below hB5); have HC5 := Lib.hid (HC4.out.below hB5); have HB5 := Lib.hid (bt HB4.out hB5); have o0 := HO5.out.cell (k := 0) rfl; have o1 := HO5.out.cell (k := 1) rfl; clear hB5)
      go_upto_region 6 with (go_at_call 11; refine (HPT.out _ _ _ HT5.out HC5.out).mono ?_; rintro e w6 ⟨rfl, hB6⟩; have HO6 := Lib.hid (HO5.out.below hB6); have HT6 := Lib.hid (HT5.out.below hB6); have HC6 := Lib.hid (HC5.out.below hB6); have HB6 := Lib.hid (bt HB5.out hB6); clear hB6)
      clear o0 o1 HO HT4 HC4 HO5 HT5 HC5
      go_upto_region 7 with (go_at_call 12; refine (HGT.out _).mono ?_; rintro e w7 ⟨⟨t7, c7, a7, n7, a8, n8, e7, rfl, hk7, ht7, hc7⟩, hB7⟩; have HK7 := Lib.hid hk7; have HT7 := Lib.hid ht7; have HC7 := Lib.hid hc7; have HO7 := Lib.hid (HO6.out.below hB7); have HTO := Lib.hid (HT6.out.below hB7); have HCO := Lib.hid (HC6.out.below hB7); have HB7 := Lib.hid (bt HB6.out hB7); clear hB7 hk7 ht7 hc7)
      obtain ⟨W8, hW8⟩ : ∃ W, W = w7.alloc (.cells #[.slice a7 t7.length n7, .slice a8 c7.length n8] 25) := ⟨_, rfl⟩
      have hb8 : Below w7.heap.size w7 W8 := by rw [hW8]; exact b_alloc _ _
      have hy8 : Blk W8 w7.heap.size 25 [.slice a7 t7.length n7, .slice a8 c7.length n8] := by rw [hW8]; exact Blk.new w7 _ _
      rw [← hW8]
      obtain ⟨E, hE⟩ : ∃ E, E = w7.heap.size := ⟨_, rfl⟩
      rw [← hE] at hy8 ⊢
      have HY := Lib.hid hy8
      have HB8 := Lib.hid (bt HB7.out hb8)
      have HT8 := Lib.hid (HT7.out.below hb8)
      have HC8 := Lib.hid (HC7.out.below hb8)
      have HO8 := Lib.hid (HO7.out.below hb8)
      have HTO8 := Lib.hid (HTO.out.below hb8)
      have HCO8 := Lib.hid (HCO.out.below hb8)
      clear hb8 hy8 hW8 hE HT7 HC7 HO7 HTO HCO HO6 HT6 HC6
      go_upto_region 8 with (go_at_call 13; refine (HRG.out _).mono ?_; rintro e w9 ⟨⟨t9, c9, a9, n9, a0, n0, e9, rfl, hk9, ht9, hc9⟩, hB9⟩; obtain ⟨rfl, rfl, rfl⟩ := GetK_eq HK7.out hk9; have HT9 := Lib.hid ht9; have HC9 := Lib.hid hc9; have HO9 := Lib.hid (HO8.out.below hB9); have HTO9 := Lib.hid (HTO8.out.below hB9); have HCO9 := Lib.hid (HCO8.out.below hB9); have HY9 := Lib.hid (HY.out.below hB9); have HT89 := Lib.hid (HT8.out.below hB9); have HC89 := Lib.hid (HC8.out.below hB9); have HB9 := Lib.hid (bt HB8.out hB9); clear hB9 hk9 ht9 hc9)
      obtain ⟨W0, hW0⟩ : ∃ W, W = w9.alloc (.cells #[.slice a9 t9.length n9, .slice a0 c9.length n0] 25) := ⟨_, rfl⟩
      have hb0 : Below w9.heap.size w9 W0 := by rw [hW0]; exact b_alloc _ _
      have hz0 : Blk W0 w9.heap.size 25 [.slice a9 t9.length n9, .slice a0 c9.length n0] := by rw [hW0]; exact Blk.new w9 _ _
      rw [← hW0]
      obtain ⟨G, hG⟩ : ∃ E, E = w9.heap.size := ⟨_, rfl⟩
      rw [← hG] at hz0 ⊢
      have HB0 := Lib.hid (bt HB9.out hb0)
      obtain ⟨k1, k2⟩ := GetK_len HK7.out
      have HS1 := Lib.hid (rSameP_self _ _ _ _ tp cp W0 (HTO9.out.below hb0) (HCO9.out.below hb0) (HP.out _ (bt HB1.out HB0.out)).t (HP.out _ (bt HB1.out HB0.out)).c (by have := HSZ.out; omega) (by have := HSZ.out; omega))
      have HS2 := Lib.hid (fun w' (hB : Below W0.heap.size W0 w') => rSameP_self _ _ _ _ t9 c9 w' ((HT89.out.below hb0).below hB) ((HC89.out.below hb0).below hB) ((HT9.out.below hb0).below hB) ((HC9.out.below hb0).below hB) (by omega) (by omega))
      have HYW := Lib.hid (HY9.out.below hb0)
      have HZW := Lib.hid hz0
      have o0 := (HO9.out.below hb0).cell (k := 0) rfl
      have o1 := (HO9.out.below hb0).cell (k := 1) rfl
      have x0 := (HX.out.below HB0.out).cell (k := 0) rfl
      have x1 := (HX.out.below HB0.out).cell (k := 1) rfl
      clear hb0 hz0 hW0 hG k1 k2
      go_upto_region 10 with (first | (go_at_call 14; refine (HS2.out _ HBs.out).mono ?_; rintro e wb ⟨rfl, hBb⟩; have HBb := Lib.hid (bt HBa.out hBb); clear hBb) | (go_at_call 14; refine HS1.out.mono ?_; rintro e wa ⟨rfl, hBa⟩; have HBa := Lib.hid (bt HB0.out hBa); have HBs := Lib.hid hBa; have y0 := (HYW.out.below hBa).cell (k := 0) rfl; have y1 := (HYW.out.below hBa).cell (k := 1) rfl; have z0 := (HZW.out.below hBa).cell (k := 0) rfl; have z1 := (HZW.out.below hBa).cell (k := 1) rfl; clear hBa))
      clear x0 x1 o0 o1 y0 y1 z0 z1
      have x0 := (HX.out.below HBb.out).cell (k := 0) rfl
      have x1 := (HX.out.below HBb.out).cell (k := 1) rfl
      rcases HA.out with ⟨hm, hA, rfl⟩ | ⟨hm, hA, rfl⟩
      · have HMB := HMY.out _ (bt HB1.out HBb.out)
        rw [hm] at HMB
        have HMC := Lib.hid HMB
        have HRR := Lib.hid (fun w' (hB : Below w.heap.size w w') => HRP.out w' hB hm)
        rw [← hA] at HRR
        have taa : (A == A) = true := by simp
        clear hm hA HMB
        go_wp2_with (first | (go_at_call 8; refine (HAL.out _ HBd.out).mono ?_; rintro e we ⟨rfl, hBe⟩; have HBe := Lib.hid (bt HBd.out hBe); clear hBe) | (go_at_call 16; refine (HRR.out _ (bt HB1.out HBc.out)).mono ?_; rintro e wd ⟨rfl, hBd⟩; have HBd := Lib.hid (bt HBc.out hBd); clear hBd) | (go_at_call 15; refine HMC.out.mono ?_; rintro e wc ⟨rfl, hBc⟩; have HBc := Lib.hid (bt HBb.out hBc); have x0 := (HX.out.below HBc.out).cell (k := 0) rfl; have x1 := (HX.out.below HBc.out).cell (k := 1) rfl; clear hBc))
        go_ret
        exact ⟨rfl, bt HB1.out HBe.out⟩
      · have HMB := HMY.out _ (bt HB1.out HBb.out)
        rw [hm] at HMB
        have HMC := Lib.hid HMB
        subst hA
        clear hm HMB
        rw [show Value.string (bs ([] : List UInt8)) = .string ⟨#[]⟩ from rfl]
        go_wp2_with (first | (go_at_call 8; refine (HAL.out _ HBc.out).mono ?_; rintro e we ⟨rfl, hBe⟩; have HBe := Lib.hid (bt HBc.out hBe); clear hBe) | (go_at_call 15; refine HMC.out.mono ?_; rintro e wc ⟨rfl, hBc⟩; have HBc := Lib.hid (bt HBb.out hBc); clear hBc))
        go_ret
        exact ⟨rfl, bt HB1.out HBe.out⟩
    · have c0 : (4096 : Int) < (s.length : Int) := by omega
      clear hlp b1 b2 b3 hm1
      go_enter Tryd.func3, Tryd.ntmps3
      go_upto_region 1 with fail
      rw [← hW1]
      clear hW1
      go_wp2_with (first | (go_at_call 8; refine (HAL.out _ HB2.out).mono ?_; rintro e w3 ⟨rfl, hB3⟩; have HB3 := Lib.hid (bt HB2.out hB3); clear hB3) | (go_at_call 7; refine HLG.out.mono ?_; rintro e w2 ⟨rfl, hB2⟩; have HB2 := Lib.hid hB2; clear hB2))
      go_ret
      exact ⟨rfl, bt HB1.out HB3.out⟩
end Go.Proofs.YtbcjfppdeapamaaDoor
namespace Go.Proofs.YtbcjfppdeapamaaDoor
open Go.ChangeShapes Go.WideShapes Go.ChangeAt Go.RowKit Oct
open Go.ChangeMaps (open_string shut_string)

theorem u64_nat {a : Int} (h : (Lit.int .u64 a).wf = true) : ∃ n : Nat, a = (n : Int) ∧ n < 18446744073709551616 := by
  have h2 : 0 ≤ a ∧ a < 18446744073709551616 := by
    have := bounds_u64 h; omega
  exact ⟨a.toNat, by omega, by omega⟩

section
variable {P : Program} {H : Type} {enc : TypeId × Value → H} {W : World} {base : Nat}
theorem open_str {t j : Nat} {v : Value} {d : DataW H} {ps : List MemPlace} {ts : List TypeId} {ds : List (DataW H)} (ht : P.underlying t = some .string) (hv : Value.okWide P W .any base t v)
    (h : DataW.Trod enc P W 0 (fun _ => true) true t v d ps) (hsz : (DataW.weightsEach P ts ds).all (· ≤ reachBytes) = true) (hj : ts[j]? = some t) (hd : ds[j]? = some d) :
    ∃ l : List UInt8, v = .string (bs l) ∧ l.length ≤ 140737488355328 := by
  obtain ⟨s, rfl, rfl, _, _⟩ := open_string ht hv h
  refine ⟨s.data.toList, by rw [bs_of], ?_⟩
  have := sized_string hsz hj hd
  have h2 := reachBytes_lt
  omega

theorem weights_strs (e : TypeId) : ∀ (ss : List ByteArray) (s : ByteArray), s ∈ ss → s.data.toList.length ∈ DataW.weightsAll (H := H) P e (strs ss)
  | [], _, h => by simp at h
  | x :: ss, s, h => by
    have hx : strs (H := H) (x :: ss) = DataW.lit (.string x.data.toList) :: strs ss := rfl
    rw [hx, DataW.weightsAll]
    rcases List.mem_cons.1 h with rfl | h
    · simp [DataW.weights]
    · exact List.mem_append.2 (.inr (weights_strs e ss s h))
theorem add_cell {w : World} {a : Addr} {i : Nat} {u : Value} (h : w.cell? (a.add i) = some u) : a.add i = ⟨a.block, a.off + i, none⟩ := by
  unfold Addr.add at h ⊢
  split
  · rename_i hi
    rw [if_pos hi] at h
    subst hi
    cases a with
    | mk b o sp =>
      cases sp with
      | none => rfl
      | some x => exfalso; revert h; simp only [World.cell?]; split <;> simp
  · rfl
theorem open_texts {t e j : Nat} {v : Value} {d : DataW H} {ps : List MemPlace} {ts : List TypeId} {ds : List (DataW H)} (ht : P.underlying t = some (.slice e)) (he : P.underlying e = some .string) (hc : P.cellsOf e = 1) (hby : P.bytesOf e = 16)
    (hv : Value.okWide P W .any base t v) (h : DataW.Trod enc P W 0 (fun _ => true) true t v d ps) (hsz : (DataW.weightsEach P ts ds).all (· ≤ reachBytes) = true) (hj : ts[j]? = some t) (hd : ds[j]? = some d) :
    ∃ r : List (List UInt8), Reads W v r.length (tcells r) ∧ r.length ≤ 140737488355328 ∧ ∀ l ∈ r, l.length ≤ 140737488355328 := by
  have h47 := reachBytes_lt
  obtain ⟨a0, len, cap, rfl⟩ := okWide_slice ht hv
  obtain ⟨fuel, hf⟩ := h
  rcases open_strings ht he hc hf with ⟨hcs, hx⟩ | ⟨a, len', cap', ss, hcs, _, hl, hm, hz, hx, hcell, hws⟩
  · simp [Value.cells] at hcs
    obtain ⟨rfl, rfl, rfl⟩ := hcs
    exact ⟨[], Reads.nil _, by simp, by simp⟩
  · simp [Value.cells] at hcs
    obtain ⟨rfl, rfl, rfl⟩ := hcs
    simp at hz
    simp only [Prod.mk.injEq] at hx
    have hd2 := hx.1
    subst hd2
    have s1 := sized_slice hsz hj hd ht
    rw [hby] at s1
    simp only [strs, List.length_map, List.length_take, List.length_drop] at s1
    have hlen : (ss.take len).length = len := by simp; omega
    refine ⟨(ss.take len).map fun s => s.data.toList, ?_, ?_, ?_⟩
    · refine ⟨some a, cap, by rw [List.length_map, hlen], by simp, fun i u hu => ?_⟩
      have hi : i < len := by
        rcases Nat.lt_or_ge i len with h | h
        · exact h
        · rw [List.getElem?_eq_none (by simp [tcells]; omega)] at hu; simp at hu
      have hcl := hcell i (by omega)
      have e1 := add_cell hcl
      have e2 : a = ⟨a.block, a.off, none⟩ := by
        have h0 := add_cell (hcell 0 (by omega))
        simpa [Addr.add] using h0
      rw [e1] at hcl
      refine ⟨a.block, a.off, by rw [← e2], ?_⟩
      rw [hcl, ← hu]
      have hss : i < ss.length := by omega
      simp [tcells, List.getElem?_take, hi, hss, bs_of, List.getD]
    · simp; omega
    · intro l hl
      obtain ⟨s, hs, rfl⟩ := List.mem_map.1 hl
      have hin : s.data.toList.length ∈ DataW.weightsEach P ts ds := by
        refine DataW.weights_mem_each hj hd _ ?_
        simp only [DataW.weights, ht]
        exact List.mem_cons.2 (.inr (List.mem_append.2 (.inl (weights_strs e _ s hs))))
      have := List.all_eq_true.1 hsz _ hin
      simp at this
      simp
      omega
end
end Go.Proofs.YtbcjfppdeapamaaDoor
