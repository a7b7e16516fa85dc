/- Lemmas for CodeTells, part 3: walks of the functions that it reaches, and the plain laws behind them. -/
import Derived.Laws.MakeOwn
import Derived.BigRegion
import Derived.Maps.AppendAt
import Derived.Test.YtbcjfppdeapamaaDoorCodeTellsK2
set_option linter.unusedSimpArgs false
set_option linter.unusedVariables false
namespace Go.Proofs.YtbcjfppdeapamaaDoor
open Go.RowKit Oct
attribute [local irreducible] wpG

/-- what holds of a state on the way -/
structure InvV (n : Nat) (s : Vs) : Prop where
  bl : s.blocks.length ≤ 8
  kl : s.kinds.length ≤ 16
  bs : ∀ b ∈ s.blocks, b.at_ < s.ends.length ∧ b.opn.length ≤ 16
  el : s.ends.length ≤ 256
  sl : s.seen.length ≤ n
  dl : s.deep ≤ 16
theorem thereV_blocks {nt inp : Nat} {role : UInt8} {bl : List Vb} {x : VI} (h : thereV nt inp role bl x = 0) : (x.1 = 20 ∨ x.1 = 21 → bl ≠ []) ∧ (x.1 = 19 ∨ x.1 = 22 → bl.length < 8) := by
  unfold thereV at h
  split at h
  · cases h
  split at h
  · cases h
  split at h
  · cases h
  rename_i h20
  split at h
  · cases h
  rename_i h21
  split at h
  · cases h
  rename_i h8
  refine ⟨?_, fun e => ?_⟩
  · rintro (e | e) hb
    · exact h20 ⟨e, by rw [hb]; rfl⟩
    · exact h21 ⟨e, hb⟩
  · rcases Nat.lt_or_ge bl.length 8 with h1 | h1
    · exact h1
    · exact absurd ⟨e, h1⟩ h8
theorem valuesV_len {k : List UInt8} {x : VI} (hk : k.length ≤ 16) : (valuesV k x).2.length ≤ 16 ∧ ((valuesV k x).1 = 0 → x.1 = 22 → (valuesV k x).2.length < 16) := by
  unfold valuesV
  split
  · exact ⟨hk, fun h => by cases h⟩
  split
  · exact ⟨hk, fun h => by cases h⟩
  split
  · exact ⟨hk, fun h => by cases h⟩
  rename_i h
  obtain ⟨r, hr⟩ : ∃ r, r = k.take (k.length - (effV x).1.length) ++ givesV (k.drop (k.length - (effV x).1.length)) (effV x).2 := ⟨_, rfl⟩
  rw [← hr] at h ⊢
  refine ⟨?_, fun _ e => ?_⟩
  · show r.length ≤ 16
    omega
  · show r.length < 16
    have hc : ¬ 16 ≤ r.length := fun h' => h (.inl ⟨e, h'⟩)
    omega
theorem InvV.one {nt inp : Nat} {role : UInt8} {i n : Nat} {x : VI} {s : Vs} (h : InvV n s) (hi : i < s.ends.length) (h0 : (oneV nt inp role i x s).1 = 0) : InvV (n + 1) (oneV nt inp role i x s).2 ∧ (oneV nt inp role i x s).2.ends.length = s.ends.length := by
  have ht := oneV_there h0
  obtain ⟨h2, h3⟩ := thereV_blocks ht
  unfold oneV at h0 ⊢
  rw [if_neg (by rw [ht]; simp)] at h0 ⊢
  split at h0
  · rename_i hv
    exact absurd h0 hv
  rename_i hv
  rw [if_neg hv]
  have hv0 : (valuesV s.kinds x).1 = 0 := by simpa using hv
  obtain ⟨hvl, hv22⟩ := valuesV_len (x := x) h.kl
  have hv22 := hv22 hv0
  clear h0 hv hv0
  obtain ⟨k', hk'⟩ : ∃ k', k' = (valuesV s.kinds x).2 := ⟨_, rfl⟩
  simp only [← hk']
  rw [← hk'] at hvl hv22
  have hsl : (s.seen ++ [s.kinds]).length ≤ n + 1 := by have := h.sl; simp; omega
  have hd := h.dl
  have hlast : ∀ b, s.blocks.getLast? = some b → b ∈ s.blocks := fun b hb => List.mem_of_getLast? hb
  unfold turnsV
  split
  · rename_i e
    refine ⟨⟨by have := h3 (.inl e); simp; omega, hvl, fun b hb => ?_, h.el, hsl, by show max s.deep k'.length ≤ 16; omega⟩, rfl⟩
    rcases List.mem_append.1 hb with hb | hb
    · exact h.bs b hb
    · rw [List.mem_singleton] at hb; subst hb; exact ⟨hi, hvl⟩
  · split
    · rename_i e
      have h16 := hv22 e
      refine ⟨⟨by have := h3 (.inr e); simp; omega, by show (k' ++ [84]).length ≤ 16; simp; omega, fun b hb => ?_, h.el, hsl, by show max s.deep (k' ++ [84]).length ≤ 16; simp; omega⟩, rfl⟩
      rcases List.mem_append.1 hb with hb | hb
      · exact h.bs b hb
      · rw [List.mem_singleton] at hb; subst hb; exact ⟨hi, hvl⟩
    · split
      · cases hb : s.blocks.getLast? with
        | none => exact ⟨⟨h.bl, hvl, h.bs, h.el, hsl, by show max s.deep k'.length ≤ 16; omega⟩, rfl⟩
        | some b =>
          have hbm := h.bs b (hlast b hb)
          refine ⟨⟨?_, hbm.2, fun b' hb' => ?_, by show (s.ends.set _ _).length ≤ 256; rw [List.length_set]; exact h.el, hsl, by show max s.deep b.opn.length ≤ 16; have := hbm.2; omega⟩, by show (s.ends.set _ _).length = _; rw [List.length_set]⟩
          · show (s.blocks.dropLast ++ [_]).length ≤ 8
            have := h.bl
            have hne : s.blocks ≠ [] := by rintro e; rw [e] at hb; cases hb
            have : 0 < s.blocks.length := List.length_pos_iff.2 hne
            simp; omega
          · show b'.at_ < (s.ends.set _ _).length ∧ _
            rw [List.length_set]
            rcases List.mem_append.1 hb' with h' | h'
            · exact h.bs b' ((List.dropLast_subset _ h'))
            · rw [List.mem_singleton] at h'; subst h'; exact ⟨hi, hbm.2⟩
      · split
        · cases hb : s.blocks.getLast? with
          | none => exact ⟨⟨h.bl, hvl, h.bs, h.el, hsl, by show max s.deep k'.length ≤ 16; omega⟩, rfl⟩
          | some b =>
            simp only
            split
            · refine ⟨⟨by show s.blocks.dropLast.length ≤ 8; have := h.bl; rw [List.length_dropLast]; omega, hvl, fun b' hb' => ?_, by show (s.ends.set _ _).length ≤ 256; rw [List.length_set]; exact h.el, hsl, by show max s.deep k'.length ≤ 16; omega⟩, by show (s.ends.set _ _).length = _; rw [List.length_set]⟩
              show b'.at_ < (s.ends.set _ _).length ∧ _
              rw [List.length_set]
              exact h.bs b' ((List.dropLast_subset _ hb'))
            · exact ⟨⟨h.bl, hvl, h.bs, h.el, hsl, by show max s.deep k'.length ≤ 16; omega⟩, rfl⟩
        · exact ⟨⟨h.bl, hvl, h.bs, h.el, hsl, by show max s.deep k'.length ≤ 16; omega⟩, rfl⟩
theorem valuesV_bad {k : List UInt8} {x : VI} (h : (valuesV k x).1 ≠ 0) : (valuesV k x).2 = k := by
  unfold valuesV at h ⊢
  split
  · rfl
  split
  · rfl
  split
  · rfl
  rename_i h1 h2 h3
  rw [if_neg h1, if_neg h2, if_neg h3] at h
  exact absurd rfl h
theorem turnsV_deep (i : Nat) (x : VI) (s : Vs) : (turnsV i x s).2.deep = s.deep := by
  unfold turnsV
  split
  · rfl
  split
  · rfl
  split
  · cases s.blocks.getLast? <;> rfl
  split
  · cases s.blocks.getLast? with
    | none => rfl
    | some b => simp only; split <;> rfl
  · rfl
theorem turnsV_kinds {i : Nat} {x : VI} {s : Vs} (hb : ∀ b ∈ s.blocks, b.opn.length ≤ 16) (hk : s.kinds.length ≤ 16) : (turnsV i x s).2.kinds.length ≤ 17 := by
  unfold turnsV
  split
  · exact Nat.le_succ_of_le hk
  split
  · show (s.kinds ++ [84]).length ≤ 17
    simp; omega
  split
  · cases h : s.blocks.getLast? with
    | none => exact Nat.le_succ_of_le hk
    | some b => exact Nat.le_succ_of_le (hb b (List.mem_of_getLast? h))
  split
  · cases h : s.blocks.getLast? with
    | none => exact Nat.le_succ_of_le hk
    | some b => simp only; split <;> exact Nat.le_succ_of_le hk
  · exact Nat.le_succ_of_le hk
section
variable {w : World} {base G : Nat} {cv bv sv ev : Value} {inp : Nat} {role : UInt8} {s : Vs} {nt ct n : Nat} {at_ : Option Addr}
end
end Go.Proofs.YtbcjfppdeapamaaDoor
namespace Go.Proofs.YtbcjfppdeapamaaDoor
open Go.RowKit Oct
theorem wpG_nilVA {P : Program} {ops : Array Oper} {C : World → Prop} {R : World → World → Prop} {F : Nat → Option (Known R)} {Q : Facts → Act → Prop} {k : Nat} {S : Facts} {a : Act} (h : Q S a) : wpG P ops C R F Q k [] S a := h
attribute [local irreducible] wpG
theorem u8_eq (p k : UInt8) : ((p.toNat : Int) == (k.toNat : Int)) = (p == k) := by
  by_cases h : p = k
  · subst h; simp
  · have h1 : (p == k) = false := by simpa using h
    rw [h1]
    have : p.toNat ≠ k.toNat := fun e => h (UInt8.toNat_inj.1 e)
    simp; omega
set_option maxRecDepth 100000 in
set_option maxHeartbeats 1000000 in
theorem chas_any (p : UInt8) (w : World) : Calls Tryd.prog 30 #[.int .u8 (p.toNat : Int)] w fun e w' => e = .returned (.bool (hasArg p)) ∧ w' = w := by
  by_cases h1 : p = 1
  · subst h1
    rw [show (((1 : UInt8).toNat : Nat) : Int) = 1 from rfl]
    go_enter Tryd.func30, Tryd.ntmps30
    go_wp2
    go_ret
    exact ⟨rfl, rfl⟩
  by_cases h2 : p = 2
  · subst h2
    rw [show (((2 : UInt8).toNat : Nat) : Int) = 2 from rfl]
    go_enter Tryd.func30, Tryd.ntmps30
    go_wp2
    go_ret
    exact ⟨rfl, rfl⟩
  by_cases h3 : p = 3
  · subst h3
    rw [show (((3 : UInt8).toNat : Nat) : Int) = 3 from rfl]
    go_enter Tryd.func30, Tryd.ntmps30
    go_wp2
    go_ret
    exact ⟨rfl, rfl⟩
  by_cases h17 : p = 17
  · subst h17
    rw [show (((17 : UInt8).toNat : Nat) : Int) = 17 from rfl]
    go_enter Tryd.func30, Tryd.ntmps30
    go_wp2
    go_ret
    exact ⟨rfl, rfl⟩
  by_cases h18 : p = 18
  · subst h18
    rw [show (((18 : UInt8).toNat : Nat) : Int) = 18 from rfl]
    go_enter Tryd.func30, Tryd.ntmps30
    go_wp2
    go_ret
    exact ⟨rfl, rfl⟩
  by_cases h22 : p = 22
  · subst h22
    rw [show (((22 : UInt8).toNat : Nat) : Int) = 22 from rfl]
    go_enter Tryd.func30, Tryd.ntmps30
    go_wp2
    go_ret
    exact ⟨rfl, rfl⟩
  have q1 : ((p.toNat : Int) == 1) = false := u8_ne (by decide) h1
  have q2 : ((p.toNat : Int) == 2) = false := u8_ne (by decide) h2
  have q3 : ((p.toNat : Int) == 3) = false := u8_ne (by decide) h3
  have q17 : ((p.toNat : Int) == 17) = false := u8_ne (by decide) h17
  have q18 : ((p.toNat : Int) == 18) = false := u8_ne (by decide) h18
  have q22 : ((p.toNat : Int) == 22) = false := u8_ne (by decide) h22
  have HE := Lib.hid (show hasArg p = false by unfold hasArg; simp [h1, h2, h3, h17, h18, h22])
  go_enter Tryd.func30, Tryd.ntmps30
  go_wp2
  go_ret
  exact ⟨by rw [HE.out]; rfl, rfl⟩
set_option maxRecDepth 100000 in
set_option maxHeartbeats 1000000 in
theorem rHas_any (p : UInt8) (w : World) : Calls Tryd.prog 35 #[.int .u8 (p.toNat : Int)] w fun e w' => e = .returned (.bool (hasArg p)) ∧ w' = w := by
  by_cases h1 : p = 1
  · subst h1
    rw [show (((1 : UInt8).toNat : Nat) : Int) = 1 from rfl]
    go_enter Tryd.func35, Tryd.ntmps35
    go_wp2
    go_ret
    exact ⟨rfl, rfl⟩
  by_cases h2 : p = 2
  · subst h2
    rw [show (((2 : UInt8).toNat : Nat) : Int) = 2 from rfl]
    go_enter Tryd.func35, Tryd.ntmps35
    go_wp2
    go_ret
    exact ⟨rfl, rfl⟩
  by_cases h3 : p = 3
  · subst h3
    rw [show (((3 : UInt8).toNat : Nat) : Int) = 3 from rfl]
    go_enter Tryd.func35, Tryd.ntmps35
    go_wp2
    go_ret
    exact ⟨rfl, rfl⟩
  by_cases h17 : p = 17
  · subst h17
    rw [show (((17 : UInt8).toNat : Nat) : Int) = 17 from rfl]
    go_enter Tryd.func35, Tryd.ntmps35
    go_wp2
    go_ret
    exact ⟨rfl, rfl⟩
  by_cases h18 : p = 18
  · subst h18
    rw [show (((18 : UInt8).toNat : Nat) : Int) = 18 from rfl]
    go_enter Tryd.func35, Tryd.ntmps35
    go_wp2
    go_ret
    exact ⟨rfl, rfl⟩
  by_cases h22 : p = 22
  · subst h22
    rw [show (((22 : UInt8).toNat : Nat) : Int) = 22 from rfl]
    go_enter Tryd.func35, Tryd.ntmps35
    go_wp2
    go_ret
    exact ⟨rfl, rfl⟩
  have q1 : ((p.toNat : Int) == 1) = false := u8_ne (by decide) h1
  have q2 : ((p.toNat : Int) == 2) = false := u8_ne (by decide) h2
  have q3 : ((p.toNat : Int) == 3) = false := u8_ne (by decide) h3
  have q17 : ((p.toNat : Int) == 17) = false := u8_ne (by decide) h17
  have q18 : ((p.toNat : Int) == 18) = false := u8_ne (by decide) h18
  have q22 : ((p.toNat : Int) == 22) = false := u8_ne (by decide) h22
  have HE := Lib.hid (show hasArg p = false by unfold hasArg; simp [h1, h2, h3, h17, h18, h22])
  go_enter Tryd.func35, Tryd.ntmps35
  go_wp2
  go_ret
  exact ⟨by rw [HE.out]; rfl, rfl⟩
set_option maxRecDepth 100000 in
set_option maxHeartbeats 4000000 in
theorem cins_any (x : VI) (w : World) : Calls Tryd.prog 24 #[.agg #[.int .u8 (x.1.toNat : Int), .int .u8 (x.2.toNat : Int)]] w fun e w' => e = .returned (.bool (insOk x)) ∧ Below w.heap.size w w' := by
  obtain ⟨p, a⟩ := x
  show Calls Tryd.prog 24 #[.agg #[.int .u8 (p.toNat : Int), .int .u8 (a.toNat : Int)]] w _
  obtain ⟨W1, hW1⟩ : ∃ W1, W1 = w.alloc (.cells #[.int .u8 (p.toNat : Int), .int .u8 (a.toNat : Int)] 39) := ⟨_, rfl⟩
  have hb1 : Below w.heap.size w W1 := by rw [hW1]; exact b_alloc _ _
  have hx : Blk W1 w.heap.size 39 [.int .u8 (p.toNat : Int), .int .u8 (a.toNat : Int)] := by rw [hW1]; exact Blk.new w _ _
  have x0 := hx.cell (k := 0) rfl
  have x1 := hx.cell (k := 1) rfl
  have HB1 := Lib.hid hb1
  clear hx hb1
  by_cases h1 : 1 ≤ p.toNat
  · have q1 : (1 : Int) ≤ (p.toNat : Int) := by omega
    by_cases h2 : p.toNat ≤ 23
    · have q2 : (p.toNat : Int) ≤ 23 := by omega
      by_cases h3 : a = 0
      · subst h3
        rw [show (((0 : UInt8).toNat : Nat) : Int) = 0 from rfl] at hW1 x1 ⊢
        have HE := Lib.hid (show insOk (p, 0) = true by unfold insOk; simp [h1, h2])
        go_enter Tryd.func24, Tryd.ntmps24
        go_upto_region 1 with fail
        rw [← hW1]
        clear hW1
        go_wp2_with fail
        go_ret
        exact ⟨by rw [HE.out]; rfl, HB1.out⟩
      · have q3 : ((a.toNat : Int) == 0) = false := u8_ne (by decide) h3
        obtain ⟨q, hq⟩ : ∃ q, q = hasArg p := ⟨_, rfl⟩
        have HC := Lib.hid (fun w' => chas_any p w')
        rw [← hq] at HC
        have HE := Lib.hid (show insOk (p, a) = q by unfold insOk; rw [hq]; simp [h1, h2, h3])
        clear hq
        go_enter Tryd.func24, Tryd.ntmps24
        go_upto_region 1 with fail
        rw [← hW1]
        clear hW1
        go_wp2_with fail
        refine (HC.out _).mono ?_
        rintro e w3 ⟨rfl, rfl⟩
        go_wp2_with fail
        go_ret
        exact ⟨by rw [HE.out]; rfl, HB1.out⟩
    · have q2 : ¬ (p.toNat : Int) ≤ 23 := by omega
      have HE := Lib.hid (show insOk (p, a) = false by unfold insOk; simp [h2])
      go_enter Tryd.func24, Tryd.ntmps24
      go_upto_region 1 with fail
      rw [← hW1]
      clear hW1
      go_wp2_with fail
      go_ret
      exact ⟨by rw [HE.out]; rfl, HB1.out⟩
  · have q1 : ¬ (1 : Int) ≤ (p.toNat : Int) := by omega
    have HE := Lib.hid (show insOk (p, a) = false by unfold insOk; simp [h1])
    go_enter Tryd.func24, Tryd.ntmps24
    go_upto_region 1 with fail
    rw [← hW1]
    clear hW1
    go_wp2_with fail
    go_ret
    exact ⟨by rw [HE.out]; rfl, HB1.out⟩
set_option maxRecDepth 100000 in
set_option maxHeartbeats 4000000 in
theorem rIns_any (x : VI) (w : World) : Calls Tryd.prog 20 #[.agg #[.int .u8 (x.1.toNat : Int), .int .u8 (x.2.toNat : Int)]] w fun e w' => e = .returned (.bool (insOk x)) ∧ Below w.heap.size w w' := by
  obtain ⟨p, a⟩ := x
  show Calls Tryd.prog 20 #[.agg #[.int .u8 (p.toNat : Int), .int .u8 (a.toNat : Int)]] w _
  obtain ⟨W1, hW1⟩ : ∃ W1, W1 = w.alloc (.cells #[.int .u8 (p.toNat : Int), .int .u8 (a.toNat : Int)] 39) := ⟨_, rfl⟩
  have hb1 : Below w.heap.size w W1 := by rw [hW1]; exact b_alloc _ _
  have hx : Blk W1 w.heap.size 39 [.int .u8 (p.toNat : Int), .int .u8 (a.toNat : Int)] := by rw [hW1]; exact Blk.new w _ _
  have x0 := hx.cell (k := 0) rfl
  have x1 := hx.cell (k := 1) rfl
  have HB1 := Lib.hid hb1
  clear hx hb1
  by_cases h1 : 1 ≤ p.toNat
  · have q1 : (1 : Int) ≤ (p.toNat : Int) := by omega
    by_cases h2 : p.toNat ≤ 23
    · have q2 : (p.toNat : Int) ≤ 23 := by omega
      by_cases h3 : a = 0
      · subst h3
        rw [show (((0 : UInt8).toNat : Nat) : Int) = 0 from rfl] at hW1 x1 ⊢
        have HE := Lib.hid (show insOk (p, 0) = true by unfold insOk; simp [h1, h2])
        go_enter Tryd.func20, Tryd.ntmps20
        go_upto_region 1 with fail
        rw [← hW1]
        clear hW1
        go_wp2_with fail
        go_ret
        exact ⟨by rw [HE.out]; rfl, HB1.out⟩
      · have q3 : ((a.toNat : Int) == 0) = false := u8_ne (by decide) h3
        obtain ⟨q, hq⟩ : ∃ q, q = hasArg p := ⟨_, rfl⟩
        have HC := Lib.hid (fun w' => rHas_any p w')
        rw [← hq] at HC
        have HE := Lib.hid (show insOk (p, a) = q by unfold insOk; rw [hq]; simp [h1, h2, h3])
        clear hq
        go_enter Tryd.func20, Tryd.ntmps20
        go_upto_region 1 with fail
        rw [← hW1]
        clear hW1
        go_wp2_with fail
        refine (HC.out _).mono ?_
        rintro e w3 ⟨rfl, rfl⟩
        go_wp2_with fail
        go_ret
        exact ⟨by rw [HE.out]; rfl, HB1.out⟩
    · have q2 : ¬ (p.toNat : Int) ≤ 23 := by omega
      have HE := Lib.hid (show insOk (p, a) = false by unfold insOk; simp [h2])
      go_enter Tryd.func20, Tryd.ntmps20
      go_upto_region 1 with fail
      rw [← hW1]
      clear hW1
      go_wp2_with fail
      go_ret
      exact ⟨by rw [HE.out]; rfl, HB1.out⟩
  · have q1 : ¬ (1 : Int) ≤ (p.toNat : Int) := by omega
    have HE := Lib.hid (show insOk (p, a) = false by unfold insOk; simp [h1])
    go_enter Tryd.func20, Tryd.ntmps20
    go_upto_region 1 with fail
    rw [← hW1]
    clear hW1
    go_wp2_with fail
    go_ret
    exact ⟨by rw [HE.out]; rfl, HB1.out⟩

/-- the bad ones of a row -/
def longOk (s : List UInt8) : Bool := decide (s.length ≤ 64)
theorem long_any (s : List UInt8) (w : World) (hs : s.length ≤ 140737488355328) : Calls Tryd.prog 22 #[.string (bs s)] w fun e w' => e = .returned (.bool (!longOk s)) ∧ Below w.heap.size w w' := by
  have h63 : (s.length : Int) ≤ 140737488355328 := by omega
  by_cases h : s.length ≤ 64
  · have h1 : ¬ (64 : Int) < (s.length : Int) := by omega
    have HE := Lib.hid (show longOk s = true by unfold longOk; simp [h])
    clear h
    go_enter Tryd.func22, Tryd.ntmps22
    go_wp2
    go_ret
    exact ⟨by rw [HE.out]; rfl, Below.refl _ _⟩
  · have h1 : (64 : Int) < (s.length : Int) := by omega
    have HE := Lib.hid (show longOk s = false by unfold longOk; simp [h])
    clear h
    go_enter Tryd.func22, Tryd.ntmps22
    go_wp2
    go_ret
    exact ⟨by rw [HE.out]; rfl, Below.refl _ _⟩
theorem badIns_any (x : VI) (w : World) : Calls Tryd.prog 23 #[.agg #[.int .u8 (x.1.toNat : Int), .int .u8 (x.2.toNat : Int)]] w fun e w' => e = .returned (.bool (!insOk x)) ∧ Below w.heap.size w w' := by
  have HC := Lib.hid (cins_any x)
  obtain ⟨q, hq⟩ : ∃ q, q = insOk x := ⟨_, rfl⟩
  rw [← hq] at HC ⊢
  clear hq
  obtain ⟨W1, hW1⟩ : ∃ W1, W1 = w.alloc (.cells #[.int .u8 (x.1.toNat : Int), .int .u8 (x.2.toNat : Int)] 39) := ⟨_, rfl⟩
  have hb1 : Below w.heap.size w W1 := by rw [hW1]; exact b_alloc _ _
  have hx : Blk W1 w.heap.size 39 [.int .u8 (x.1.toNat : Int), .int .u8 (x.2.toNat : Int)] := by rw [hW1]; exact Blk.new w _ _
  have x0 := hx.cell (k := 0) rfl
  have x1 := hx.cell (k := 1) rfl
  have HB1 := Lib.hid hb1
  clear hx hb1
  go_enter Tryd.func23, Tryd.ntmps23
  go_upto_region 1 with fail
  rw [← hW1]
  clear hW1
  go_wp2_with fail
  refine (HC.out _).mono ?_
  rintro e w3 ⟨rfl, hB3⟩
  have HB3 := Lib.hid (bt HB1.out hB3)
  clear hB3
  go_wp2_with fail
  go_ret
  exact ⟨rfl, HB3.out⟩
end Go.Proofs.YtbcjfppdeapamaaDoor
namespace Go.Proofs.YtbcjfppdeapamaaDoor
open Go.RowKit Oct
attribute [local irreducible] wpG
theorem recIns_open {w : World} {v : Value} {l : List VI} (h : recIns.Row w v l) : ∃ a cap, v = .slice a l.length cap ∧ l.length ≤ cap ∧ ∀ k (hk : k < l.length), ∃ b off, a = some ⟨b, off, none⟩ ∧ w.cell? ⟨b, off + k * 2, none⟩ = some (.int .u8 (l[k].1.toNat : Int)) ∧ w.cell? ⟨b, off + k * 2 + 1, none⟩ = some (.int .u8 (l[k].2.toNat : Int)) := by
  obtain ⟨a, cap, hv, hle, hc⟩ := h.open
  refine ⟨a, cap, hv, hle, fun k hk => ?_⟩
  obtain ⟨b, off, ha, hu⟩ := hc k hk
  exact ⟨b, off, ha, hu 0 _ rfl, hu 1 _ rfl⟩
theorem all_false {α : Type} {f : α → Bool} {l : List α} (k : Nat) (h : k < l.length) (hk : f l[k] = false) : l.all f = false := by
  rw [List.all_eq_false]
  exact ⟨l[k], List.getElem_mem h, by rw [hk]; simp⟩
theorem all_true {α : Type} {f : α → Bool} {l : List α} (h : ∀ k (hk : k < l.length), f l[k] = true) : l.all f = true := by
  rw [List.all_eq_true]
  intro t ht
  obtain ⟨k, hk, rfl⟩ := List.getElem_of_mem ht
  exact h k hk
set_option maxRecDepth 100000 in
set_option maxHeartbeats 1000000 in
theorem index_long (v : Value) (l : List (List UInt8)) (w : World) (hr : recS.Row w v l) (hl : l.length ≤ 140737488355328) (hm : ∀ s ∈ l, s.length ≤ 140737488355328) :
    Calls Tryd.prog 37 #[v, .func (.func 22) #[] #[]] w fun e w' => (∃ i : Int, e = .returned (.int .i64 i) ∧ decide (0 ≤ i) = !l.all longOk) ∧ Below w.heap.size w w' := by
  obtain ⟨a, cap, rfl, _, hc⟩ := recS_open hr
  have HC := Lib.hid hc
  have HM := Lib.hid hm
  clear hc hr hm
  go_enter Tryd.func37, Tryd.ntmps37
  go_wp2
  go_loopw [8] (fun t wr => ∃ i : Nat, i ≤ l.length ∧ t = .int .i64 (i : Int) ∧ Hid (∀ j (hj : j < l.length), j < i → longOk l[j] = true) ∧ Hid (Below w.heap.size w wr)) (fun t _ => l.length - (intOf t).toNat)
  case atStart => exact ⟨0, by omega, rfl, fun j _ h => absurd h (by omega), Below.refl _ _⟩
  case round =>
    obtain ⟨i, hi, rfl, hH, hB⟩ := hrel
    by_cases h0 : i < l.length
    · obtain ⟨b, off, rfl, c0⟩ := HC.out i h0
      have e0 := Below.keeps hB.out c0
      clear c0
      have kk0 : (0 : Int) ≤ (i : Int) := by omega
      have kk1 : (i : Int) < (l.length : Int) := by omega
      have hml := HM.out l[i] (List.getElem_mem h0)
      have HBD := Lib.hid (long_any l[i] wr hml)
      clear hml
      obtain ⟨q, hq⟩ : ∃ q, q = longOk l[i] := ⟨_, rfl⟩
      rw [← hq] at HBD
      have HQ := Lib.hid hq
      clear hq
      cases q with
      | false =>
        go_wp2_with fail
        refine HBD.out.mono ?_
        rintro e w1 ⟨rfl, hB1⟩
        have HB1 := Lib.hid (bt hB.out hB1)
        clear hB1
        go_wp2
        go_ret
        exact ⟨⟨_, rfl, by rw [all_false i h0 HQ.out.symm]; simp⟩, HB1.out⟩
      | true =>
        go_wp2_with fail
        refine HBD.out.mono ?_
        rintro e w1 ⟨rfl, hB1⟩
        have HB1 := Lib.hid (bt hB.out hB1)
        clear hB1
        go_wp2
        go_roundw
        case rel =>
          refine ⟨i + 1, by omega, by go_num, ?_, HB1.out⟩
          intro j hj hji
          by_cases e : j = i
          · subst e; exact HQ.out.symm
          · exact hH.out j hj (by omega)
        case measure => simp [intOf]; omega
    · have HF := Lib.hid (all_true (f := longOk) fun k hk => hH.out k hk (by omega))
      obtain rfl : i = l.length := by omega
      go_wp2
      go_ret
      exact ⟨⟨_, rfl, by rw [HF.out]; rfl⟩, hB.out⟩
set_option maxRecDepth 100000 in
theorem contains_long (v : Value) (l : List (List UInt8)) (w : World) (hr : recS.Row w v l) (hl : l.length ≤ 140737488355328) (hm : ∀ s ∈ l, s.length ≤ 140737488355328) :
    Calls Tryd.prog 25 #[v, .func (.func 22) #[] #[]] w fun e w' => e = .returned (.bool (!l.all longOk)) ∧ Below w.heap.size w w' := by
  have hix := index_long v l w hr hl hm
  obtain ⟨a, cap, rfl, _, _⟩ := recS_open hr
  have HIX := Lib.hid hix
  clear hix hr hm
  go_enter Tryd.func25, Tryd.ntmps25
  go_wp2_with fail
  refine HIX.out.mono ?_
  rintro e w1 ⟨⟨i, rfl, hi⟩, hB1⟩
  have HB1 := Lib.hid hB1
  clear hB1
  obtain ⟨q, hq⟩ : ∃ q, q = !l.all longOk := ⟨_, rfl⟩
  rw [← hq] at hi
  have HQ := Lib.hid hq
  clear hq
  cases q with
  | false =>
    have hi' : ¬ (0 : Int) ≤ i := of_decide_eq_false hi
    clear hi
    go_wp2
    go_ret
    exact ⟨by rw [← HQ.out]; simp [hi'], HB1.out⟩
  | true =>
    have hi' : (0 : Int) ≤ i := of_decide_eq_true hi
    clear hi
    go_wp2
    go_ret
    exact ⟨by rw [← HQ.out]; simp [hi'], HB1.out⟩
set_option maxRecDepth 100000 in
set_option maxHeartbeats 1000000 in
theorem index_badIns (v : Value) (l : List VI) (w : World) (hr : recIns.Row w v l) (hl : l.length ≤ 140737488355328) :
    Calls Tryd.prog 38 #[v, .func (.func 23) #[] #[]] w fun e w' => (∃ i : Int, e = .returned (.int .i64 i) ∧ decide (0 ≤ i) = !l.all insOk) ∧ Below w.heap.size w w' := by
  obtain ⟨a, cap, rfl, _, hc⟩ := recIns_open hr
  have HC := Lib.hid hc
  clear hc hr
  go_enter Tryd.func38, Tryd.ntmps38
  go_wp2
  go_loopw [8] (fun t wr => ∃ i : Nat, i ≤ l.length ∧ t = .int .i64 (i : Int) ∧ Hid (∀ j (hj : j < l.length), j < i → insOk l[j] = true) ∧ Hid (Below w.heap.size w wr)) (fun t _ => l.length - (intOf t).toNat)
  case atStart => exact ⟨0, by omega, rfl, fun j _ h => absurd h (by omega), Below.refl _ _⟩
  case round =>
    obtain ⟨i, hi, rfl, hH, hB⟩ := hrel
    by_cases h0 : i < l.length
    · obtain ⟨b, off, rfl, c0, c1⟩ := HC.out i h0
      have e0 := Below.keeps hB.out c0
      have e1 := Below.keeps hB.out c1
      clear c0 c1
      have kk0 : (0 : Int) ≤ (i : Int) := by omega
      have kk1 : (i : Int) < (l.length : Int) := by omega
      have HBD := Lib.hid (badIns_any l[i] wr)
      obtain ⟨q, hq⟩ : ∃ q, q = insOk l[i] := ⟨_, rfl⟩
      rw [← hq] at HBD
      have HQ := Lib.hid hq
      clear hq
      cases q with
      | false =>
        go_wp2_with fail
        refine HBD.out.mono ?_
        rintro e w1 ⟨rfl, hB1⟩
        have HB1 := Lib.hid (bt hB.out hB1)
        clear hB1
        go_wp2
        go_ret
        exact ⟨⟨_, rfl, by rw [all_false i h0 HQ.out.symm]; simp⟩, HB1.out⟩
      | true =>
        go_wp2_with fail
        refine HBD.out.mono ?_
        rintro e w1 ⟨rfl, hB1⟩
        have HB1 := Lib.hid (bt hB.out hB1)
        clear hB1
        go_wp2
        go_roundw
        case rel =>
          refine ⟨i + 1, by omega, by go_num, ?_, HB1.out⟩
          intro j hj hji
          by_cases e : j = i
          · subst e; exact HQ.out.symm
          · exact hH.out j hj (by omega)
        case measure => simp [intOf]; omega
    · have HF := Lib.hid (all_true (f := insOk) fun k hk => hH.out k hk (by omega))
      obtain rfl : i = l.length := by omega
      go_wp2
      go_ret
      exact ⟨⟨_, rfl, by rw [HF.out]; rfl⟩, hB.out⟩
set_option maxRecDepth 100000 in
theorem contains_badIns (v : Value) (l : List VI) (w : World) (hr : recIns.Row w v l) (hl : l.length ≤ 140737488355328) :
    Calls Tryd.prog 26 #[v, .func (.func 23) #[] #[]] w fun e w' => e = .returned (.bool (!l.all insOk)) ∧ Below w.heap.size w w' := by
  have hix := index_badIns v l w hr hl
  obtain ⟨a, cap, rfl, _, _⟩ := recIns_open hr
  have HIX := Lib.hid hix
  clear hix hr
  go_enter Tryd.func26, Tryd.ntmps26
  go_wp2_with fail
  refine HIX.out.mono ?_
  rintro e w1 ⟨⟨i, rfl, hi⟩, hB1⟩
  have HB1 := Lib.hid hB1
  clear hB1
  obtain ⟨q, hq⟩ : ∃ q, q = !l.all insOk := ⟨_, rfl⟩
  rw [← hq] at hi
  have HQ := Lib.hid hq
  clear hq
  cases q with
  | false =>
    have hi' : ¬ (0 : Int) ≤ i := of_decide_eq_false hi
    clear hi
    go_wp2
    go_ret
    exact ⟨by rw [← HQ.out]; simp [hi'], HB1.out⟩
  | true =>
    have hi' : (0 : Int) ≤ i := of_decide_eq_true hi
    clear hi
    go_wp2
    go_ret
    exact ⟨by rw [← HQ.out]; simp [hi'], HB1.out⟩

theorem mayV_all (texts : List (List UInt8)) (code : List VI) : mayV texts code = (decide (texts.length ≤ 16) && decide (code.length ≤ 256) && texts.all longOk && code.all insOk) := rfl
set_option maxRecDepth 100000 in
set_option maxHeartbeats 4000000 in
theorem CCheck_any (tv cv : Value) (texts : List (List UInt8)) (code : List VI) (w : World) (ht : recS.Row w tv texts) (hc : recIns.Row w cv code) (hlt : texts.length ≤ 140737488355328) (hlc : code.length ≤ 140737488355328) (hm : ∀ s ∈ texts, s.length ≤ 140737488355328) :
    Calls Tryd.prog 10 #[.agg #[tv, cv]] w fun e w' => e = .returned (.int .i64 (if mayV texts code = true then 0 else 2)) ∧ Below w.heap.size w w' := by
  have HT := Lib.hid (fun w' (hB : Below w.heap.size w w') => contains_long tv texts w' (ht.below hB) hlt hm)
  have HCC := Lib.hid (fun w' (hB : Below w.heap.size w w') => contains_badIns cv code w' (hc.below hB) hlc)
  obtain ⟨at_, ct, rfl, _, _⟩ := recS_open ht
  obtain ⟨ac, cc, rfl, _, _⟩ := recIns_open hc
  obtain ⟨qt, hqt⟩ : ∃ q, q = texts.all longOk := ⟨_, rfl⟩
  obtain ⟨qc, hqc⟩ : ∃ q, q = code.all insOk := ⟨_, rfl⟩
  have hM := mayV_all texts code
  rw [← hqt, ← hqc] at hM
  rw [← hqt] at HT
  rw [← hqc] at HCC
  obtain ⟨r, hr⟩ : ∃ r : Int, r = if mayV texts code = true then 0 else 2 := ⟨_, rfl⟩
  rw [← hr]
  rw [hM] at hr
  have HM := Lib.hid hr
  clear hr hM hqt hqc ht hc hm
  obtain ⟨W1, hW1⟩ : ∃ W1, W1 = w.alloc (.cells #[.slice at_ texts.length ct, .slice ac code.length cc] 25) := ⟨_, rfl⟩
  have hb1 : Below w.heap.size w W1 := by rw [hW1]; exact b_alloc _ _
  have hx : Blk W1 w.heap.size 25 [.slice at_ texts.length ct, .slice ac code.length cc] := by rw [hW1]; exact Blk.new w _ _
  have x0 := hx.cell (k := 0) rfl
  have x1 := hx.cell (k := 1) rfl
  have HB1 := Lib.hid hb1
  clear hx hb1
  by_cases h1 : texts.length ≤ 16
  · have q1 : ¬ (16 : Int) < (texts.length : Int) := by omega
    by_cases h2 : code.length ≤ 256
    · have q2 : ¬ (256 : Int) < (code.length : Int) := by omega
      cases qt with
      | false =>
        have HE := Lib.hid (show r = 2 by rw [HM.out]; simp)
        go_enter Tryd.func10, Tryd.ntmps10
        go_upto_region 1 with fail
        rw [← hW1]
        clear hW1
        go_wp2_with fail
        refine (HT.out _ HB1.out).mono ?_
        rintro e w2 ⟨rfl, hB2⟩
        have HB2 := Lib.hid (bt HB1.out hB2)
        have y0 := Below.keeps hB2 x0
        have y1 := Below.keeps hB2 x1
        clear hB2 x0 x1
        go_wp2_with fail
        go_ret
        exact ⟨by rw [HE.out]; rfl, HB2.out⟩
      | true =>
        cases qc with
        | false =>
          have HE := Lib.hid (show r = 2 by rw [HM.out]; simp)
          go_enter Tryd.func10, Tryd.ntmps10
          go_upto_region 1 with fail
          rw [← hW1]
          clear hW1
          go_wp2_with fail
          refine (HT.out _ HB1.out).mono ?_
          rintro e w2 ⟨rfl, hB2⟩
          have HB2 := Lib.hid (bt HB1.out hB2)
          have y0 := Below.keeps hB2 x0
          have y1 := Below.keeps hB2 x1
          clear hB2 x0 x1
          go_wp2_with fail
          refine (HCC.out _ HB2.out).mono ?_
          rintro e w3 ⟨rfl, hB3⟩
          have HB3 := Lib.hid (bt HB2.out hB3)
          clear hB3 y0 y1
          go_wp2_with fail
          go_ret
          exact ⟨by rw [HE.out]; rfl, HB3.out⟩
        | true =>
          have HE := Lib.hid (show r = 0 by rw [HM.out]; simp [h1, h2])
          go_enter Tryd.func10, Tryd.ntmps10
          go_upto_region 1 with fail
          rw [← hW1]
          clear hW1
          go_wp2_with fail
          refine (HT.out _ HB1.out).mono ?_
          rintro e w2 ⟨rfl, hB2⟩
          have HB2 := Lib.hid (bt HB1.out hB2)
          have y0 := Below.keeps hB2 x0
          have y1 := Below.keeps hB2 x1
          clear hB2 x0 x1
          go_wp2_with fail
          refine (HCC.out _ HB2.out).mono ?_
          rintro e w3 ⟨rfl, hB3⟩
          have HB3 := Lib.hid (bt HB2.out hB3)
          clear hB3 y0 y1
          go_wp2_with fail
          go_ret
          exact ⟨by rw [HE.out]; rfl, HB3.out⟩
    · have q2 : (256 : Int) < (code.length : Int) := by omega
      have HE := Lib.hid (show r = 2 by rw [HM.out]; simp [h2])
      go_enter Tryd.func10, Tryd.ntmps10
      go_upto_region 1 with fail
      rw [← hW1]
      clear hW1
      go_wp2_with fail
      go_ret
      exact ⟨by rw [HE.out]; rfl, HB1.out⟩
  · have q1 : (16 : Int) < (texts.length : Int) := by omega
    have HE := Lib.hid (show r = 2 by rw [HM.out]; simp [h1])
    go_enter Tryd.func10, Tryd.ntmps10
    go_upto_region 1 with fail
    rw [← hW1]
    clear hW1
    go_wp2_with fail
    go_ret
    exact ⟨by rw [HE.out]; rfl, HB1.out⟩
end Go.Proofs.YtbcjfppdeapamaaDoor
namespace Go.Proofs.YtbcjfppdeapamaaDoor
open Go.RowKit
variable {P : Program}
theorem madeCells_one (z : Value) (n : Nat) : madeCells #[z] n = (List.replicate n z).toArray := by
  apply Array.ext
  · simp [madeCells]
  · intro i h1 h2
    simp [madeCells]
    simp [madeCells, Nat.mod_one]
theorem make_one (t e : TypeId) (z : Value) (bytes : Nat) (ht : P.underlying t = some (.slice e)) (hinfo : (P.info? e).map (fun i => (i.zero, i.size, i.bytes)) = some (some z, 1, bytes)) (hz : z.cells = #[z]) (n : Nat) (hb : (bytes : Int) * (n : Int) ≤ 281474976710656) (hn : n ≤ 140737488355328) (w : World) :
    (Instr.makeSlice t (.int .i64 (n : Int)) (.int .i64 (n : Int))).run P w = .ok (.slice (some ⟨w.heap.size, 0, none⟩) n n) (w.alloc (.cells (List.replicate n z).toArray e)) := by
  obtain ⟨i, hi, hz0, hi1, hi2⟩ := info_parts hinfo
  have := run_make (P := P) w t e i z ht hi hz0 .i64 .i64 n n (by omega) (Int.le_refl _) (by rw [hi2]; exact hb) (by omega)
  rw [this, hz, hi1, Nat.mul_one, Int.toNat_natCast, madeCells_one]
end Go.Proofs.YtbcjfppdeapamaaDoor
namespace Go.Proofs.YtbcjfppdeapamaaDoor
open Go.RowKit Oct
attribute [local irreducible] wpG

theorem cells_replicate (n : Nat) : recJ.cells (List.replicate n 0) = List.replicate n (.int .i64 0) := by
  induction n with
  | zero => rfl
  | succ n ih => rw [List.replicate_succ, List.replicate_succ, ← ih]; rfl
theorem size_alV (w : World) (o : Obj) : (w.alloc o).heap.size = w.heap.size + 1 := Array.size_push ..
theorem made_own (w : World) (n base : Nat) (hn : n ≤ 1000000) (hb : base ≤ w.heap.size) : recJ.Own (w.alloc (.cells (recJ.cells (List.replicate n 0)).toArray 3)) base (.slice (some ⟨w.heap.size, 0, none⟩) n n) (List.replicate n 0) := by
  have h1 : (List.replicate n (0 : Int)).length = n := List.length_replicate ..
  have h2 : recJ.cells (List.replicate n 0) = List.replicate n (.int .i64 0) := cells_replicate n
  have h3 : (1000000 : Nat) ≤ maxLen := by decide
  have h4 : n ≤ maxLen := by omega
  show (w.alloc (.cells (recJ.cells (List.replicate n 0)).toArray 3)).ownsRow base recJ.e recJ.n (.slice (some ⟨w.heap.size, 0, none⟩) n n) (List.replicate n (0 : Int)).length (recJ.cells (List.replicate n 0))
  rw [h1, h2]
  refine ⟨by rw [List.length_replicate]; show n = n * 1; omega, .inr ⟨w.heap.size, n, (List.replicate n (.int .i64 0)).toArray, rfl, hb, ?_, Nat.le_refl _, h4, ?_, ?_⟩⟩
  · show (w.heap.push _)[w.heap.size]? = _
    rw [Array.getElem?_push_size]
    rfl
  · rw [List.size_toArray, List.length_replicate]; show n = n * 1; omega
  · show (List.replicate n (Value.int .i64 0)).take (n * 1) = _
    rw [Nat.mul_one, List.take_of_length_le (by rw [List.length_replicate]; exact Nat.le_refl _)]
section
variable {w : World} {base G : Nat} {tv cv bv sv ev : Value} {ip : Nat} {role : UInt8} {s : Vs}
end
theorem throughV_no {texts : List (List UInt8)} {code : List VI} {role : UInt8} (h : (mayV texts code && roleOk role) = false) : throughV texts code role = (0, 2, startV code.length) := by unfold throughV; rw [if_neg (by rw [h]; simp)]
theorem throughV_bad {texts : List (List UInt8)} {code : List VI} {role : UInt8} (h : (mayV texts code && roleOk role) = true) {r : Nat × Nat × Vs} (hr : runV texts.length (inputsV role) role 0 code (startV code.length) = r) (h0 : r.2.1 ≠ 0) : throughV texts code role = r := by unfold throughV; rw [if_pos h, if_neg (by rw [hr]; exact h0), hr]
theorem throughV_good {texts : List (List UInt8)} {code : List VI} {role : UInt8} (h : (mayV texts code && roleOk role) = true) {r : Nat × Nat × Vs} (hr : runV texts.length (inputsV role) role 0 code (startV code.length) = r) (h0 : r.2.1 = 0) : throughV texts code role = (0, 0, r.2.2) := by unfold throughV; rw [if_pos h, if_pos (by rw [hr]; exact h0), hr]
theorem start_inv (n : Nat) (hn : n ≤ 256) : InvV 0 (startV n) := ⟨by simp [startV], by simp [startV], fun b hb => by simp [startV] at hb, by simp [startV]; exact hn, by simp [startV], by simp [startV]⟩
theorem ins_24 {texts : List (List UInt8)} {code : List VI} (h : mayV texts code = true) : texts.length ≤ 16 ∧ code.length ≤ 256 ∧ ∀ k (hk : k < code.length), code[k].1.toNat < 24 := by
  unfold mayV at h
  simp only [Bool.and_eq_true, decide_eq_true_eq, List.all_eq_true] at h
  obtain ⟨⟨⟨h1, h2⟩, h3⟩, h4⟩ := h
  refine ⟨h1, h2, fun k hk => ?_⟩
  have := h4 _ (List.getElem_mem hk)
  unfold insOk at this
  simp only [Bool.and_eq_true, decide_eq_true_eq] at this
  omega

end Go.Proofs.YtbcjfppdeapamaaDoor
namespace Go.Proofs.YtbcjfppdeapamaaDoor
open Go.RowKit Oct
attribute [local irreducible] wpG
end Go.Proofs.YtbcjfppdeapamaaDoor
namespace Go.Proofs.YtbcjfppdeapamaaDoor
open Go.RowKit Oct
attribute [local irreducible] wpG
/-- a row of a literal -/
theorem Rec.litV {α : Type} (R : Rec α) (w : World) (l : List α) (cs : Array Value) (hcs : cs = (R.cells l).toArray) (n : Nat) (hn : n = l.length) (hm : n ≤ 1000) : R.Row (w.alloc (.cells cs R.e)) (.slice (some ⟨w.heap.size, 0, none⟩) n n) l := by
  subst hn hcs
  refine Rec.Own.row (base := w.heap.size) ⟨by rw [Rec.cells_length], .inr ⟨w.heap.size, l.length, (R.cells l).toArray, rfl, Nat.le_refl _, ?_, Nat.le_refl _, Nat.le_trans hm (by decide), ?_, ?_⟩⟩
  · show (w.heap.push _)[w.heap.size]? = _
    rw [Array.getElem?_push_size]
  · rw [List.size_toArray, Rec.cells_length]
  · show (R.cells l).take (l.length * R.n) = _
    rw [List.take_of_length_le (by rw [Rec.cells_length]; exact Nat.le_refl _)]
theorem al0V : (throughV [[97]] [(1, 0), (3, 0), (23, 0)] 1).1 = 0 ∧ (throughV [[97]] [(1, 0), (3, 0), (23, 0)] 1).2.1 = 0 := by decide +kernel
theorem al1V : (throughV [[97]] [(1, 0), (3, 0), (23, 0)] 2).1 = 2 ∧ (throughV [[97]] [(1, 0), (3, 0), (23, 0)] 2).2.1 = 133 := by decide +kernel
theorem al2V : (throughV [] [(3, 0), (9, 0)] 1).1 = 1 ∧ (throughV [] [(3, 0), (9, 0)] 1).2.1 = 130 := by decide +kernel
theorem al3V : (throughV [] [(2, 1), (19, 0)] 1).1 = 2 ∧ (throughV [] [(2, 1), (19, 0)] 1).2.1 = 132 := by decide +kernel
theorem al4V : (throughV [] [(3, 0), (22, 44), (14, 0), (21, 0)] 1).1 = 0 ∧ (throughV [] [(3, 0), (22, 44), (14, 0), (21, 0)] 1).2.1 = 0 := by decide +kernel
theorem al5V : (throughV [[97]] [(1, 0), (3, 0), (23, 0)] 0).1 = 0 ∧ (throughV [[97]] [(1, 0), (3, 0), (23, 0)] 0).2.1 = 2 := by decide +kernel
end Go.Proofs.YtbcjfppdeapamaaDoor
namespace Go.Proofs.YtbcjfppdeapamaaDoor
open Go.RowKit Oct
attribute [local irreducible] wpG
/-- how much of a program is looked at -/
def sizeV (texts : List (List UInt8)) (code : List VI) : Nat := code.length + ((texts.take 50).map List.length).sum
def largeV (texts : List (List UInt8)) (code : List VI) : Bool := decide (40 < texts.length) || decide (4000 < sizeV texts code)
theorem sum_takeV : ∀ (l : List (List UInt8)) (i : Nat) (h : i < l.length), ((l.take (i + 1)).map List.length).sum = ((l.take i).map List.length).sum + l[i].length
  | x :: l, 0, _ => by simp
  | x :: l, i + 1, h => by
    have := sum_takeV l i (by simpa using h)
    simp only [List.take_succ_cons, List.map_cons, List.sum_cons, List.getElem_cons_succ, this]
    omega
theorem mem_le_sumV : ∀ {l : List Nat} {x : Nat}, x ∈ l → x ≤ l.sum
  | y :: l, x, h => by
    rw [List.sum_cons]
    rcases List.mem_cons.1 h with rfl | h
    · omega
    · have := mem_le_sumV h; omega
theorem largeV_no {texts : List (List UInt8)} {code : List VI} (h : largeV texts code = false) : texts.length ≤ 40 ∧ code.length ≤ 4000 ∧ ∀ s ∈ texts, s.length ≤ 4000 := by
  unfold largeV at h
  simp only [Bool.or_eq_false_iff, decide_eq_false_iff_not] at h
  obtain ⟨h1, h2⟩ := h
  unfold sizeV at h2
  rw [List.take_of_length_le (by omega)] at h2
  refine ⟨by omega, by omega, fun s hs => ?_⟩
  have := mem_le_sumV (List.mem_map_of_mem (f := List.length) hs)
  omega

set_option maxRecDepth 100000 in
set_option maxHeartbeats 4000000 in
theorem Large_any (tv cv : Value) (texts : List (List UInt8)) (code : List VI) (w : World) (ht : recS.Row w tv texts) (hcr : recIns.Row w cv code) (hl : texts.length ≤ 140737488355328) (hlc : code.length ≤ 140737488355328) (hm : ∀ s ∈ texts, s.length ≤ 140737488355328) :
    Calls Tryd.prog 7 #[.agg #[tv, cv]] w fun e w' => e = .returned (.bool (largeV texts code)) ∧ Below w.heap.size w w' := by
  obtain ⟨at_, ct, rfl, -, hct⟩ := recS_open ht
  obtain ⟨ac, cc, rfl, -, -⟩ := recIns_open hcr
  have HM := Lib.hid hm
  obtain ⟨W1, hW1⟩ : ∃ W1, W1 = w.alloc (.cells #[.slice at_ texts.length ct, .slice ac code.length cc] 25) := ⟨_, rfl⟩
  have hb1 : Below w.heap.size w W1 := by rw [hW1]; exact b_alloc _ _
  have hx : Blk W1 w.heap.size 25 [.slice at_ texts.length ct, .slice ac code.length cc] := by rw [hW1]; exact Blk.new w _ _
  have x0 := hx.cell (k := 0) rfl
  have x1 := hx.cell (k := 1) rfl
  have HC := Lib.hid hct
  have HB1 := Lib.hid hb1
  have lc1 : (code.length : Int) ≤ 140737488355328 := by omega
  clear hb1 hx ht hcr hm hct
  go_enter Tryd.func7, Tryd.ntmps7
  go_upto_region 1 with fail
  rw [← hW1]
  clear hW1
  go_wp2_with fail
  go_loop [3, 4] (fun vn vi => ∃ i n : Nat, vn = .int .i64 (n : Int) ∧ vi = .int .i64 (i : Int) ∧ i ≤ texts.length ∧ i ≤ 50 ∧ n ≤ (i + 1) * 140737488355328 ∧ Hid (n = code.length + ((texts.take i).map List.length).sum)) (fun _ vi => 50 - (intOf vi).toNat)
  case atStart => exact ⟨0, code.length, rfl, rfl, by omega, by omega, by omega, by simp [Hid]⟩
  case round =>
    obtain ⟨i, n, rfl, rfl, hi, h50, hn, HN⟩ := hrel
    by_cases h0 : i < texts.length ∧ i < 50
    · obtain ⟨b, off, rfl, c1⟩ := HC.out i h0.1
      have c1 := Below.keeps HB1.out c1
      have hs := HM.out texts[i] (List.getElem_mem h0.1)
      have HSM := Lib.hid (sum_takeV texts i h0.1)
      have i0 : (0 : Int) ≤ (i : Int) := by omega
      have i1 : (i : Int) < (texts.length : Int) := by omega
      have i2 : (i : Int) < 50 := by omega
      have i3 : (n : Int) ≤ 14073748835532800 := by omega
      have i4 : (0 : Int) ≤ (n : Int) := by omega
      have i5 : (texts[i].length : Int) ≤ 140737488355328 := by omega
      go_wp2
      go_round
      case rel => exact ⟨i + 1, n + texts[i].length, by go_num, by go_num, by omega, by omega, by omega, by unfold Hid; rw [HSM.out, HN.out]; omega⟩
      case measure => simp [intOf]; omega
    · have hfin : n = sizeV texts code := by
        rw [HN.out]; unfold sizeV
        by_cases h : i = 50
        · rw [h]
        · have : i = texts.length := by omega
          subst this
          rw [List.take_length, List.take_of_length_le (by omega)]
      have HF := Lib.hid hfin
      clear hfin
      have i3 : (n : Int) ≤ 14073748835532800 := by omega
      by_cases h1 : i < texts.length
      · have i1 : (i : Int) < (texts.length : Int) := by omega
        have i2 : ¬ (i : Int) < 50 := by omega
        have i4 : (40 : Int) < (texts.length : Int) := by omega
        have HL := Lib.hid (show largeV texts code = true by unfold largeV; rw [decide_eq_true (by omega : 40 < texts.length)]; rfl)
        clear h0
        go_wp2
        go_ret
        exact ⟨by rw [HL.out]; rfl, HB1.out⟩
      · have i1 : ¬ (i : Int) < (texts.length : Int) := by omega
        by_cases h2 : 40 < texts.length
        · have i4 : (40 : Int) < (texts.length : Int) := by omega
          have HL := Lib.hid (show largeV texts code = true by unfold largeV; rw [decide_eq_true h2]; rfl)
          clear h0
          go_wp2
          go_ret
          exact ⟨by rw [HL.out]; rfl, HB1.out⟩
        · have i4 : ¬ (40 : Int) < (texts.length : Int) := by omega
          by_cases h3 : 4000 < n
          · have i5 : (4000 : Int) < (n : Int) := by omega
            have HL := Lib.hid (show largeV texts code = true by unfold largeV; rw [← HF.out, decide_eq_true h3]; simp)
            clear h0
            go_wp2
            go_ret
            exact ⟨by rw [HL.out]; rfl, HB1.out⟩
          · have i5 : ¬ (4000 : Int) < (n : Int) := by omega
            have HL := Lib.hid (show largeV texts code = false by unfold largeV; rw [← HF.out, decide_eq_false h3, decide_eq_false h2]; rfl)
            clear h0
            go_wp2
            go_ret
            exact ⟨by rw [HL.out]; rfl, HB1.out⟩
end Go.Proofs.YtbcjfppdeapamaaDoor
namespace Go.Proofs.YtbcjfppdeapamaaDoor
open Go.RowKit Oct
attribute [local irreducible] wpG
theorem rows_ne {α : Type} {a b : List α} (k : Nat) (h : k < a.length) (h' : k < b.length) (hne : a[k] ≠ b[k]) : a ≠ b := by
  rintro rfl; exact hne rfl
theorem rows_eq {α : Type} {a b : List α} (hl : a.length = b.length) (h : ∀ j (h : j < a.length) (h' : j < b.length), a[j] = b[j]) : a = b := List.ext_getElem hl h
theorem recJ_open {w : World} {v : Value} {l : List Int} (h : recJ.Row w v l) : ∃ a cap, v = .slice a l.length cap ∧ l.length ≤ cap ∧ ∀ k (hk : k < l.length), ∃ b off, a = some ⟨b, off, none⟩ ∧ w.cell? ⟨b, off + k, none⟩ = some (.int .i64 l[k]) := by
  obtain ⟨a, cap, hv, hle, hc⟩ := h.open
  refine ⟨a, cap, hv, hle, fun k hk => ?_⟩
  obtain ⟨b, off, ha, hu⟩ := hc k hk
  have := hu 0 _ rfl
  rw [show recJ.n = 1 from rfl, Nat.mul_one, Nat.add_zero] at this
  exact ⟨b, off, ha, this⟩
end Go.Proofs.YtbcjfppdeapamaaDoor
namespace Go.Proofs.YtbcjfppdeapamaaDoor
open Go.RowKit Oct

section
variable {P : Program}
/-- append: what it leaves, and where it lies -/
theorem run_append3 (w : World) (base : Nat) (t ty e : TypeId) (i : TypeInfo) (z : Value) (size bytes : Nat) (ht : P.underlying t = some (.slice e)) (hi : P.info? e = some i) (hz : i.zero = some z)
    (hsize : i.size = size) (hby : i.bytes = bytes) (hzs : z.cells.size = size) (hsz : 0 < size)
    (v : Value) (n : Nat) (xs : List Value) (hown : w.ownsRow base e size v n xs)
    (a : Addr) (m c : Nat) (news : List Value) (hl : news.length = m * size) (hnews : ∀ j u, news[j]? = some u → w.cell? (a.add j) = some u) (h1 : ∀ u ∈ news, u.oneCell' = true)
    (h63 : n + m ≤ maxLen) (hbytes : (n + m) * bytes ≤ 140737488355328) (hbase : base ≤ w.heap.size) :
    ∃ v' w', (Builtin.append_ #[t, t] ty #[v, .slice (some a) m c]).run P w = .ok v' w' ∧ w'.ownsRow base e size v' (n + m) (xs ++ news) ∧ w.grownBy w' v.ownBlock ∧
      ((∀ k, k < w.heap.size → w'.heap[k]? = w.heap[k]?) ∨
        ∃ g cap cur cur', v = .slice (some ⟨g, 0, none⟩) n cap ∧ w.heap[g]? = some (.cells cur e (0, 0)) ∧ w'.heap[g]? = some (.cells cur' e (0, 0)) ∧ cur'.size = cur.size ∧ cur'.toList.take ((n + m) * size) = xs ++ news ∧ (∀ k, k ≠ g → w'.heap[k]? = w.heap[k]?)) := by
  subst hsize
  subst hby
  have hsmall : n + m ≤ 9223372036854775807 := by simp only [maxLen] at h63; omega
  have hlen : (xs ++ news).length = (n + m) * i.size := by rw [List.length_append, hown.1, hl, Nat.add_mul]
  have grown : ∀ (old : Nat), old < n + m → ∀ (row : Option Nat),
      (w.drew.alloc (.cells (xs.toArray ++ news.toArray ++ Builtin.zeroCells z.cells (grownCap w (n + m) old e - (n + m))) e)).ownsRow base e i.size
        (.slice (some ⟨w.heap.size, 0, none⟩) (n + m) (grownCap w (n + m) old e)) (n + m) (xs ++ news) ∧
      w.grownBy (w.drew.alloc (.cells (xs.toArray ++ news.toArray ++ Builtin.zeroCells z.cells (grownCap w (n + m) old e - (n + m))) e)) row := by
    intro old ho row
    have hge := grownCap_ge w (n + m) old e
    have hcm : grownCap w (n + m) old e ≤ maxLen := grownCap_le_maxLen w (n + m) old e h63
    refine ⟨⟨hlen, .inr ⟨w.heap.size, _, _, rfl, hbase, heap_alloc_new w.drew _, hge, hcm, ?_, ?_⟩⟩, ⟨rfl, rfl, rfl, by simp, fun k hk _ => by first | exact heap_alloc_old w.drew _ k hk | exact heap_alloc_old w.drew _ hk⟩⟩
    · simp only [Array.size_append, List.size_toArray, size_zeroCells, hzs, hown.1, hl, ← Nat.add_mul]
      congr 1
      omega
    · simp only [Array.toList_append, List.append_assoc]
      rw [← List.append_assoc, ← hlen]
      exact List.take_left
  rcases hown.2 with ⟨rfl, rfl⟩ | ⟨g, cap, cur, rfl, hbg, hg, hnc, hcm, hcs, htake⟩
  · have hx : xs = [] := List.eq_nil_of_length_eq_zero (by simpa using hown.1)
    subst hx
    by_cases hm : m = 0
    · subst hm
      have hn : news = [] := List.eq_nil_of_length_eq_zero (by simpa using hl)
      subst hn
      refine ⟨.slice none 0 0, w, ?_, World.ownsRow_nil w base e i.size, ⟨rfl, rfl, rfl, Nat.le_refl _, fun _ _ _ => rfl⟩, .inl fun _ _ => rfl⟩
      simp [Builtin.append_, run_underlying ht, sizeOf, typeInfo, hi, Builtin.lenOf, Builtin.firstCells, loadCells, loadCellsFrom]
    · have hr := run_append_nil (P := P) w t ty e i z ht hi hz a m c news hl hnews (by omega) (by omega) (by have hb := hbytes; simp only [Nat.zero_add] at hb; omega)
      have hgr := grown 0 (by omega) (Value.ownBlock (.slice none 0 0))
      simp only [Nat.zero_add, List.nil_append, Array.empty_append] at hgr ⊢
      exact ⟨_, _, hr, hgr.1, hgr.2, .inl fun k hk => hgr.2.block k hk (by simp [Value.ownBlock])⟩
  · by_cases hroom : n + m ≤ cap
    · have hfit : n * i.size + news.length ≤ cur.size := by rw [hl, hcs, ← Nat.add_mul]; exact Nat.mul_le_mul_right _ hroom
      have hr := run_append_room (P := P) w t ty e i ht hi g n cap cur hg a m c news hl hnews h1 hroom hfit
      refine ⟨_, _, hr, ⟨hlen, .inr ⟨g, cap, _, rfl, hbg, setRow_heap w g cur _ e _ hg, hroom, hcm, ?_, ?_⟩⟩, ⟨rfl, rfl, rfl, by simp, fun k _ hk => setRow_other w g k _ (fun e => hk (by simp [Value.ownBlock, e]))⟩, .inr ⟨g, cap, cur, _, rfl, hg, setRow_heap w g cur _ e _ hg, ?_, ?_, fun k hk => setRow_other w g k _ (fun e => hk e)⟩⟩
      · simp only [List.size_toArray, List.length_append, List.length_take, List.length_drop, Array.length_toList]
        omega
      · rw [htake, ← hlen]
        exact List.take_left
      · simp only [List.size_toArray, List.length_append, List.length_take, List.length_drop, Array.length_toList]
        omega
      · rw [htake, ← hlen]
        exact List.take_left
    · have holds : ∀ j u, xs[j]? = some u → w.cell? ((⟨g, 0, none⟩ : Addr).add j) = some u := hown.cells (g := g) rfl
      have hr := run_append_grow (P := P) w t ty e i z ht hi hz ⟨g, 0, none⟩ n cap xs hown.1 holds a m c news hl hnews (by omega) (by omega) (growslice_fits (by omega) hbytes)
      have hgr := grown cap (by omega) (Value.ownBlock (.slice (some ⟨g, 0, none⟩) n cap))
      exact ⟨_, _, hr, hgr.1, hgr.2, .inl fun k hk => (grown cap (by omega) none).2.block k hk (by simp)⟩
end

theorem own_same {w w' : World} {base : Nat} {e : TypeId} {size : Nat} {v : Value} {n : Nat} {xs : List Value} (h : w.ownsRow base e size v n xs) (h4 : ∀ k, k < w.heap.size → w'.heap[k]? = w.heap[k]?) : w'.ownsRow base e size v n xs := by
  refine ⟨h.1, ?_⟩
  rcases h.2 with h5 | ⟨g2, c2, cur2, rfl, hb2, hh2, hr⟩
  · exact .inl h5
  · refine .inr ⟨g2, c2, cur2, rfl, hb2, ?_, hr⟩
    rw [h4 g2 ?_]
    · exact hh2
    · rcases Nat.lt_or_ge g2 w.heap.size with hn | hn
      · exact hn
      · rw [Array.getElem?_eq_none hn] at hh2; cases hh2
end Go.Proofs.YtbcjfppdeapamaaDoor
namespace Go.Proofs.YtbcjfppdeapamaaDoor
open Go.RowKit Oct
attribute [local irreducible] wpG

/-- a row of the call's own -/
def kOwnV {α : Type} (R : Rec α) (base : Nat) (l : List α) : Known Bel :=
  ⟨Option Addr × Nat, fun x => .slice x.1 l.length x.2, fun x => some fun w => R.Own w base (.slice x.1 l.length x.2) l, fun _ _ h _ _ hφ hB => by cases h; exact Rec.Own.below hφ hB⟩
@[go_sem] theorem kOwnV_val {α : Type} (R : Rec α) (base : Nat) (l : List α) (a : Option Addr) (c : Nat) : (kOwnV R base l).val (a, c) = .slice a l.length c := rfl
theorem Rec.Own.baseLe {α : Type} {R : Rec α} {w : World} {b b' : Nat} {v : Value} {l : List α} (h : R.Own w b v l) (hb : b' ≤ b) : R.Own w b' v l := by
  refine ⟨h.1, ?_⟩
  rcases h.2 with h2 | ⟨g, cap, cur, hv, hg, hr⟩
  · exact .inl h2
  · exact .inr ⟨g, cap, cur, hv, Nat.le_trans hb hg, hr⟩
/-- append(nil, x...) as an operation of a region that is known -/
theorem Rec.grow_copy {α : Type} (R : Rec α) {o : Oper} {a : Act} {w : World} {G : Value → World → Prop} (s x : Operand) (t : TypeId)
    (ho : o.op = .call { callee := .builtin .append, args := #[s, x], argTypes := #[t, t] }) (ht : Tryd.prog.underlying t = some (.slice R.e))
    (base : Nat) (hs : a.eval s = .slice none 0 0) (vx : Value) (ys : List α) (hr : R.Row w vx ys) (hx : a.eval x = vx)
    (hbytes : ys.length * R.bytes ≤ 140737488355328) (hbase : base ≤ w.heap.size)
    (h : ∀ A C w', R.Own w' base (.slice A ys.length C) ys → Bel w w' → G (.slice A ys.length C) w') : growAt Tryd.prog o a w G := by
  obtain ⟨i, hi, hz, hi1, hi2⟩ := info_parts R.info
  obtain ⟨⟨ax, cap, rfl, hnone, hc⟩, _⟩ := hr
  have hown : R.Own w w.heap.size (.slice none 0 0) ([] : List α) := Rec.Own.nil _ _
  have hlen : ys.length ≤ 140737488355328 := by have := Nat.le_mul_of_pos_right ys.length R.bpos; omega
  have hrun : ∃ v' w', (Builtin.append_ #[t, t] o.type #[.slice none 0 0, .slice ax ys.length cap]).run Tryd.prog w = .ok v' w' ∧ R.Own w' base v' ys ∧ Bel w w' := by
    cases ax with
    | none =>
      obtain ⟨h0, rfl⟩ := hnone rfl
      have h0' : ys = [] := List.eq_nil_of_length_eq_zero h0
      subst h0'
      exact ⟨_, w, run_append_owned_none (P := Tryd.prog) (w := w) w.heap.size t o.type R.e i R.n ht hi (.slice none 0 0) 0 [] hown, Rec.Own.nil _ _, Bel.refl _⟩
    | some ad =>
      obtain ⟨v', w', h1, h2, h3, h4⟩ := run_append3 (P := Tryd.prog) w w.heap.size t o.type R.e i R.z R.n R.bytes ht hi hz hi1 hi2 R.zs R.pos (.slice none 0 0) 0 [] hown ad ys.length cap (R.cells ys) (R.cells_length ys) (by
        intro j u hj
        obtain ⟨b, off, ha, hu⟩ := hc j u hj
        cases ha
        rw [Addr.add_lit]; exact hu) (R.cells_one ys) (by unfold maxLen; omega) (by rw [Nat.zero_add]; exact hbytes) (Nat.le_refl _)
      rw [Nat.zero_add, List.nil_append] at h2
      exact ⟨v', w', h1, Rec.Own.baseLe h2 hbase, (Below.refl w.heap.size w).grown h3 (Nat.le_refl _) (fun k hk => by cases hk)⟩
  obtain ⟨v', w', h1, h2, h3⟩ := hrun
  obtain ⟨A, C, rfl⟩ := owns_slice h2
  unfold growAt execOp
  simp only [ho, resolve, invoke, builtin, Sem.run_bind, Sem.run_pure, Result.andThen_ok, List.map_toArray, List.map_cons, List.map_nil, hs, hx, h1]
  exact h A C w' h2 h3
theorem wpG_nilVH {P : Program} {ops : Array Oper} {C : World → Prop} {R : World → World → Prop} {F : Nat → Option (Known R)} {Q : Facts → Act → Prop} {k : Nat} {S : Facts} {a : Act} (h : Q S a) : wpG P ops C R F Q k [] S a := by unfold wpG; exact h
theorem results_cellV {P : Program} {fn : Func} {p : Tmp} {ty : TypeId} {tmps : Array Value} {w : World} {v : Value} {b : Nat} (hr : fn.results = #[.cell p ty]) (hp : tmps.getD p undef = .pointer (some ⟨b, 0, none⟩))
    (hl : (loadVar ty ⟨b, 0, none⟩).run P w = .ok v w) : (results fn tmps).run P w = .ok v w := by
  simp only [Array.getD_eq_getD_getElem?] at hp ⊢
  simp [results, hr, Sem.run_bind, Result.andThen, hp, asAddr, hl]
theorem load_prog {w : World} {b : Nat} {tv cv : Value} (h0 : w.cell? ⟨b, 0, none⟩ = some tv) (h1 : w.cell? ⟨b, 1, none⟩ = some cv) : (loadVar 25 ⟨b, 0, none⟩).run Tryd.prog w = .ok (.agg #[tv, cv]) w := by
  go_simp
theorem own_neV {α : Type} {R : Rec α} {w : World} {base b : Nat} {v : Value} {l : List α} {t : TypeId} {cs : List Value} (h : R.Own w base v l) (hb : Blk w b t cs) (ht : t ≠ R.e) : ∀ k, v.ownBlock = some k → ¬ k = b := by
  rintro k hk rfl
  rcases h.2 with ⟨rfl, _⟩ | ⟨g, cap, cur, rfl, _, hh, _⟩
  · cases hk
  · obtain rfl : g = k := by injection hk
    have hb' : w.heap[g]? = some (.cells cs.toArray t (0, 0)) := hb
    rw [hh] at hb'
    injection hb' with e
    injection e with _ e2 _
    exact ht e2.symm
set_option maxRecDepth 100000 in
set_option maxHeartbeats 4000000 in
theorem Copy_any (tv cv : Value) (texts : List (List UInt8)) (code : List VI) (w : World) (ht : recS.Row w tv texts) (hc : recIns.Row w cv code) (hlt : texts.length ≤ 1000) (hlc : code.length ≤ 5000) :
    Calls Tryd.prog 9 #[.agg #[tv, cv]] w fun e w' => (∃ tv' cv', e = .returned (.agg #[tv', cv']) ∧ recS.Own w' w.heap.size tv' texts ∧ recIns.Own w' w.heap.size cv' code) ∧ Below w.heap.size w w' := by
  have HR1 := Lib.hid ht
  have HR2 := Lib.hid hc
  obtain ⟨at_, ct, rfl, -, -⟩ := recS_open ht
  obtain ⟨ac, cc, rfl, -, -⟩ := recIns_open hc
  obtain ⟨W1, hW1⟩ : ∃ W1, W1 = (w.alloc (.cells #[.slice at_ texts.length ct, .slice ac code.length cc] 25)).alloc (.cells #[.slice none 0 0, .slice none 0 0] 25) := ⟨_, rfl⟩
  have hb1 : Below w.heap.size w W1 := by rw [hW1]; exact bt (b_alloc _ _) (b_alloc _ _)
  have hx : Blk W1 w.heap.size 25 [.slice at_ texts.length ct, .slice ac code.length cc] := by rw [hW1]; exact (Blk.new w _ _).below (b_alloc _ _)
  have hy : Blk W1 (w.heap.size + 1) 25 [.slice none 0 0, .slice none 0 0] := by
    rw [hW1]
    have := Blk.new (w.alloc (.cells #[.slice at_ texts.length ct, .slice ac code.length cc] 25)) [.slice none 0 0, .slice none 0 0] 25
    rw [size_alV] at this
    exact this
  have x0 := hx.cell (k := 0) rfl
  have x1 := hx.cell (k := 1) rfl
  have HY := Lib.hid hy
  have HB1 := Lib.hid hb1
  have HS := Lib.hid (show w.heap.size ≤ W1.heap.size from hb1.size)
  clear ht hc hb1 hx hy
  go_enter Tryd.func9, Tryd.ntmps9
  go_upto_region 1 with fail
  rw [← hW1]
  clear hW1
  refine region_tail 6 [(1, .exact _ (.slice at_ texts.length ct)), (2, kOwnV recS w.heap.size texts), (4, .exact _ (.slice ac code.length cc)), (5, kOwnV recIns w.heap.size code)] (by kernel_rfl) (by kernel_rfl) ?_
  simp only [List.take_succ_cons, List.take_zero, List.drop_succ_cons, List.drop_zero]
  (repeat (first | (refine wpG_skip (by kernel_rfl) (fun K hK => ?_); go_big_quiet_skip; refine wpQuiet_nil (hK _ ?_); clear hK K) | (refine wpG_quiet (by rfl) (by rfl) (fun K hK => ?_); go_big_quiet_want; go_big_quiet_op; go_big_quiet_on; refine wpQuiet_nil (hK _ ?_); clear hK K) | (refine wpG_nilOk rfl rfl rfl (by kernel_rfl) (fun K hK => ?_); go_simp; refine hK _ ?_; clear hK K)))
  refine wpG_exact rfl (by kernel_rfl) (fun w' G hB hS hG => ?_) (fun K hK => ?_)
  · have y := Below.keeps hB x0
    go_simp; exact hG _ (Bel.refl _)
  go_simp; refine hK _ ?_; clear hK K; (repeat (first | (refine wpG_skip (by kernel_rfl) (fun K hK => ?_); go_big_quiet_skip; refine wpQuiet_nil (hK _ ?_); clear hK K) | (refine wpG_quiet (by rfl) (by rfl) (fun K hK => ?_); go_big_quiet_want; go_big_quiet_op; go_big_quiet_on; refine wpQuiet_nil (hK _ ?_); clear hK K) | (refine wpG_nilOk rfl rfl rfl (by kernel_rfl) (fun K hK => ?_); go_simp; refine hK _ ?_; clear hK K)))
  refine wpG_known (kOwnV recS w.heap.size texts) rfl (by kernel_rfl) (fun w' G hB hS hG => ?_) (fun x K hK => ?_)
  · have hbb := bt HB1.out hB
    exact recS.grow_copy _ _ 22 rfl Tryd.underlying22 w.heap.size rfl _ texts (HR1.out.below hbb) rfl (by show texts.length * 16 ≤ _; omega) hbb.size (fun A C w'' ho hb => hG (A, C) w'' hb (fun φ h => by cases h; exact ho))
  obtain ⟨ad, c⟩ := x; go_simp; refine hK _ ?_; clear hK K; (repeat (first | (refine wpG_skip (by kernel_rfl) (fun K hK => ?_); go_big_quiet_skip; refine wpQuiet_nil (hK _ ?_); clear hK K) | (refine wpG_quiet (by rfl) (by rfl) (fun K hK => ?_); go_big_quiet_want; go_big_quiet_op; go_big_quiet_on; refine wpQuiet_nil (hK _ ?_); clear hK K) | (refine wpG_nilOk rfl rfl rfl (by kernel_rfl) (fun K hK => ?_); go_simp; refine hK _ ?_; clear hK K)))
  refine wpG_exact rfl (by kernel_rfl) (fun w' G hB hS hG => ?_) (fun K hK => ?_)
  · have y := Below.keeps hB x1
    go_simp; exact hG _ (Bel.refl _)
  go_simp; refine hK _ ?_; clear hK K; (repeat (first | (refine wpG_skip (by kernel_rfl) (fun K hK => ?_); go_big_quiet_skip; refine wpQuiet_nil (hK _ ?_); clear hK K) | (refine wpG_quiet (by rfl) (by rfl) (fun K hK => ?_); go_big_quiet_want; go_big_quiet_op; go_big_quiet_on; refine wpQuiet_nil (hK _ ?_); clear hK K) | (refine wpG_nilOk rfl rfl rfl (by kernel_rfl) (fun K hK => ?_); go_simp; refine hK _ ?_; clear hK K)))
  refine wpG_known (kOwnV recIns w.heap.size code) rfl (by kernel_rfl) (fun w' G hB hS hG => ?_) (fun x K hK => ?_)
  · have hbb := bt HB1.out hB
    exact recIns.grow_copy _ _ 23 rfl Tryd.underlying23 w.heap.size rfl _ code (HR2.out.below hbb) rfl (by show code.length * 2 ≤ _; omega) hbb.size (fun A C w'' ho hb => hG (A, C) w'' hb (fun φ h => by cases h; exact ho))
  obtain ⟨a2, c2⟩ := x
  go_simp; refine hK _ ?_; clear hK K; (repeat (first | (refine wpG_skip (by kernel_rfl) (fun K hK => ?_); go_big_quiet_skip; refine wpQuiet_nil (hK _ ?_); clear hK K) | (refine wpG_quiet (by rfl) (by rfl) (fun K hK => ?_); go_big_quiet_want; go_big_quiet_op; go_big_quiet_on; refine wpQuiet_nil (hK _ ?_); clear hK K) | (refine wpG_nilOk rfl rfl rfl (by kernel_rfl) (fun K hK => ?_); go_simp; refine hK _ ?_; clear hK K)))
  refine wpG_nilVH ?_
  intro w5 hB5 hA5
  have HO2 := Lib.hid (show recIns.Own w5 w.heap.size (.slice a2 code.length c2) code from all0 hA5)
  have HO1 := Lib.hid (show recS.Own w5 w.heap.size (.slice ad texts.length c) texts from all1 hA5)
  have hy5 := HY.out.below hB5
  have c0 := hy5.cell (k := 0) rfl
  have c1 := hy5.cell (k := 1) rfl
  have f0 := hy5.free (k := 0) (by decide)
  have f1 := hy5.free (k := 1) (by decide)
  have HY5 := Lib.hid hy5
  have HB5 := Lib.hid (bt HB1.out hB5)
  clear hB5 hA5 hy5 x0 x1
  go_wp2
  have hc1 : Chg (fun x => x = w.heap.size + 1) w5 (w5.setCell ⟨w.heap.size + 1, 0, none⟩ (.slice ad texts.length c)) := Chg.setCell _ _ _ rfl
  obtain ⟨w6, hw6⟩ : ∃ w6, w6 = w5.setCell ⟨w.heap.size + 1, 0, none⟩ (.slice ad texts.length c) := ⟨_, rfl⟩
  have hy6 := HY5.out.set 0 (.slice ad texts.length c)
  rw [← hw6] at hc1 hy6 ⊢
  have hc2 : Chg (fun x => x = w.heap.size + 1) w6 (w6.setCell ⟨w.heap.size + 1, 1, none⟩ (.slice a2 code.length c2)) := Chg.setCell _ _ _ rfl
  obtain ⟨w7, hw7⟩ : ∃ w7, w7 = w6.setCell ⟨w.heap.size + 1, 1, none⟩ (.slice a2 code.length c2) := ⟨_, rfl⟩
  have hy7 := hy6.set 1 (.slice a2 code.length c2)
  rw [← hw7] at hc2 hy7 ⊢
  have hcc := hc1.trans hc2
  have hb5 := HB5.out
  refine bodyPost_ret (results_cellV rfl rfl (load_prog (hy7.cell (k := 0) rfl) (hy7.cell (k := 1) rfl))) rfl ?_
  exact ⟨⟨_, _, rfl, HO1.out.chgV hcc (own_neV HO1.out HY5.out (by decide)), HO2.out.chgV hcc (own_neV HO2.out HY5.out (by decide))⟩, hb5.trans (hcc.below (fun x (hx : x = w.heap.size + 1) => by omega) hb5.size)⟩
end Go.Proofs.YtbcjfppdeapamaaDoor
namespace Go.Proofs.YtbcjfppdeapamaaDoor
open Go.RowKit Oct
attribute [local irreducible] wpG
/-- a program that came in -/
structure ProgR (w : World) (tv cv : Value) (texts : List (List UInt8)) (code : List VI) : Prop where
  t : recS.Row w tv texts
  c : recIns.Row w cv code
  lt : texts.length ≤ 140737488355328
  lc : code.length ≤ 140737488355328
  m : ∀ s ∈ texts, s.length ≤ 140737488355328
theorem ProgR.below {w w' : World} {tv cv : Value} {texts : List (List UInt8)} {code : List VI} (h : ProgR w tv cv texts code) (hB : Below w.heap.size w w') : ProgR w' tv cv texts code := ⟨h.t.below hB, h.c.below hB, h.lt, h.lc, h.m⟩
theorem ProgR.large {w : World} {tv cv : Value} {texts : List (List UInt8)} {code : List VI} (h : ProgR w tv cv texts code) :
    Calls Tryd.prog 7 #[.agg #[tv, cv]] w fun e w' => e = .returned (.bool (largeV texts code)) ∧ Below w.heap.size w w' := Large_any tv cv texts code w h.t h.c h.lt h.lc h.m
theorem ProgR.sl {w : World} {tv cv : Value} {texts : List (List UInt8)} {code : List VI} (h : ProgR w tv cv texts code) : ∃ a1 c1 a2 c2, tv = .slice a1 texts.length c1 ∧ cv = .slice a2 code.length c2 := by
  obtain ⟨a1, c1, h1, -, -⟩ := recS_open h.t
  obtain ⟨a2, c2, h2, -, -⟩ := recIns_open h.c
  exact ⟨a1, c1, a2, c2, h1, h2⟩
/-- append(s, x...), and what it leaves alone -/
theorem Rec.appendNV {α : Type} {ops : Array Oper} {rest : List Oper} {o : Oper} {a : Act} {Q : Exit → Act → World → Prop} (R : Rec α) (w : World) (hgd : o.guard = none) (s x : Operand) (t : TypeId)
    (ho : o.op = .call { callee := .builtin .append, args := #[s, x], argTypes := #[t, t] }) (ht : Tryd.prog.underlying t = some (.slice R.e))
    (base : Nat) (v : Value) (xs : List α) (hown : R.Own w base v xs) (hs : a.eval s = v)
    (vx : Value) (ys : List α) (hr : R.Row w vx ys) (hx : a.eval x = vx) (hbytes : (xs.length + ys.length) * R.bytes ≤ 140737488355328) (hbase : base ≤ w.heap.size)
    (h : ∀ A C w', R.Own w' base (.slice A (xs ++ ys).length C) (xs ++ ys) → Chg (fun k => v.ownBlock = some k) w w' → wpList Tryd.prog ops Q rest (a.put o.dst (.slice A (xs ++ ys).length C)) w') : wpList Tryd.prog ops Q (o :: rest) a w := by
  obtain ⟨i, hi, hz, hi1, hi2⟩ := info_parts R.info
  have hn : xs.length + ys.length ≤ (xs.length + ys.length) * R.bytes := Nat.le_mul_of_pos_right _ R.bpos
  obtain ⟨⟨ax, cap, rfl, hnone, hc⟩, _⟩ := hr
  cases ax with
  | none =>
    obtain ⟨h0, rfl⟩ := hnone rfl
    obtain rfl : ys = [] := List.eq_nil_of_length_eq_zero h0
    refine wpList_append_own_none hgd s x t ho base R.e i R.n ht hi v xs.length (R.cells xs) hs hown hx ?_
    obtain ⟨A, C, rfl⟩ := owns_slice hown
    have := h A C w (by rw [List.append_nil]; exact hown) (Chg.refl _ _)
    rw [List.append_nil] at this
    exact this
  | some ad =>
    refine wpList_append_own _ hgd s x t ho base R.e i R.z R.n R.bytes ht hi hz hi1 hi2 R.zs R.pos v xs.length (R.cells xs) hs hown ad ys.length cap (R.cells ys) hx (R.cells_length ys) ?_ (R.cells_one ys) (by unfold maxLen; omega) hbytes hbase ?_
    · intro j u hj
      obtain ⟨b, off, ha, hu⟩ := hc j u hj
      cases ha
      rw [Addr.add_lit]; exact hu
    · intro v' w' h2 h3 _
      have h2' : R.Own w' base v' (xs ++ ys) := by unfold Rec.Own; rw [R.cells_append, List.length_append]; exact h2
      have hB : Below base w w' := (Below.refl base w).grown h3 hbase (fun k hk => (Rec.Own.ltV hown k hk).1)
      obtain ⟨A, C, rfl⟩ := owns_slice h2'
      exact h A C w' h2' ⟨hB.os, hB.tape, hB.output, hB.size, fun j hj hne => h3.block j hj (fun e => hne e.symm)⟩
theorem own_apart {α β : Type} {R : Rec α} {R' : Rec β} {w : World} {b1 b2 : Nat} {v v' : Value} {l : List α} {l' : List β} (h : R.Own w b1 v l) (h' : R'.Own w b2 v' l') (ht : R.e ≠ R'.e) : ∀ k, v.ownBlock = some k → ¬ v'.ownBlock = some k := by
  rintro k hk hk'
  rcases h.2 with ⟨rfl, _⟩ | ⟨g, cap, cur, rfl, _, hh, _⟩
  · cases hk
  rcases h'.2 with ⟨rfl, _⟩ | ⟨g', cap', cur', rfl, _, hh', _⟩
  · cases hk'
  obtain rfl : g = k := by injection hk
  obtain rfl : g' = g := by injection hk'
  rw [hh] at hh'
  injection hh' with e
  injection e with _ e2 _
  exact ht e2
theorem ProgR.codeAt {w : World} {tv : Value} {a : Option Addr} {n c : Nat} {texts : List (List UInt8)} {code : List VI} (h : ProgR w tv (.slice a n c) texts code) {k : Nat} (hk : k < code.length) :
    ∃ b off, a = some ⟨b, off, none⟩ ∧ w.cell? ⟨b, off + k * 2, none⟩ = some (.int .u8 (code[k].1.toNat : Int)) ∧ w.cell? ⟨b, off + k * 2 + 1, none⟩ = some (.int .u8 (code[k].2.toNat : Int)) := by
  obtain ⟨a', c', hv, -, hc⟩ := recIns_open h.c
  injection hv with e1 e2 e3
  subst e1
  exact hc k hk
theorem u8_shift (a : UInt8) (n : Nat) : IntKind.u8.wrap ((a.toNat : Int) + IntKind.u8.wrap (n : Int)) = ((a + UInt8.ofNat n).toNat : Int) := by
  simp [IntKind.wrap, IntKind.bits, IntKind.signed, UInt8.toNat_add, UInt8.toNat_ofNat']

end Go.Proofs.YtbcjfppdeapamaaDoor
namespace Go.Proofs.YtbcjfppdeapamaaDoor
open Go.RowKit Oct
attribute [local irreducible] wpG
/-- bytes -/
def recB : Rec UInt8 where
  cell c := [.int .u8 (c.toNat : Int)]
  e := 5
  n := 1
  bytes := 1
  z := .int .u8 0
  len := fun _ => rfl
  one := by intro x u h; simp at h; subst h; rfl
  info := by kernel_rfl
  zs := rfl
  pos := by decide
  bpos := by decide
theorem recB_str : ∀ l : List UInt8, Lib.strCells (bs l) = recB.cells l := by
  intro l
  unfold Lib.strCells
  rw [show (bs l).data.toList = l by simp [bs]]
  induction l with
  | nil => rfl
  | cons x l ih => rw [List.map_cons, ih]; rfl
theorem recB_own (w : World) (l : List UInt8) (hl : l.length ≤ 1000) : recB.Own (w.alloc (.cells (recB.cells l).toArray recB.e)) w.heap.size (.slice (some ⟨w.heap.size, 0, none⟩) l.length l.length) l := by
  refine ⟨by rw [Rec.cells_length], .inr ⟨w.heap.size, l.length, (recB.cells l).toArray, rfl, Nat.le_refl _, World.alloc_heap_new w _, Nat.le_refl _, Nat.le_trans hl (by decide), ?_, ?_⟩⟩
  · rw [List.size_toArray, Rec.cells_length]
  · show (recB.cells l).take (l.length * recB.n) = _
    rw [List.take_of_length_le (by rw [Rec.cells_length]; exact Nat.le_refl _)]
/-- append(s, text...) -/
theorem appendS {ops : Array Oper} {rest : List Oper} {o : Oper} {a : Act} {Q : Exit → Act → World → Prop} (w : World) (hgd : o.guard = none) (s x : Operand) (t u : TypeId)
    (ho : o.op = .call { callee := .builtin .append, args := #[s, x], argTypes := #[t, u] }) (ht : Tryd.prog.underlying t = some (.slice recB.e)) (hu : Tryd.prog.underlying u = some .string)
    (base : Nat) (v : Value) (l : List UInt8) (hown : recB.Own w base v l) (hs : a.eval s = v) (y : List UInt8) (hx : a.eval x = .string (bs y)) (hlen : l.length + y.length ≤ 140737488355328) (hbase : base ≤ w.heap.size)
    (h : ∀ A C w', recB.Own w' base (.slice A (l.length + y.length) C) (l ++ y) → Chg (fun k => v.ownBlock = some k) w w' → wpList Tryd.prog ops Q rest (a.put o.dst (.slice A (l.length + y.length) C)) w') : wpList Tryd.prog ops Q (o :: rest) a w := by
  obtain ⟨i, hi, hz, hi1, hi2⟩ := info_parts recB.info
  refine Lib.wpList_append_own_string _ hgd s x t u ho base recB.e i ht hu hi hz hi1 hi2 v l.length (recB.cells l) hs hown (bs y) hx (by rw [bs_size]; exact Nat.le_trans hlen (by decide)) (by rw [bs_size]; exact hlen) hbase ?_
  intro v' w' h2 h3 _
  rw [bs_size, recB_str] at h2
  have h2' : recB.Own w' base v' (l ++ y) := by unfold Rec.Own; rw [recB.cells_append, List.length_append]; exact h2
  have hB : Below base w w' := (Below.refl base w).grown h3 hbase (fun k hk => (Rec.Own.ltV hown k hk).1)
  obtain ⟨A, C, rfl⟩ := owns_slice h2
  exact h A C w' h2' ⟨hB.os, hB.tape, hB.output, hB.size, fun j hj hne => h3.block j hj (fun e => hne e.symm)⟩
theorem b8_len {n : Nat} (h : n ≤ 255) : ((b8 n).toNat : Int) = (n : Int) ∧ IntKind.u8.wrap (n : Int) = (n : Int) ∧ (n : Int) % 256 = (n : Int) := by
  refine ⟨by rw [b8_toNat (by omega)], ?_, by omega⟩
  simp [IntKind.wrap, IntKind.bits, IntKind.signed]; omega
theorem putTs_take {t : List (List UInt8)} {k : Nat} (h : k < t.length) : putTs (t.take (k + 1)) = putTs (t.take k) ++ (b8 t[k].length :: t[k]) := by
  unfold putTs
  rw [List.take_succ_eq_append_getElem h, List.flatMap_append]
  simp
theorem putIs_take {c : List VI} {k : Nat} (h : k < c.length) : putIs (c.take (k + 1)) = putIs (c.take k) ++ [c[k].1, c[k].2] := by
  unfold putIs
  rw [List.take_succ_eq_append_getElem h, List.flatMap_append]
  simp
theorem putTs_len (t : List (List UInt8)) (h : ∀ s ∈ t, s.length ≤ 64) : (putTs t).length ≤ 65 * t.length := by
  induction t with
  | nil => simp [putTs]
  | cons s t ih =>
    have hs := h s (by simp)
    have := ih (fun x hx => h x (by simp [hx]))
    unfold putTs at this ⊢
    rw [List.flatMap_cons, List.length_append, List.length_cons, List.length_cons]
    omega
theorem putIs_len (c : List VI) : (putIs c).length = 2 * c.length := by
  induction c with
  | nil => rfl
  | cons x c ih =>
    unfold putIs at ih ⊢
    rw [List.flatMap_cons, List.length_append, ih, List.length_cons]
    simp; omega
theorem recB_one (w : World) {n : Nat} (h : n ≤ 255) (e : TypeId) : Reads (w.alloc (.cells #[.int .u8 (n : Int)] e)) (.slice (some ⟨w.heap.size, 0, none⟩) 1 1) 1 (recB.cell (b8 n)) := by
  have hc : recB.cell (b8 n) = [.int .u8 (n : Int)] := by show [Value.int .u8 ((b8 n).toNat : Int)] = _; rw [(b8_len h).1]
  have := (Rec.Row.new (R := recB) w [b8 n] e).1
  rw [show recB.cells [b8 n] = [.int .u8 (n : Int)] from by show recB.cell _ ++ [] = _; rw [hc]; rfl] at this
  rw [hc]
  exact this
theorem recB_two (w : World) (x y : UInt8) (e : TypeId) : recB.Row (w.alloc (.cells #[.int .u8 (x.toNat : Int), .int .u8 (y.toNat : Int)] e)) (.slice (some ⟨w.heap.size, 0, none⟩) 2 2) [x, y] := Rec.Row.new (R := recB) w [x, y] e
theorem recB_pair (w : World) {n : Nat} (h : n ≤ 65535) (e : TypeId) : recB.Row (w.alloc (.cells #[.int .u8 ((n : Int) % 256), .int .u8 ((n : Int) / 256)] e)) (.slice (some ⟨w.heap.size, 0, none⟩) 2 2) [b8 n, b8 (n / 256)] := by
  have h1 : ((b8 n).toNat : Int) = (n : Int) % 256 := by unfold b8; rw [UInt8.toNat_ofNat']; omega
  have h2 : ((b8 (n / 256)).toNat : Int) = (n : Int) / 256 := by unfold b8; rw [UInt8.toNat_ofNat']; omega
  have := recB_two w (b8 n) (b8 (n / 256)) e
  rw [h1, h2] at this
  exact this
theorem recB_cells : ∀ l : List UInt8, recB.cells l = bcells l
  | [] => rfl
  | x :: l => by rw [Rec.cells, recB_cells l]; rfl
theorem recB_conv {w : World} {base : Nat} {v : Value} {l : List UInt8} (h : recB.Own w base v l) : (convert 52 9 v).run Tryd.prog w = .ok (.string (bs l)) w := by
  refine conv_own _ _ 5 Tryd.underlying52 Tryd.underlying5 Tryd.underlying9 w base v l.length l ?_
  have : w.ownsRow base recB.e recB.n v l.length (recB.cells l) := h
  rw [recB_cells] at this
  exact this
/-- what Put tells -/
def putR (t : List (List UInt8)) (c : List VI) : Value := if mayV t c = true then .tuple #[.string (bs (putC t c)), .int .i64 0] else .tuple #[.string (bs []), .int .i64 2]
set_option maxRecDepth 100000 in
set_option maxHeartbeats 16000000 in
theorem Put_any (tv cv : Value) (texts : List (List UInt8)) (code : List VI) (w : World) (ht : recS.Row w tv texts) (hc : recIns.Row w cv code) (hlt : texts.length ≤ 140737488355328) (hlc : code.length ≤ 140737488355328) (hm : ∀ s ∈ texts, s.length ≤ 140737488355328) :
    Calls Tryd.prog 11 #[.agg #[tv, cv]] w fun e w' => e = .returned (putR texts code) ∧ Below w.heap.size w w' := by
  have HCK := Lib.hid (fun w' (hB : Below w.heap.size w w') => CCheck_any tv cv texts code w' (ht.below hB) (hc.below hB) hlt hlc hm)
  obtain ⟨at_, ct, rfl, -, hct⟩ := recS_open ht
  obtain ⟨ac, cc, rfl, -, hcc⟩ := recIns_open hc
  have HCT := Lib.hid hct
  have HCC := Lib.hid hcc
  obtain ⟨W1, hW1⟩ : ∃ W1, W1 = w.alloc (.cells #[.slice at_ texts.length ct, .slice ac code.length cc] 25) := ⟨_, rfl⟩
  have hb1 : Below w.heap.size w W1 := by rw [hW1]; exact b_alloc _ _
  have hx : Blk W1 w.heap.size 25 [.slice at_ texts.length ct, .slice ac code.length cc] := by rw [hW1]; exact Blk.new w _ _
  have x0 := hx.cell (k := 0) rfl
  have x1 := hx.cell (k := 1) rfl
  have HB1 := Lib.hid hb1
  have HX := Lib.hid hx
  clear ht hc hct hcc hb1 hx hm
  by_cases hmv : mayV texts code = true
  · obtain ⟨h16, h256, h64⟩ := mayV_parts hmv
    rw [if_pos hmv] at HCK
    have HR := Lib.hid (show putR texts code = .tuple #[.string (bs (putC texts code)), .int .i64 0] by unfold putR; rw [if_pos hmv])
    have H64 := Lib.hid h64
    clear hmv h64
    go_enter Tryd.func11, Tryd.ntmps11
    go_upto_region 1 with fail
    rw [← hW1]
    clear hW1
    go_wp2_with fail
    refine (HCK.out _ HB1.out).mono ?_
    rintro e w2 ⟨rfl, hB⟩
    have HB2 := Lib.hid (bt HB1.out hB)
    have HX2 := Lib.hid (HX.out.below hB)
    clear hB x0 x1
    have x0 := HX2.out.cell (k := 0) rfl
    obtain ⟨q1, q2, q3⟩ := b8_len (n := texts.length) (by omega)
    go_upto_region 5 with fail
    obtain ⟨w3, hw3⟩ : ∃ w3, w3 = w2.alloc (.cells #[.int .u8 (texts.length : Int)] 5) := ⟨_, rfl⟩
    have hb3 : Below w2.heap.size w2 w3 := by rw [hw3]; exact b_alloc _ _
    have ho3 : recB.Own w3 w2.heap.size (.slice (some ⟨w2.heap.size, 0, none⟩) 1 1) [b8 texts.length] := by
      have h := recB_own w2 [b8 texts.length] (by simp)
      rw [show recB.cells [b8 texts.length] = [.int .u8 (texts.length : Int)] from by show [Value.int .u8 ((b8 texts.length).toNat : Int)] = _; rw [q1]] at h
      rw [hw3]; exact h
    have x0 := (HX2.out.below hb3).cell (k := 0) rfl
    rw [← hw3]
    have HB3 := Lib.hid (bt HB2.out hb3)
    have HO3 := Lib.hid ho3
    have HC3 := Lib.hid hb3
    have hsz : w2.heap.size ≤ w3.heap.size := hb3.size
    have hsz0 : w.heap.size ≤ w2.heap.size := HB2.out.size
    clear hw3 hb3 ho3 q1 q2 q3
    go_wp2_with fail
    clear x0
    go_loopw [5, 23] (fun vb vi wr => ∃ (k : Nat) (A : Option Addr) (C : Nat) (l : List UInt8), vb = .slice A l.length C ∧ vi = .int .i64 (k : Int) ∧ k ≤ texts.length ∧ l.length ≤ 1 + 65 * k ∧ Hid (l = b8 texts.length :: putTs (texts.take k)) ∧ Hid (recB.Own wr w2.heap.size (.slice A l.length C) l) ∧ Hid (Below w2.heap.size w2 wr)) (fun _ vi _ => texts.length - (intOf vi).toNat)
    case atStart => exact ⟨0, _, _, [b8 texts.length], rfl, rfl, Nat.zero_le _, by simp, by unfold Hid; simp [putTs], HO3.out, HC3.out⟩
    case round =>
      obtain ⟨k, A, C, l, rfl, rfl, hk, hl, HL, HO, HB⟩ := hrel
      by_cases h0 : k < texts.length
      · obtain ⟨b, off, rfl, d0⟩ := HCT.out k h0
        have d0 := Below.keeps (bt HB2.out HB.out) d0
        have kk0 : (0 : Int) ≤ (k : Int) := by omega
        have kk1 : (k : Int) < (texts.length : Int) := by omega
        have ht64 := H64.out texts[k] (List.getElem_mem h0)
        obtain ⟨q1, q2, q3⟩ := b8_len (n := texts[k].length) (by omega)
        have HT := Lib.hid (putTs_take h0)
        have hbw : w2.heap.size ≤ wr.heap.size := HB.out.size
        clear q1
        go_wp2_with (first | (at_builtin; refine recB.append1V _ (b8 texts[k].length) rfl _ _ 52 rfl Tryd.underlying52 w2.heap.size _ l (HO.out.below (b_alloc _ _)) rfl _ rfl (recB_one wr (by omega) _) (by show (l.length + 1) * 1 ≤ _; omega) (Nat.le_trans hbw (b_alloc _ _).size) ?_; intro g gc wn hon hcn _; have HN := Lib.hid (And.intro hon (And.intro hcn ((HB.out.trans ((b_alloc wr (.cells #[.int .u8 (texts[k].length : Int)] 5)).mono hbw)).trans (hcn.below (fun j hj => (Rec.Own.ltV HO.out j hj).1) (Nat.le_trans hbw (b_alloc _ _).size))))); clear hon hcn) | (at_builtin; refine appendS _ rfl _ _ 52 9 rfl Tryd.underlying52 Tryd.underlying9 w2.heap.size _ (l ++ [b8 texts[k].length]) HN.out.1 rfl texts[k] rfl (by rw [List.length_append, List.length_singleton]; omega) HN.out.2.2.size ?_; intro A2 C2 wm hom hcm; have HM := Lib.hid (And.intro hom (HN.out.2.2.trans (hcm.below (fun j hj => (Rec.Own.ltV HN.out.1 j hj).1) HN.out.2.2.size))); clear hom hcm))
        refine ⟨⟨k + 1, A2, C2, (l ++ [b8 texts[k].length]) ++ texts[k], ?_, by go_num, by omega, ?_, ?_, ?_, HM.out.2⟩, by simp [intOf]; omega⟩
        · rw [List.length_append, List.length_append, List.length_singleton]
        · rw [List.length_append, List.length_append, List.length_singleton]; omega
        · unfold Hid
          rw [HT.out, HL.out, List.append_assoc]
          rfl
        · have := HM.out.1
          rw [← List.length_append] at this
          exact this
      · obtain rfl : k = texts.length := by omega
        have hl2 := HL.out
        rw [List.take_length] at hl2
        have HL2 := Lib.hid hl2
        have x1 := (HX2.out.below HB.out).cell (k := 1) rfl
        have e0 : ¬ (texts.length : Int) < (texts.length : Int) := by omega
        have hbw : w2.heap.size ≤ wr.heap.size := HB.out.size
        have hl3 : l.length ≤ 1041 := by omega
        have lc1 : (code.length : Int) ≤ 256 := by omega
        clear hl2 h0 HL
        go_upto_region 11 with (at_builtin; refine recB.appendNV _ rfl _ _ 52 rfl Tryd.underlying52 w2.heap.size _ l (HO.out.below (b_alloc _ _)) rfl _ [b8 code.length, b8 (code.length / 256)] (recB_pair wr (by omega) _) rfl (by show (l.length + 2) * 1 ≤ _; omega) (Nat.le_trans hbw (b_alloc _ _).size) ?_; intro A3 C3 wn hon hcn; have HN := Lib.hid (And.intro hon ((HB.out.trans ((b_alloc wr (.cells #[.int .u8 ((code.length : Int) % 256), .int .u8 ((code.length : Int) / 256)] 5)).mono hbw)).trans (hcn.below (fun j hj => (Rec.Own.ltV HO.out j hj).1) (Nat.le_trans hbw (b_alloc _ _).size)))); clear hon hcn)
        obtain ⟨l2, hl2⟩ : ∃ l2, l2 = l ++ [b8 code.length, b8 (code.length / 256)] := ⟨_, rfl⟩
        have hlen2 : l2.length = l.length + 2 := by rw [hl2, List.length_append]; rfl
        rw [← hl2] at HN
        rw [← hlen2]
        have hl2l : l2.length ≤ 1043 := by rw [hl2, List.length_append]; simp; omega
        have HLL := Lib.hid (show l2 = b8 texts.length :: (putTs texts ++ [b8 code.length, b8 (code.length / 256)]) by rw [hl2, HL2.out]; rfl)
        have HN1 := Lib.hid HN.out.1
        have HN2 := Lib.hid HN.out.2
        have x1 := (HX2.out.below HN2.out).cell (k := 1) rfl
        clear hl2 hlen2 HN HO HB hbw hl hl3 HL2 e0
        go_wp2_with fail
        clear x1
        go_loopw [5, 51] (fun vb vi wr => ∃ (k : Nat) (A : Option Addr) (C : Nat) (l : List UInt8), vb = .slice A l.length C ∧ vi = .int .i64 (k : Int) ∧ k ≤ code.length ∧ l.length ≤ 1043 + 2 * k ∧ Hid (l = l2 ++ putIs (code.take k)) ∧ Hid (recB.Own wr w2.heap.size (.slice A l.length C) l) ∧ Hid (Below w2.heap.size w2 wr)) (fun _ vi _ => code.length - (intOf vi).toNat)
        case atStart => exact ⟨0, _, _, l2, rfl, rfl, Nat.zero_le _, by omega, by unfold Hid; simp [putIs], HN1.out, HN2.out⟩
        case round =>
          obtain ⟨k, A, C, l, rfl, rfl, hk, hl, HL, HO, HB⟩ := hrel
          have hbw : w2.heap.size ≤ wr.heap.size := HB.out.size
          by_cases h0 : k < code.length
          · obtain ⟨b, off, rfl, d0, d1⟩ := HCC.out k h0
            have d0 := Below.keeps (bt HB2.out HB.out) d0
            have d1 := Below.keeps (bt HB2.out HB.out) d1
            have kk0 : (0 : Int) ≤ (k : Int) := by omega
            have kk1 : (k : Int) < (code.length : Int) := by omega
            have HT := Lib.hid (putIs_take h0)
            go_upto_region 14 with fail
            obtain ⟨wa, hwa⟩ : ∃ wa, wa = wr.alloc (.cells #[.int .u8 (code[k].1.toNat : Int), .int .u8 (code[k].2.toNat : Int)] 39) := ⟨_, rfl⟩
            have hba : Below wr.heap.size wr wa := by rw [hwa]; exact b_alloc _ _
            have hblk : Blk wa wr.heap.size 39 [.int .u8 (code[k].1.toNat : Int), .int .u8 (code[k].2.toNat : Int)] := by rw [hwa]; exact Blk.new wr _ _
            rw [← hwa]
            have g0 := hblk.cell (k := 0) rfl
            have g1 := hblk.cell (k := 1) rfl
            have HOA := Lib.hid (HO.out.below hba)
            have HBA := Lib.hid (HB.out.trans (hba.mono hbw))
            have hbwa : w2.heap.size ≤ wa.heap.size := HBA.out.size
            clear hwa hba hblk d0 d1 HO HB
            go_wp2_with (at_builtin; refine recB.appendNV _ rfl _ _ 52 rfl Tryd.underlying52 w2.heap.size _ l (HOA.out.below (b_alloc _ _)) rfl _ [code[k].1, code[k].2] (recB_two wa _ _ _) rfl (by show (l.length + 2) * 1 ≤ _; omega) (Nat.le_trans hbwa (b_alloc _ _).size) ?_; intro A3 C3 wn hon hcn; have HN := Lib.hid (And.intro hon ((HBA.out.trans ((b_alloc wa (.cells #[.int .u8 (code[k].1.toNat : Int), .int .u8 (code[k].2.toNat : Int)] 5)).mono hbwa)).trans (hcn.below (fun j hj => (Rec.Own.ltV HOA.out j hj).1) (Nat.le_trans hbwa (b_alloc _ _).size)))); clear hon hcn)
            refine ⟨⟨k + 1, A3, C3, l ++ [code[k].1, code[k].2], ?_, by go_num, by omega, ?_, ?_, HN.out.1, HN.out.2⟩, by simp [intOf]; omega⟩
            · rw [List.length_append]; rfl
            · rw [List.length_append]; simp; omega
            · unfold Hid
              rw [HT.out, HL.out, List.append_assoc]
          · obtain rfl : k = code.length := by omega
            have hcv := recB_conv HO.out
            have hfl := HL.out
            rw [List.take_length, HLL.out] at hfl
            have HF := Lib.hid (show l = putC texts code by rw [hfl]; unfold putC; simp)
            have e0 : ¬ (code.length : Int) < (code.length : Int) := by omega
            clear hfl h0
            go_wp2_with fail
            go_ret2
            exact ⟨by rw [HR.out, ← HF.out]; rfl, bt HB2.out HB.out⟩
  · rw [if_neg hmv] at HCK
    have HR := Lib.hid (show putR texts code = .tuple #[.string (bs []), .int .i64 2] by unfold putR; rw [if_neg hmv])
    clear hmv
    go_enter Tryd.func11, Tryd.ntmps11
    go_upto_region 1 with fail
    rw [← hW1]
    clear hW1
    go_wp2_with fail
    refine (HCK.out _ HB1.out).mono ?_
    rintro e w2 ⟨rfl, hB⟩
    have HB2 := Lib.hid (bt HB1.out hB)
    clear hB x0 x1
    go_wp2_with fail
    go_ret2
    exact ⟨by rw [HR.out]; rfl, HB2.out⟩
end Go.Proofs.YtbcjfppdeapamaaDoor
namespace Go.Proofs.YtbcjfppdeapamaaDoor
open Go.RowKit Oct
attribute [local irreducible] wpG
/-- what a block of the reference keeps -/
def keptR (b : Vb) : List UInt8 := if b.did = true then b.want else []
section
variable {w w' : World} {base G : Nat} {tv cv bv sv ev : Value} {role : UInt8} {s : Vs}
end
section
variable {w w' w3 : World} {base G : Nat} {tv cv bv sv ev bv' sv' : Value} {role : UInt8} {s : Vs}
end

theorem effV_restR {p a : UInt8} (h1 : p ≠ 1) (h2 : p ≠ 2) (h3 : p ≠ 3) (h4 : p ≠ 4) (h5 : p ≠ 5) (h6 : p ≠ 6) (h7 : p ≠ 7) (h8 : p ≠ 8) (h9 : p ≠ 9) (h10 : p ≠ 10) (h11 : p ≠ 11) (h12 : p ≠ 12) (h13 : p ≠ 13) (h14 : p ≠ 14) (h15 : p ≠ 15) (h16 : p ≠ 16) (h17 : p ≠ 17) (h18 : p ≠ 18) (h19 : p ≠ 19) (h22 : p ≠ 22) (h23 : p ≠ 23) : effV (p, a) = ([], []) := by
  have h : p.toNat = 0 ∨ p.toNat = 20 ∨ p.toNat = 21 ∨ 24 ≤ p.toNat := by
    have e1 : p.toNat ≠ 1 := fun e => h1 (UInt8.toNat_inj.1 e)
    have e2 : p.toNat ≠ 2 := fun e => h2 (UInt8.toNat_inj.1 e)
    have e3 : p.toNat ≠ 3 := fun e => h3 (UInt8.toNat_inj.1 e)
    have e4 : p.toNat ≠ 4 := fun e => h4 (UInt8.toNat_inj.1 e)
    have e5 : p.toNat ≠ 5 := fun e => h5 (UInt8.toNat_inj.1 e)
    have e6 : p.toNat ≠ 6 := fun e => h6 (UInt8.toNat_inj.1 e)
    have e7 : p.toNat ≠ 7 := fun e => h7 (UInt8.toNat_inj.1 e)
    have e8 : p.toNat ≠ 8 := fun e => h8 (UInt8.toNat_inj.1 e)
    have e9 : p.toNat ≠ 9 := fun e => h9 (UInt8.toNat_inj.1 e)
    have e10 : p.toNat ≠ 10 := fun e => h10 (UInt8.toNat_inj.1 e)
    have e11 : p.toNat ≠ 11 := fun e => h11 (UInt8.toNat_inj.1 e)
    have e12 : p.toNat ≠ 12 := fun e => h12 (UInt8.toNat_inj.1 e)
    have e13 : p.toNat ≠ 13 := fun e => h13 (UInt8.toNat_inj.1 e)
    have e14 : p.toNat ≠ 14 := fun e => h14 (UInt8.toNat_inj.1 e)
    have e15 : p.toNat ≠ 15 := fun e => h15 (UInt8.toNat_inj.1 e)
    have e16 : p.toNat ≠ 16 := fun e => h16 (UInt8.toNat_inj.1 e)
    have e17 : p.toNat ≠ 17 := fun e => h17 (UInt8.toNat_inj.1 e)
    have e18 : p.toNat ≠ 18 := fun e => h18 (UInt8.toNat_inj.1 e)
    have e19 : p.toNat ≠ 19 := fun e => h19 (UInt8.toNat_inj.1 e)
    have e22 : p.toNat ≠ 22 := fun e => h22 (UInt8.toNat_inj.1 e)
    have e23 : p.toNat ≠ 23 := fun e => h23 (UInt8.toNat_inj.1 e)
    omega
  unfold effV
  rcases h with h | h | h | h
  · rw [show ((p, a) : VI).1.toNat = 0 from h]; rfl
  · rw [show ((p, a) : VI).1.toNat = 20 from h]; rfl
  · rw [show ((p, a) : VI).1.toNat = 21 from h]; rfl
  · have : effs.getD ((p, a) : VI).1.toNat ([], []) = ([], []) := by
      rw [List.getD, List.getElem?_eq_none (by rw [effs_len]; exact h)]; rfl
    rw [this]; rfl
def rbV (b : Vb) : Value := .agg #[.int .u8 (b.op.toNat : Int), .string (bs b.opn), .string (bs (keptR b)), .bool b.did, .int .i64 (b.at_ : Int)]
def noVb : Vb := ⟨0, [], [], 0, false⟩
theorem results_cell_tmpR {P : Program} {fn : Func} {p u : Tmp} {ty : TypeId} {tmps : Array Value} {w : World} {v : Value} {b : Nat} (hr : fn.results = #[.cell p ty, .tmp u]) (hp : tmps.getD p undef = .pointer (some ⟨b, 0, none⟩))
    (hl : (loadVar ty ⟨b, 0, none⟩).run P w = .ok v w) : (results fn tmps).run P w = .ok (.tuple #[v, tmps.getD u undef]) w := by
  simp only [Array.getD_eq_getD_getElem?] at hp ⊢
  simp [results, hr, Sem.run_bind, Result.andThen, hp, asAddr, hl]
theorem Chg.set1R {w : World} {b k : Nat} {v : Value} : Chg (fun x => x = b) w (w.setCell ⟨b, k, none⟩ v) := Chg.setCell _ _ _ rfl
/-- five cells, written -/
theorem rb_store {w : World} {b : Nat} {t : TypeId} {a0 a1 a2 a3 a4 : Value} (hx : Blk w b t [a0, a1, a2, a3, a4]) (v0 v1 v2 v3 v4 : Value) :
    Blk (((((w.setCell ⟨b, 0, none⟩ v0).setCell ⟨b, 1, none⟩ v1).setCell ⟨b, 2, none⟩ v2).setCell ⟨b, 3, none⟩ v3).setCell ⟨b, 4, none⟩ v4) b t [v0, v1, v2, v3, v4] ∧
    Chg (fun x => x = b) w (((((w.setCell ⟨b, 0, none⟩ v0).setCell ⟨b, 1, none⟩ v1).setCell ⟨b, 2, none⟩ v2).setCell ⟨b, 3, none⟩ v3).setCell ⟨b, 4, none⟩ v4) :=
  ⟨((((hx.set 0 v0).set 1 v1).set 2 v2).set 3 v3).set 4 v4, (((Chg.set1R.trans Chg.set1R).trans Chg.set1R).trans Chg.set1R).trans Chg.set1R⟩
section
variable {w : World} {base G : Nat} {tv cv bv sv ev : Value} {role : UInt8} {s : Vs}
end
end Go.Proofs.YtbcjfppdeapamaaDoor
namespace Go.Proofs.YtbcjfppdeapamaaDoor
open Go.RowKit Oct
attribute [local irreducible] wpG
/-- the innermost block, or none -/
def lastR (l : List Vb) : Vb := l.getLast?.getD noVb
theorem elseBad_last (l : List Vb) : elseBad l.getLast? = (!l.getLast?.isSome || ((lastR l).op != 19 || (lastR l).did)) := by
  unfold lastR elseBad
  cases l.getLast? <;> rfl
theorem some_last (l : List Vb) : l.getLast?.isSome = !decide (l = []) := by
  cases l with
  | nil => rfl
  | cons x l => rw [List.getLast?_cons]; simp
section
variable {w : World} {base G : Nat} {tv cv bv sv ev : Value} {role : UInt8} {s : Vs}
end
end Go.Proofs.YtbcjfppdeapamaaDoor
