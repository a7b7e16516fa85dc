/- Lemmas for PartAgain, part 2: walks of the functions that it reaches, and the plain laws behind them. -/
import Derived.OwnWalkIn
import Derived.TacticsInMore
import Derived.LoopNIn
import Derived.LoopIn
import Derived.RangeFuncBox
import Derived.Test.YtdebgkjekcppmaaPartAgainK1
set_option linter.unusedSimpArgs false
set_option linter.unusedVariables false
namespace Go.Proofs.Ytdebgkjekcppmaa
open Go.RowKit

attribute [go_sem] growAt growUpon
/-- the one world is the other one, grown -/
def Bel (w w' : World) : Prop := Below w.heap.size w w'
theorem Bel.refl (w : World) : Bel w w := Below.refl _ _
theorem Bel.trans {a b c : World} (h : Bel a b) (k : Bel b c) : Bel a c := bt h k

/-- which slots are known by what: by the number of the operation in its region -/
def knownAt {R : World → World → Prop} : List (Nat × Known R) → Nat → Option (Known R)
  | [], _ => none
  | (n, g) :: l, k => if n = k then some g else knownAt l k

def plainOp : Op → Bool
  | .move _ | .assign _ | .pick .. | .load .. | .binOp .. | .unOp .. | .convert .. | .slice .. | .fieldAddr .. | .field .. | .indexAddr .. | .index .. | .extract .. | .build .. | .makeInterface .. | .makeFunc .. => true
  | .call { callee := .builtin .len, .. } | .call { callee := .builtin .cap, .. } | .call { callee := .builtin .min, .. } | .call { callee := .builtin .max, .. } => true
  | _ => false

section
variable {P : Program} {ops : Array Oper} {C : World → Prop} {R : World → World → Prop} {F : Nat → Option (Known R)} {Q : Facts → Act → Prop}

theorem no_enter {α : Type} {r : Result α} {g : α → Value} {f : FuncId} {args : Array Value} {w : World} : r.andThen (fun x w => .ok (Next.value (g x)) w) ≠ .ok (.enter f args) w := by
  cases r <;> simp [Result.andThen]
theorem plain_no_enter {ρ : Operand → Value} {o : Oper} (h : plainOp o.op = true) {w w' : World} {f : FuncId} {args : Array Value} : (execOp ρ o).run P w ≠ .ok (.enter f args) w' := by
  unfold execOp
  unfold plainOp at h
  split at h
  all_goals first
    | (rename_i he; simp only [he]; simp only [Sem.run_bind, Sem.run_pure]; first | exact no_enter | exact no_enter (g := fun x => x) | (simp; done))
    | (rename_i he; simp only [he, resolve, invoke, builtin, Sem.run_bind, Sem.run_pure, Result.andThen_ok]; exact no_enter (g := fun x => x))
    | cases h

theorem readAt_of_quiet {o : Oper} {a : Act} {C' : World → Prop} {w : World} {v : Value} (hp : plainOp o.op = true) (h : o.quietAt P a C' w v) : readAt P o a w v := by
  unfold Oper.quietAt at h
  unfold readAt
  have hne := fun f args w' => plain_no_enter (P := P) (ρ := a.eval) hp (w := w) (w' := w') (f := f) (args := args)
  generalize (execOp a.eval o).run P w = r at *
  cases r with
  | ok n w' =>
    cases n <;> simp only [Oper.quietUpon] at h <;> simp only [readUpon]
    case value u => exact h
    case skip => exact h
    case enter f args => exact absurd rfl (hne f args w')
  | halt x w' => simp only [Oper.quietUpon] at h

theorem wpG_skip {k : Nat} {o : Oper} {rest : List Oper} {S : Facts} {a : Act} (hw : Region.wanted o (yielded ops a.tmps) = false)
    (h : ∀ K : Act → Prop, (∀ a, wpG P ops C R F Q (k + 1) rest S a → K a) → wpQuiet P ops C K [o] a) : wpG P ops C R F Q k (o :: rest) S a := by
  have := h _ fun _ h => h
  unfold wpQuiet at this
  rw [if_neg (by rw [hw]; exact Bool.false_ne_true)] at this
  unfold wpG
  rw [if_neg (by rw [hw]; exact Bool.false_ne_true)]
  exact this
theorem wpG_quiet {k : Nat} {o : Oper} {rest : List Oper} {S : Facts} {a : Act} (hF : F k = none) (hp : plainOp o.op = true)
    (h : ∀ K : Act → Prop, (∀ a, wpG P ops C R F Q (k + 1) rest S a → K a) → wpQuiet P ops (fun _ => True) K [o] a) : wpG P ops C R F Q k (o :: rest) S a := by
  have := h _ fun _ h => h
  unfold wpQuiet at this
  unfold wpG
  split
  · rename_i hw
    rw [if_pos hw] at this
    obtain ⟨v, h1, h2⟩ := this
    simp only [hF]
    exact ⟨v, fun w hw _ => readAt_of_quiet hp (h1 w trivial), h2⟩
  · rename_i hw
    rw [if_neg hw] at this
    exact this
theorem wpG_known {k : Nat} {o : Oper} {rest : List Oper} {S : Facts} {a : Act} (g : Known R) (hF : F k = some g) (hw : Region.wanted o (yielded ops a.tmps) = true)
    (h1 : ∀ (w' : World) (G : Value → World → Prop), C w' → S.at ops o w' → (∀ x w'', R w' w'' → (∀ φ, g.fact x = some φ → φ w'') → G (g.val x) w'') → growAt P o a w' G)
    (h2 : ∀ x (K : Act → Prop), (∀ a, wpG P ops C R F Q (k + 1) rest (S.add o (g.fact x)) a → K a) → K (a.put o.dst (g.val x))) : wpG P ops C R F Q k (o :: rest) S a := by
  unfold wpG
  rw [if_pos hw]
  simp only [hF]
  exact ⟨fun w' hC hS => h1 w' _ hC hS fun x w'' hR hφ => ⟨hR, x, rfl, hφ⟩, fun x => h2 x _ fun _ h => h⟩
/-- a slot whose value is told -/
theorem wpG_exact {k : Nat} {o : Oper} {rest : List Oper} {S : Facts} {a : Act} {v : Value} (hF : F k = some (.exact R v)) (hw : Region.wanted o (yielded ops a.tmps) = true)
    (h1 : ∀ (w' : World) (G : Value → World → Prop), C w' → S.at ops o w' → (∀ w'', R w' w'' → G v w'') → growAt P o a w' G)
    (h2 : ∀ (K : Act → Prop), (∀ a, wpG P ops C R F Q (k + 1) rest S a → K a) → K (a.put o.dst v)) : wpG P ops C R F Q k (o :: rest) S a := by
  refine wpG_known (.exact R v) hF hw (fun w' G hC hS hG => h1 w' G hC hS fun w'' hR => hG () w'' hR (fun _ h => by cases h)) (fun x K hK => h2 K fun a ha => hK a ?_)
  simp only [Known.exact, Facts.add_none]
  exact ha

theorem at0 {S : Facts} {o o' : Oper} {φ : World → Prop} {w : World} (h : (S.add o (some φ)).at ops o' w) (ha : o.apart ops o' = false) : φ w := (Facts.at_some h).1 ha
theorem at_on {S : Facts} {o o' : Oper} {φ : Option (World → Prop)} {w : World} (h : (S.add o φ).at ops o' w) : S.at ops o' w := fun p hp => h p (.inr hp)
theorem at1 {S : Facts} {o o' o1 : Oper} {φ : World → Prop} {φ1 : Option (World → Prop)} {w : World} (h : ((S.add o (some φ)).add o1 φ1).at ops o' w) (ha : o.apart ops o' = false) : φ w := at0 (at_on h) ha
theorem at2 {S : Facts} {o o' o1 o2 : Oper} {φ : World → Prop} {φ1 φ2 : Option (World → Prop)} {w : World} (h : (((S.add o (some φ)).add o1 φ1).add o2 φ2).at ops o' w) (ha : o.apart ops o' = false) : φ w := at0 (at_on (at_on h)) ha
theorem at3 {S : Facts} {o o' o1 o2 o3 : Oper} {φ : World → Prop} {φ1 φ2 φ3 : Option (World → Prop)} {w : World} (h : ((((S.add o (some φ)).add o1 φ1).add o2 φ2).add o3 φ3).at ops o' w) (ha : o.apart ops o' = false) : φ w := at0 (at_on (at_on (at_on h))) ha

theorem all0 {S : Facts} {o : Oper} {φ : World → Prop} {w : World} (h : (S.add o (some φ)).all w) : φ w := (Facts.all_some.1 h).1
theorem all_on {S : Facts} {o : Oper} {φ : Option (World → Prop)} {w : World} (h : (S.add o φ).all w) : S.all w := fun p hp => h p (.inr hp)
theorem all1 {S : Facts} {o o1 : Oper} {φ : World → Prop} {φ1 : Option (World → Prop)} {w : World} (h : ((S.add o (some φ)).add o1 φ1).all w) : φ w := all0 (all_on h)
theorem all2 {S : Facts} {o o1 o2 : Oper} {φ : World → Prop} {φ1 φ2 : Option (World → Prop)} {w : World} (h : (((S.add o (some φ)).add o1 φ1).add o2 φ2).all w) : φ w := all0 (all_on (all_on h))

/-- one walk of the text's order, the world growing -/
theorem region_known {id : Nat} {Q : Exit → Act → World → Prop} {a : Act} {w : World} {l : List Oper} (L : List (Nat × Known Bel)) (hm : P.follows .mixedOrders = true) (hB : splitB l.toArray l.length = true)
    (h : wpG P l.toArray (Bel w) Bel (knownAt L) (fun S a' => ∀ w', Bel w w' → S.all w' → Q .normal a' w') 0 l Facts.none a) : (Code.region id l.toArray true).wp P Q a w :=
  wp_region_grown (knownAt L) l.length hm hB (fun _ _ h k => Bel.trans h k) (b_drew w) (by rw [List.take_length, List.drop_length]; exact h)
/-- .. up to the n-th operation, the others one behind the other -/
theorem region_tail {id : Nat} {Q : Exit → Act → World → Prop} {a : Act} {w : World} {l : List Oper} (n : Nat) (L : List (Nat × Known Bel)) (hm : P.follows .mixedOrders = true) (hB : splitB l.toArray n = true)
    (h : wpG P l.toArray (Bel w) Bel (knownAt L) (fun S a' => ∀ w', Bel w w' → S.all w' → wpList P l.toArray Q (l.drop n) a' w') 0 (l.take n) Facts.none a) : (Code.region id l.toArray true).wp P Q a w :=
  wp_region_grown (knownAt L) n hm hB (fun _ _ h k => Bel.trans h k) (b_drew w) h
theorem region_known_in {id k r : Nat} {Q : Exit → Act → World → Prop} {a : Act} {w : World} {l : List Oper} (L : List (Nat × Known Bel)) (hm : P.follows .mixedOrders = true) (hB : splitB l.toArray l.length = true) (hd : l.all noDefer = true)
    (h : wpG P l.toArray (Bel w) Bel (knownAt L) (fun S a' => ∀ w', Bel w w' → S.all w' → Q .normal a' w') 0 l Facts.none a) : (Code.region id l.toArray true).wpIn (Fence.wide.inRound r) k P Q a w :=
  wpIn_region_grown (knownAt L) l.length hm hB hd (fun _ _ h k => Bel.trans h k) (b_drew w) (by rw [List.take_length, List.drop_length]; exact h)
theorem region_tail_in {id k r : Nat} {Q : Exit → Act → World → Prop} {a : Act} {w : World} {l : List Oper} (n : Nat) (L : List (Nat × Known Bel)) (hm : P.follows .mixedOrders = true) (hB : splitB l.toArray n = true) (hd : l.all noDefer = true)
    (h : wpG P l.toArray (Bel w) Bel (knownAt L) (fun S a' => ∀ w', Bel w w' → S.all w' → wpListIn (Fence.wide.inRound r) k P l.toArray Q (l.drop n) a' w') 0 (l.take n) Facts.none a) : (Code.region id l.toArray true).wpIn (Fence.wide.inRound r) k P Q a w :=
  wpIn_region_grown (knownAt L) n hm hB hd (fun _ _ h k => Bel.trans h k) (b_drew w) h
/-- a callee's contract with a told result -/
theorem calls_told {f : FuncId} {args : Array Value} {w : World} {v : Value} {G : Value → World → Prop} (hG : ∀ w'', Bel w w'' → G v w'') (h : Calls P f args w fun e w' => e = .returned v ∧ Below w.heap.size w w') :
    Calls P f args w fun e w'' => ∃ u, e = .returned u ∧ G u w'' := h.mono fun _ _ ⟨he, hb⟩ => ⟨v, he, hG _ hb⟩
end
end Go.Proofs.Ytdebgkjekcppmaa
namespace Go.Proofs.Ytdebgkjekcppmaa
open Go.RowKit Oct

set_option maxRecDepth 100000 in
set_option maxHeartbeats 1000000 in
theorem rot_any (x : UInt32) (n : Nat) (w : World) (h1 : 1 ≤ n) (h2 : n ≤ 31) :
    Calls Try.prog 92 #[.int .u32 (U x), .int .i64 n] w fun e w' => e = .returned (.int .u32 (U (rotr x n))) ∧ Below w.heap.size w w' := by
  have n1 : (1 : Int) ≤ (n : Int) := by omega
  have n2 : (n : Int) ≤ 31 := by omega
  go_enter Try.func92, Try.ntmps92
  go_wp2
  go_quiet (fail)
  rw [U_shr x n (by omega), U_shl x (32 - n) (by omega), U_or]
  go_wp2
  go_ret
  exact ⟨rfl, Below.drewN' _ _⟩
end Go.Proofs.Ytdebgkjekcppmaa
namespace Go.Proofs.Ytdebgkjekcppmaa
open Go.RowKit Oct

set_option maxRecDepth 100000 in
set_option maxHeartbeats 1000000 in
theorem words_any (l : List UInt8) (w : World) (hl : 64 ≤ l.length) :
    Calls Try.prog 90 #[.string (bs l)] w fun e w' => e = .returned (.agg (ucells (wl l 64)).toArray) ∧ Below w.heap.size w w' := by
  have hz := (zero_of_info (P := Try.prog) (t := 121) (v := .agg (ucells (wrow l 0)).toArray) (n := 64) (by kernel_rfl)).1
  go_enter Try.func90, Try.ntmps90
  go_wp2
  clear hz
  go_loopw [7] (fun t wx => ∃ k : Nat, k ≤ 16 ∧ t = .int .i64 k ∧ Hid (Blk wx w.heap.size 121 (ucells (wrow l k))) ∧ Hid (Below w.heap.size w wx)) (fun t _ => 16 - (intOf t).toNat)
  case atStart => exact ⟨0, by omega, rfl, Blk.new w _ _, b_alloc w _⟩
  case round =>
    obtain ⟨k, hk, rfl, HB, HW⟩ := hrel
    by_cases hk16 : k < 16
    · have k1 : (k : Int) < 16 := by omega
      have k0 : (0 : Int) ≤ (k : Int) := by omega
      have k64 : (k : Int) < 64 := by omega
      have x0 : (0 : Int) ≤ 4 * (k : Int) := by omega
      have x1 : 4 * (k : Int) < (l.length : Int) := by omega
      have x2 : 4 * (k : Int) + 1 < (l.length : Int) := by omega
      have x3 : 4 * (k : Int) + 2 < (l.length : Int) := by omega
      have y2 : 0 ≤ 4 * (k : Int) + 1 := by omega
      have y3 : 0 ≤ 4 * (k : Int) + 2 := by omega
      have y4 : 0 ≤ 4 * (k : Int) + 3 := by omega
      have x4 : 4 * (k : Int) + 3 < (l.length : Int) := by omega
      go_wp2
      refine region_tail 31 [] (by kernel_rfl) (by kernel_rfl) ?_
      simp only [List.take_succ_cons, List.take_zero, List.drop_succ_cons, List.drop_zero]
      (repeat (first | (refine wpG_skip (by kernel_rfl) (fun K hK => ?_); go_big_quiet_skip; refine wpQuiet_nil (hK _ ?_); clear hK K) | (refine wpG_quiet (by rfl) (by rfl) (fun K hK => ?_); go_big_quiet_want; go_big_quiet_op; go_big_quiet_on; refine wpQuiet_nil (hK _ ?_); clear hK K)))
      (try simp only [U_byte, U_shl24, U_shl16, U_shl8, U_shr3, U_shr10, U_or, U_xor, U_and, U_add, U_add', U_add3, U_add4, U_add5])
      (intro w' hB hA; simp only [Facts.all_some, Facts.all_none, and_true] at hA)
      have B' := HB.out.below hB
      have hc := wrow_set l k (by omega)
      rw [wnext_low l k hk16] at hc
      have hlen : k < (ucells (wrow l k)).length := by rw [ucells_length, wrow_length l k (by omega)]; omega
      have HE := Lib.hid (be32_get l (4 * k) (by omega) (by omega) (by omega) (by omega))
      obtain ⟨cu, c1⟩ := B'.ex hlen
      have f1 := B'.free hlen
      have HS := Lib.hid (B'.set k (.int .u32 (U (be32 l (4 * k)))))
      have HC := Lib.hid hc
      have HB1 := Lib.hid hB
      clear B' hc hB hlen
      go_wp2
      rw [HE.out]
      refine ⟨⟨k + 1, by omega, by go_num, ?_, (bt HW.out HB1.out).setCell (Nat.le_refl _) _⟩, by simp [intOf]; omega⟩
      have := HS.out
      rw [ucells_set, HC.out] at this
      exact this
    · have hk : k = 16 := by omega
      subst hk
      go_wp2
      go_loopw [4] (fun t wx => ∃ k : Nat, 16 ≤ k ∧ k ≤ 64 ∧ t = .int .i64 k ∧ Hid (Blk wx w.heap.size 121 (ucells (wrow l k))) ∧ Hid (Below w.heap.size w wx)) (fun t _ => 64 - (intOf t).toNat)
      case atStart => exact ⟨16, by omega, by omega, rfl, HB, HW⟩
      case round =>
        obtain ⟨k, hk, hk', rfl, HB, HW⟩ := hrel
        by_cases hk16 : k < 64
        · have k1 : (k : Int) < 64 := by omega
          have k0 : (0 : Int) ≤ (k : Int) := by omega
          have x0 : (0 : Int) ≤ (k : Int) - 15 := by omega
          have x1 : (k : Int) - 15 < 64 := by omega
          have y0 : (0 : Int) ≤ (k : Int) - 2 := by omega
          have y1 : (k : Int) - 2 < 64 := by omega
          have z0 : (0 : Int) ≤ (k : Int) - 16 := by omega
          have z1 : (k : Int) - 16 < 64 := by omega
          have v0 : (0 : Int) ≤ (k : Int) - 7 := by omega
          have v1 : (k : Int) - 7 < 64 := by omega
          have c15 := HB.out.cell (wrow_at l k (k - 15) (by omega) (by omega))
          have c2 := HB.out.cell (wrow_at l k (k - 2) (by omega) (by omega))
          have c16 := HB.out.cell (wrow_at l k (k - 16) (by omega) (by omega))
          have c7 := HB.out.cell (wrow_at l k (k - 7) (by omega) (by omega))
          have hc := wrow_set l k (by omega)
          rw [wnext_high l k hk] at hc
          generalize (wl l k).getD (k - 15) 0 = a at *
          generalize (wl l k).getD (k - 2) 0 = b at *
          generalize (wl l k).getD (k - 16) 0 = c at *
          generalize (wl l k).getD (k - 7) 0 = d at *
          have HC := Lib.hid hc
          clear hc
          go_wp2
          go_quiet (fail)
          go_wp2
          refine region_tail 29 [(4, .exact Bel (.int .u32 (U c))), (6, .exact Bel (.int .u32 (U (rotr a 7)))), (8, .exact Bel (.int .u32 (U (rotr a 18)))), (17, .exact Bel (.int .u32 (U d))), (20, .exact Bel (.int .u32 (U (rotr b 17)))), (22, .exact Bel (.int .u32 (U (rotr b 19))))] (by kernel_rfl) (by kernel_rfl) ?_
          simp only [List.take_succ_cons, List.take_zero, List.drop_succ_cons, List.drop_zero]
          (repeat (first | (refine wpG_skip (by kernel_rfl) (fun K hK => ?_); go_big_quiet_skip; refine wpQuiet_nil (hK _ ?_); clear hK K) | (refine wpG_quiet (by rfl) (by rfl) (fun K hK => ?_); go_big_quiet_want; go_big_quiet_op; go_big_quiet_on; refine wpQuiet_nil (hK _ ?_); clear hK K)))
          refine wpG_exact rfl (by kernel_rfl) (fun w' G hB hS hG => ?_) (fun K hK => ?_)
          · have cc := Below.keeps (bt (Below.drewN' wr nq) hB) c16
            go_simp
            exact hG _ (Bel.refl _)
          go_simp; refine hK _ ?_; clear hK K; (repeat (first | (refine wpG_skip (by kernel_rfl) (fun K hK => ?_); go_big_quiet_skip; refine wpQuiet_nil (hK _ ?_); clear hK K) | (refine wpG_quiet (by rfl) (by rfl) (fun K hK => ?_); go_big_quiet_want; go_big_quiet_op; go_big_quiet_on; refine wpQuiet_nil (hK _ ?_); clear hK K)))
          refine wpG_exact rfl (by kernel_rfl) (fun w' G hB hS hG => ?_) (fun K hK => ?_)
          · go_simp
            exact calls_told hG (rot_any a 7 _ (by omega) (by omega))
          go_simp; refine hK _ ?_; clear hK K; (repeat (first | (refine wpG_skip (by kernel_rfl) (fun K hK => ?_); go_big_quiet_skip; refine wpQuiet_nil (hK _ ?_); clear hK K) | (refine wpG_quiet (by rfl) (by rfl) (fun K hK => ?_); go_big_quiet_want; go_big_quiet_op; go_big_quiet_on; refine wpQuiet_nil (hK _ ?_); clear hK K)))
          refine wpG_exact rfl (by kernel_rfl) (fun w' G hB hS hG => ?_) (fun K hK => ?_)
          · go_simp
            exact calls_told hG (rot_any a 18 _ (by omega) (by omega))
          go_simp; refine hK _ ?_; clear hK K; (repeat (first | (refine wpG_skip (by kernel_rfl) (fun K hK => ?_); go_big_quiet_skip; refine wpQuiet_nil (hK _ ?_); clear hK K) | (refine wpG_quiet (by rfl) (by rfl) (fun K hK => ?_); go_big_quiet_want; go_big_quiet_op; go_big_quiet_on; refine wpQuiet_nil (hK _ ?_); clear hK K)))
          refine wpG_exact rfl (by kernel_rfl) (fun w' G hB hS hG => ?_) (fun K hK => ?_)
          · have cc := Below.keeps (bt (Below.drewN' wr nq) hB) c7
            go_simp
            exact hG _ (Bel.refl _)
          go_simp; refine hK _ ?_; clear hK K; (repeat (first | (refine wpG_skip (by kernel_rfl) (fun K hK => ?_); go_big_quiet_skip; refine wpQuiet_nil (hK _ ?_); clear hK K) | (refine wpG_quiet (by rfl) (by rfl) (fun K hK => ?_); go_big_quiet_want; go_big_quiet_op; go_big_quiet_on; refine wpQuiet_nil (hK _ ?_); clear hK K)))
          refine wpG_exact rfl (by kernel_rfl) (fun w' G hB hS hG => ?_) (fun K hK => ?_)
          · go_simp
            exact calls_told hG (rot_any b 17 _ (by omega) (by omega))
          go_simp; refine hK _ ?_; clear hK K; (repeat (first | (refine wpG_skip (by kernel_rfl) (fun K hK => ?_); go_big_quiet_skip; refine wpQuiet_nil (hK _ ?_); clear hK K) | (refine wpG_quiet (by rfl) (by rfl) (fun K hK => ?_); go_big_quiet_want; go_big_quiet_op; go_big_quiet_on; refine wpQuiet_nil (hK _ ?_); clear hK K)))
          refine wpG_exact rfl (by kernel_rfl) (fun w' G hB hS hG => ?_) (fun K hK => ?_)
          · go_simp
            exact calls_told hG (rot_any b 19 _ (by omega) (by omega))
          go_simp; refine hK _ ?_; clear hK K; (repeat (first | (refine wpG_skip (by kernel_rfl) (fun K hK => ?_); go_big_quiet_skip; refine wpQuiet_nil (hK _ ?_); clear hK K) | (refine wpG_quiet (by rfl) (by rfl) (fun K hK => ?_); go_big_quiet_want; go_big_quiet_op; go_big_quiet_on; refine wpQuiet_nil (hK _ ?_); clear hK K)))
          (try simp only [U_byte, U_shl24, U_shl16, U_shl8, U_shr3, U_shr10, U_or, U_xor, U_and, U_add, U_add', U_add3, U_add4, U_add5])
          (intro w' hB hA; simp only [Facts.all_some, Facts.all_none, and_true] at hA)
          replace hB := bt (Below.drewN' wr nq) hB
          have B' := HB.out.below hB
          have hlen : k < (ucells (wrow l k)).length := by rw [ucells_length, wrow_length l k (by omega)]; omega
          obtain ⟨cu, c1⟩ := B'.ex hlen
          have f1 := B'.free hlen
          have HS := Lib.hid (B'.set k (.int .u32 (U (c + sg0 a + d + sg1 b))))
          have HB1 := Lib.hid hB
          clear B' hB hlen
          go_wp2
          refine ⟨?_, ?measure⟩
          · (repeat apply Exists.intro)
            refine ⟨⟨k + 1, by omega, by omega, by go_num, ?_, (bt HW.out HB1.out).setCell (Nat.le_refl _) _⟩, rfl⟩
            have := HS.out
            rw [ucells_set, HC.out] at this
            exact this
          case measure => simp [intOf]; omega
        · have hk : k = 64 := by omega
          subst hk
          rw [wrow_end] at HB
          have HI := Lib.hid (show (Try.prog.info? 121).map (·.size) = some (ucells (wl l 64)).length by rw [ucells_length, wl_length]; kernel_rfl)
          go_wp2_with first | (refine blk_load w.heap.size (ucells (wl l 64)) HB.out (.array 64 85) rfl _ _ rfl rfl (by kernel_rfl) rfl HI.out ?_) | (refine blk_store w.heap.size (ucells (wl l 64)) (ucells (wl l 64)) HB.out rfl _ _ _ rfl rfl rfl HI.out rfl (ucells_one _) ?_)
          refine bodyPost_ret (blk_result rfl rfl (HB.out.row _) (.array 64 85) (by kernel_rfl) rfl HI.out) rfl ⟨rfl, below_setRow HW.out (Nat.le_refl _) _⟩
end Go.Proofs.Ytdebgkjekcppmaa
namespace Go.Proofs.Ytdebgkjekcppmaa
open Go.RowKit Oct

theorem not_xor (x : UInt32) : (0xFFFFFFFF : UInt32) ^^^ x = ~~~x := by
  apply UInt32.toBitVec_inj.1
  simp only [UInt32.toBitVec_xor, UInt32.toBitVec_not]
  exact BitVec.allOnes_xor
theorem U_not (x : UInt32) : bits .xor .u32 (if IntKind.u32.signed = true then -1 else IntKind.u32.max) (U x) = U (~~~x) := by
  have e : (if IntKind.u32.signed = true then -1 else IntKind.u32.max : Int) = U 0xFFFFFFFF := rfl
  rw [e, U_xor, not_xor]

def ktab : List UInt32 := [
    0x428a2f98, 0x71374491, 0xb5c0fbcf, 0xe9b5dba5, 0x3956c25b, 0x59f111f1, 0x923f82a4, 0xab1c5ed5,
    0xd807aa98, 0x12835b01, 0x243185be, 0x550c7dc3, 0x72be5d74, 0x80deb1fe, 0x9bdc06a7, 0xc19bf174,
    0xe49b69c1, 0xefbe4786, 0x0fc19dc6, 0x240ca1cc, 0x2de92c6f, 0x4a7484aa, 0x5cb0a9dc, 0x76f988da,
    0x983e5152, 0xa831c66d, 0xb00327c8, 0xbf597fc7, 0xc6e00bf3, 0xd5a79147, 0x06ca6351, 0x14292967,
    0x27b70a85, 0x2e1b2138, 0x4d2c6dfc, 0x53380d13, 0x650a7354, 0x766a0abb, 0x81c2c92e, 0x92722c85,
    0xa2bfe8a1, 0xa81a664b, 0xc24b8b70, 0xc76c51a3, 0xd192e819, 0xd6990624, 0xf40e3585, 0x106aa070,
    0x19a4c116, 0x1e376c08, 0x2748774c, 0x34b0bcb5, 0x391c0cb3, 0x4ed8aa4a, 0x5b9cca4f, 0x682e6ff3,
    0x748f82ee, 0x78a5636f, 0x84c87814, 0x8cc70208, 0x90befffa, 0xa4506ceb, 0xbef9a3f7, 0xc67178f2]
theorem ktab_length : ktab.length = 64 := rfl
def h0 : List UInt32 := [0x6a09e667, 0xbb67ae85, 0x3c6ef372, 0xa54ff53a, 0x510e527f, 0x9b05688c, 0x1f83d9ab, 0x5be0cd19]
def zrow (n : Nat) : List UInt32 := List.replicate n 0

def tmp1 (e f g h k w : UInt32) : UInt32 := h + (rotr e 6 ^^^ rotr e 11 ^^^ rotr e 25) + ((e &&& f) ^^^ (~~~e &&& g)) + k + w
def tmp2 (a b c : UInt32) : UInt32 := (rotr a 2 ^^^ rotr a 13 ^^^ rotr a 22) + ((a &&& b) ^^^ (a &&& c) ^^^ (b &&& c))
def step (k w : UInt32) : List UInt32 → List UInt32
  | [a, b, c, d, e, f, g, h] => [tmp1 e f g h k w + tmp2 a b c, a, b, c, d + tmp1 e f g h k w, e, f, g]
  | v => v
def rounds (w h : List UInt32) : Nat → List UInt32
  | 0 => h
  | t + 1 => step (ktab.getD t 0) (w.getD t 0) (rounds w h t)
def blockF (h : List UInt32) (b : List UInt8) : List UInt32 := List.zipWith (· + ·) h (rounds (wl b 64) h 64)
theorem step_length (k w : UInt32) (v : List UInt32) (h : v.length = 8) : (step k w v).length = 8 := by
  match v, h with
  | [a, b, c, d, e, f, g, h], _ => rfl
theorem rounds_length (w h : List UInt32) (hl : h.length = 8) (t : Nat) : (rounds w h t).length = 8 := by
  induction t with
  | zero => exact hl
  | succ t ih => exact step_length _ _ _ ih
theorem blockF_length (h : List UInt32) (b : List UInt8) (hl : h.length = 8) : (blockF h b).length = 8 := by simp [blockF, rounds_length _ h hl, hl]
theorem eight (v : List UInt32) (h : v.length = 8) : ∃ a b c d e f g k, v = [a, b, c, d, e, f, g, k] := by
  match v, h with
  | [a, b, c, d, e, f, g, h], _ => exact ⟨a, b, c, d, e, f, g, h, rfl⟩
theorem u_at (l : List UInt32) (k n : Nat) (hn : l.length = n) (h : k < n) : (ucells l)[k]? = some (.int .u32 (U (l.getD k 0))) := by
  subst hn
  rw [ucells_at l k h, List.getD_eq_getElem?_getD, List.getElem?_eq_getElem h, Option.getD_some]
/-- the cells of a Hash -/
def hcells (h : List UInt32) (rest : List UInt8) (n : Int) : List Value := ucells h ++ [.string (bs rest), .int .u64 n]
theorem hcells_at (h : List UInt32) (rest : List UInt8) (n : Int) (k : Nat) (hl : h.length = 8) (hk : k < 8) : (hcells h rest n)[k]? = some (.int .u32 (U (h.getD k 0))) := by
  rw [hcells, List.getElem?_append_left (by rw [ucells_length]; omega)]
  exact u_at h k 8 hl hk
theorem hcells_length (h : List UInt32) (rest : List UInt8) (n : Int) (hl : h.length = 8) : (hcells h rest n).length = 10 := by simp [hcells, ucells_length, hl]
theorem hcells_rest (h : List UInt32) (rest : List UInt8) (n : Int) (hl : h.length = 8) : (hcells h rest n)[8]? = some (.string (bs rest)) := by
  rw [hcells, List.getElem?_append_right (by rw [ucells_length]; omega), ucells_length, hl]; rfl
theorem hcells_n (h : List UInt32) (rest : List UInt8) (n : Int) (hl : h.length = 8) : (hcells h rest n)[9]? = some (.int .u64 n) := by
  rw [hcells, List.getElem?_append_right (by rw [ucells_length]; omega), ucells_length, hl]; rfl
theorem hcells_set (h : List UInt32) (rest : List UInt8) (n : Int) (k : Nat) (x : UInt32) (hl : h.length = 8) (hk : k < 8) : (hcells h rest n).set k (.int .u32 (U x)) = hcells (h.set k x) rest n := by
  rw [hcells, List.set_append_left _ _ (by rw [ucells_length]; omega), ucells_set]; rfl
theorem hcells_set8 (h : List UInt32) (rest r' : List UInt8) (n : Int) (hl : h.length = 8) : (hcells h rest n).set 8 (.string (bs r')) = hcells h r' n := by
  rw [hcells, List.set_append_right _ _ (by rw [ucells_length]; omega), ucells_length, hl]; rfl
theorem hcells_set9 (h : List UInt32) (rest : List UInt8) (n n' : Int) (hl : h.length = 8) : (hcells h rest n).set 9 (.int .u64 n') = hcells h rest n' := by
  rw [hcells, List.set_append_right _ _ (by rw [ucells_length]; omega), ucells_length, hl]; rfl
/-- the first k words added -/
def added (h v : List UInt32) (k : Nat) : List UInt32 := List.zipWith (· + ·) (h.take k) (v.take k) ++ h.drop k
theorem added_zero (h v : List UInt32) : added h v 0 = h := by simp [added]
theorem added_all (h v : List UInt32) (hl : h.length = 8) (hv : v.length = 8) : added h v 8 = List.zipWith (· + ·) h v := by
  simp [added, List.take_of_length_le (Nat.le_of_eq hl), List.take_of_length_le (Nat.le_of_eq hv), List.drop_of_length_le (Nat.le_of_eq hl)]
theorem added_length (h v : List UInt32) (hl : h.length = 8) (hv : v.length = 8) (k : Nat) (hk : k ≤ 8) : (added h v k).length = 8 := by
  simp [added, hl, hv]; omega
theorem added_step (h v : List UInt32) (hl : h.length = 8) (hv : v.length = 8) (k : Nat) (hk : k < 8) :
    (added h v k).getD k 0 = h.getD k 0 ∧ (added h v k).set k (h.getD k 0 + v.getD k 0) = added h v (k + 1) := by
  obtain ⟨a, b, c, d, e, f, g, i, rfl⟩ := eight h hl
  obtain ⟨a', b', c', d', e', f', g', i', rfl⟩ := eight v hv
  match k, hk with
  | 0, _ | 1, _ | 2, _ | 3, _ | 4, _ | 5, _ | 6, _ | 7, _ => exact ⟨rfl, rfl⟩
end Go.Proofs.Ytdebgkjekcppmaa
namespace Go.Proofs.Ytdebgkjekcppmaa
open Go.RowKit Oct

set_option maxRecDepth 100000 in
set_option maxHeartbeats 1000000 in
theorem table_any (w : World) :
    Calls Try.prog 91 #[] w fun e w' => e = .returned (.agg (ucells ktab).toArray) ∧ Below w.heap.size w w' := by
  have hz := (zero_of_info (P := Try.prog) (t := 121) (v := .agg (ucells (zrow 64)).toArray) (n := 64) (by kernel_rfl)).1
  go_enter Try.func91, Try.ntmps91
  have HN := Lib.hid (Blk.new w (ucells (zrow 64)) 121)
  have HI := Lib.hid (show (Try.prog.info? 121).map (·.size) = some (ucells ktab).length by kernel_rfl)
  go_wp2_with first | (refine blk_build (ucells ktab) rfl _ _ rfl (by kernel_rfl) ?_) | (refine blk_store w.heap.size (ucells (zrow 64)) (ucells ktab) HN.out rfl _ _ _ rfl rfl rfl HI.out rfl (ucells_one _) ?_)
  refine bodyPost_ret (blk_result rfl rfl (HN.out.row _) (.array 64 85) (by kernel_rfl) rfl HI.out) rfl ⟨rfl, below_setRow (b_alloc w _) (Nat.le_refl _) _⟩
set_option maxRecDepth 100000 in
theorem index8 (V : List UInt32) (hV : V.length = 8) (k : Nat) (hk : k < 8) (w : World) :
    (Instr.index 86 (.agg (ucells V).toArray) (.int .i64 (k : Int))).run Try.prog w = .ok (.int .u32 (U (V.getD k 0))) w := by
  obtain ⟨a, b, c, d, e, f, g, i, rfl⟩ := eight V hV
  rcases (by omega : k = 0 ∨ k = 1 ∨ k = 2 ∨ k = 3 ∨ k = 4 ∨ k = 5 ∨ k = 6 ∨ k = 7) with rfl | rfl | rfl | rfl | rfl | rfl | rfl | rfl
  all_goals clear hk hV
  all_goals kernel_rfl
end Go.Proofs.Ytdebgkjekcppmaa
namespace Go.Proofs.Ytdebgkjekcppmaa
open Go.RowKit

/-- each operation waits for earlier ones alone -/
def lexDeps (md : Region.Mode) (ops : Array Oper) : Bool :=
  (List.range ops.size).all fun i => match ops[i]? with
    | some o => o.after.all fun e => !Region.binds md e || decide (e.on < i)
    | none => true
def invSteps (P : Program) (md : Region.Mode) (ops : Array Oper) (I : Array Bool → Act → World → Prop) (Q : Exit → Act → World → Prop) : Nat → List Oper → Prop
  | _, [] => True
  | k, o :: rest => (∀ listed a w, I listed a w → listed.getD k true = false → (∀ e ∈ o.after, Region.binds md e = true → listed.getD e.on false = true) →
      (if Region.wanted o (yielded ops a.tmps) = true then o.wp P a w (fun a' w' => I (listed.setIfInBounds k true) a' w') Q else I (listed.setIfInBounds k true) (a.put o.dst undef) w)) ∧ invSteps P md ops I Q (k + 1) rest

section
variable {P : Program} {md : Region.Mode} {ops : Array Oper} {I : Array Bool → Act → World → Prop} {Q : Exit → Act → World → Prop}
theorem invSteps_at : ∀ (l : List Oper) (k i : Nat) (o : Oper), invSteps P md ops I Q k l → l[i]? = some o →
    ∀ listed a w, I listed a w → listed.getD (k + i) true = false → (∀ e ∈ o.after, Region.binds md e = true → listed.getD e.on false = true) →
      (if Region.wanted o (yielded ops a.tmps) = true then o.wp P a w (fun a' w' => I (listed.setIfInBounds (k + i) true) a' w') Q else I (listed.setIfInBounds (k + i) true) (a.put o.dst undef) w)
  | [], _, _, _, _, h => by simp at h
  | o :: l, k, 0, o', hs, h => by
    simp only [List.getElem?_cons_zero, Option.some.injEq] at h
    subst h
    exact hs.1
  | o :: l, k, i + 1, o', hs, h => by
    have := invSteps_at l (k + 1) i o' hs.2 (by simpa using h)
    rw [show k + (i + 1) = k + 1 + i by omega]
    exact this
theorem all_listed (hl : lexDeps md ops = true) {listed : Array Bool} (hs : listed.size = ops.size) (hr : Region.ready md ops listed = []) : ∀ n i, i < n → i < ops.size → listed.getD i false = true := by
  intro n
  induction n with
  | zero => intro i h; omega
  | succ n ih =>
    intro i hi his
    have ho : ops[i]? = some ops[i] := Array.getElem?_eq_getElem his
    have h1 := List.all_eq_true.1 hl i (List.mem_range.2 his)
    simp only [ho, Array.all_eq_true_iff_forall_mem] at h1
    cases hb : listed.getD i true with
    | true =>
      have hx : i < listed.size := by omega
      simp only [Array.getD_eq_getD_getElem?, Array.getElem?_eq_getElem hx, Option.getD_some] at hb ⊢
      exact hb
    | false =>
      have : i ∈ Region.ready md ops listed := mem_ready.2 ⟨hb, _, ho, fun e he hbi => by
        have h2 := h1 e he
        rw [hbi] at h2
        have h3 : e.on < i := by simpa using h2
        exact ih e.on (by omega) (by omega)⟩
      rw [hr] at this
      cases this
theorem count_set_true : ∀ (l : List Bool) (i : Nat), l[i]? = some false → (l.set i true).count false + 1 = l.count false
  | [], _, h => by simp at h
  | b :: l, 0, h => by simp at h; subst h; simp
  | b :: l, i + 1, h => by
    have := count_set_true l i (by simpa using h)
    cases b <;> simp [List.set_cons_succ, List.count_cons] <;> omega
theorem wpAny_inv (hlex : lexDeps md ops = true)
    (hend : ∀ listed a w, I listed a w → listed.size = ops.size → (∀ i, i < ops.size → listed.getD i false = true) → Q .normal a w) (hstep : invSteps P md ops I Q 0 ops.toList) :
    ∀ (fuel : Nat) (listed : Array Bool) (a : Act) (w : World), listed.size = ops.size → listed.toList.count false ≤ fuel → I listed a w → wpAny P md ops Q fuel listed a w := by
  intro fuel
  induction fuel with
  | zero =>
    intro listed a w hs hc hI
    have hr : Region.ready md ops listed = [] := by
      rw [List.eq_nil_iff_forall_not_mem]
      intro j hj
      obtain ⟨h1, o, h2, _⟩ := mem_ready.1 hj
      have hjs : j < listed.size := by rw [hs]; exact (Array.getElem?_eq_some_iff.1 h2).1
      have : false ∈ listed.toList := by
        simp only [Array.getD_eq_getD_getElem?, Array.getElem?_eq_getElem hjs, Option.getD_some] at h1
        rw [← h1]; simp
      have := List.count_pos_iff.2 this
      omega
    exact ⟨hr, hend listed a w hI hs fun i hi => all_listed hlex hs hr (i + 1) i (by omega) hi⟩
  | succ fuel ih =>
    intro listed a w hs hc hI
    refine ⟨fun hr => hend listed a w hI hs fun i hi => all_listed hlex hs hr (i + 1) i (by omega) hi, fun i hi => ?_⟩
    obtain ⟨h1, o, h2, h3⟩ := mem_ready.1 hi
    have his : i < listed.size := by rw [hs]; exact (Array.getElem?_eq_some_iff.1 h2).1
    have hget : listed.toList[i]? = some false := by
      simp only [Array.getD_eq_getD_getElem?, Array.getElem?_eq_getElem his, Option.getD_some] at h1
      rw [Array.getElem?_toList, Array.getElem?_eq_getElem his, h1]
    have hcc := count_set_true _ _ hget
    have hnext : ∀ a' w', I (listed.setIfInBounds i true) a' w' → wpAny P md ops Q fuel (listed.setIfInBounds i true) a' w' := fun a' w' hI' =>
      ih _ a' w' (by simpa using hs) (by rw [Array.toList_setIfInBounds]; omega) hI'
    have hk := invSteps_at ops.toList 0 i o hstep (by simpa using h2) listed a w hI (by simpa using h1) h3
    rw [Nat.zero_add] at hk
    unfold wpOp
    simp only [h2]
    split
    · rename_i hw
      rw [if_pos hw] at hk
      exact .inl (Oper.wp_mono hnext hk)
    · rename_i hw
      rw [if_neg hw] at hk
      exact hnext _ _ hk
/-- a drawn region by an invariant -/
theorem region_inv {id : Nat} {a : Act} {w : World} {l : List Oper} (I : Array Bool → Act → World → Prop) (hm : P.follows .mixedOrders = true) (hlex : lexDeps .any l.toArray = true)
    (h0 : I (Array.replicate l.length false) a w.drew) (hend : ∀ listed a w, I listed a w → listed.size = l.length → (∀ i, i < l.length → listed.getD i false = true) → Q .normal a w)
    (hstep : invSteps P .any l.toArray I Q 0 l) : (Code.region id l.toArray true).wp P Q a w :=
  wp_region_any hm (wpAny_inv hlex (fun listed a w h hs hall => hend listed a w h (by simpa using hs) (fun i hi => hall i (by simpa using hi))) (by simpa using hstep) _ _ _ _ (by simp) (by simp) (by simpa using h0))
end
end Go.Proofs.Ytdebgkjekcppmaa
namespace Go.Proofs.Ytdebgkjekcppmaa
open Go.RowKit Oct

def sc (d : Bool) (v : Value) : Value := bif d then v else undef
@[go_sem] theorem sc_true (v : Value) : sc true v = v := rfl
@[go_sem] theorem sc_false (v : Value) : sc false v = undef := rfl

/-- what is known of the three blocks on the way -/
def BI (w0 w : World) (t64 t8 : TypeId) (W H : List UInt32) (d7 d8 d9 d10 d11 d12 : Bool) (b4 b5 b6 : Nat) : Prop :=
  Below w0.heap.size w0 w ∧ (d7 = true → w0.heap.size ≤ b4 ∧ Blk w b4 t64 (ucells (bif d10 then W else zrow 64))) ∧ (d8 = true → w0.heap.size ≤ b5 ∧ Blk w b5 t64 (ucells (bif d11 then ktab else zrow 64))) ∧
    (d9 = true → w0.heap.size ≤ b6 ∧ Blk w b6 t8 (ucells (bif d12 then H else zrow 8))) ∧ (d7 = true → d8 = true → b4 ≠ b5) ∧ (d7 = true → d9 = true → b4 ≠ b6) ∧ (d8 = true → d9 = true → b5 ≠ b6) ∧
    (d10 = true → d7 = true) ∧ (d11 = true → d8 = true) ∧ (d12 = true → d9 = true)
section
variable {w0 w : World} {t64 t8 : TypeId} {W H : List UInt32} {d7 d8 d9 d10 d11 d12 : Bool} {b4 b5 b6 : Nat}
theorem BI.below {w' : World} (h : BI w0 w t64 t8 W H d7 d8 d9 d10 d11 d12 b4 b5 b6) (hB : Below w.heap.size w w') : BI w0 w' t64 t8 W H d7 d8 d9 d10 d11 d12 b4 b5 b6 := by
  obtain ⟨h0, h1, h2, h3, h4⟩ := h
  exact ⟨bt h0 hB, fun e => ⟨(h1 e).1, (h1 e).2.below hB⟩, fun e => ⟨(h2 e).1, (h2 e).2.below hB⟩, fun e => ⟨(h3 e).1, (h3 e).2.below hB⟩, h4⟩
theorem ff {d : Bool} (h : d = true → false = true) : d = false := by cases d <;> simp_all
theorem BI.alloc4 (h : BI w0 w t64 t8 W H false d8 d9 d10 d11 d12 b4 b5 b6) : BI w0 (w.alloc (.cells (ucells (zrow 64)).toArray t64)) t64 t8 W H true d8 d9 d10 d11 d12 w.heap.size b5 b6 := by
  have hb := BI.below h (b_alloc w (.cells (ucells (zrow 64)).toArray t64))
  obtain ⟨h0, h1, h2, h3, h4, h5, h6, h7, h8, h9⟩ := h
  obtain rfl := ff h7
  exact ⟨hb.1, fun _ => ⟨h0.size, Blk.new _ _ _⟩, hb.2.2.1, hb.2.2.2.1, fun _ e => Nat.ne_of_gt (h2 e).2.lt, fun _ e => Nat.ne_of_gt (h3 e).2.lt, h6, fun e => (by cases e), h8, h9⟩
theorem BI.alloc5 (h : BI w0 w t64 t8 W H d7 false d9 d10 d11 d12 b4 b5 b6) : BI w0 (w.alloc (.cells (ucells (zrow 64)).toArray t64)) t64 t8 W H d7 true d9 d10 d11 d12 b4 w.heap.size b6 := by
  have hb := BI.below h (b_alloc w (.cells (ucells (zrow 64)).toArray t64))
  obtain ⟨h0, h1, h2, h3, h4, h5, h6, h7, h8, h9⟩ := h
  obtain rfl := ff h8
  exact ⟨hb.1, hb.2.1, fun _ => ⟨h0.size, Blk.new _ _ _⟩, hb.2.2.2.1, fun e _ => Nat.ne_of_lt (h1 e).2.lt, h5, fun _ e => Nat.ne_of_gt (h3 e).2.lt, h7, fun e => (by cases e), h9⟩
theorem BI.alloc6 (h : BI w0 w t64 t8 W H d7 d8 false d10 d11 d12 b4 b5 b6) : BI w0 (w.alloc (.cells (ucells (zrow 8)).toArray t8)) t64 t8 W H d7 d8 true d10 d11 d12 b4 b5 w.heap.size := by
  have hb := BI.below h (b_alloc w (.cells (ucells (zrow 8)).toArray t8))
  obtain ⟨h0, h1, h2, h3, h4, h5, h6, h7, h8, h9⟩ := h
  obtain rfl := ff h9
  exact ⟨hb.1, hb.2.1, hb.2.2.1, fun _ => ⟨h0.size, Blk.new _ _ _⟩, h4, fun e _ => Nat.ne_of_lt (h1 e).2.lt, fun e _ => Nat.ne_of_lt (h2 e).2.lt, h7, h8, fun e => (by cases e)⟩
theorem Blk.other {w : World} {b b' : Nat} {t : TypeId} {cs : List Value} (h : Blk w b t cs) (hne : b' ≠ b) (cs' : Array Value) : Blk (w.setRow b' cs') b t cs := by
  unfold Blk; rw [heap_setRow_ne w b' cs' b (Ne.symm hne)]; exact h
theorem BI.store4 (h : BI w0 w t64 t8 W H true d8 d9 d10 d11 d12 b4 b5 b6) : BI w0 (w.setRow b4 (ucells W).toArray) t64 t8 W H true d8 d9 true d11 d12 b4 b5 b6 := by
  obtain ⟨h0, h1, h2, h3, h4, h5, h6, h7, h8, h9⟩ := h
  exact ⟨below_setRow h0 (h1 rfl).1 _, fun _ => ⟨(h1 rfl).1, (h1 rfl).2.row _⟩, fun e => ⟨(h2 e).1, (h2 e).2.other (h4 rfl e) _⟩, fun e => ⟨(h3 e).1, (h3 e).2.other (h5 rfl e) _⟩, h4, h5, h6, fun _ => rfl, h8, h9⟩
theorem BI.store5 (h : BI w0 w t64 t8 W H d7 true d9 d10 d11 d12 b4 b5 b6) : BI w0 (w.setRow b5 (ucells ktab).toArray) t64 t8 W H d7 true d9 d10 true d12 b4 b5 b6 := by
  obtain ⟨h0, h1, h2, h3, h4, h5, h6, h7, h8, h9⟩ := h
  exact ⟨below_setRow h0 (h2 rfl).1 _, fun e => ⟨(h1 e).1, (h1 e).2.other (Ne.symm (h4 e rfl)) _⟩, fun _ => ⟨(h2 rfl).1, (h2 rfl).2.row _⟩, fun e => ⟨(h3 e).1, (h3 e).2.other (h6 rfl e) _⟩, h4, h5, h6, h7, fun _ => rfl, h9⟩
theorem BI.store6 (h : BI w0 w t64 t8 W H d7 d8 true d10 d11 d12 b4 b5 b6) : BI w0 (w.setRow b6 (ucells H).toArray) t64 t8 W H d7 d8 true d10 d11 true b4 b5 b6 := by
  obtain ⟨h0, h1, h2, h3, h4, h5, h6, h7, h8, h9⟩ := h
  exact ⟨below_setRow h0 (h3 rfl).1 _, fun e => ⟨(h1 e).1, (h1 e).2.other (Ne.symm (h5 e rfl)) _⟩, fun e => ⟨(h2 e).1, (h2 e).2.other (Ne.symm (h6 e rfl)) _⟩, fun _ => ⟨(h3 rfl).1, (h3 rfl).2.row _⟩, h4, h5, h6, h7, h8, fun _ => rfl⟩
end
def BInv (w0 : World) (p : Nat) (l : List UInt8) (h : List UInt32) (listed : Array Bool) (a : Act) (w : World) : Prop :=
  ∃ d0 d1 d2 d3 d4 d5 d6 d7 d8 d9 d10 d11 d12 : Bool, ∃ b4 b5 b6 : Nat, listed = #[d0, d1, d2, d3, d4, d5, d6, d7, d8, d9, d10, d11, d12] ∧
    a = { tmps := List.toArray ((.pointer (some ⟨p, 0, none⟩)) :: (.string (bs l)) :: undef :: undef :: (sc d7 (.pointer (some ⟨b4, 0, none⟩))) :: (sc d8 (.pointer (some ⟨b5, 0, none⟩))) :: (sc d9 (.pointer (some ⟨b6, 0, none⟩))) :: undef :: undef :: undef :: undef :: undef :: undef :: undef :: undef :: undef :: undef :: undef :: (sc d0 (.string (bs l))) :: (sc d1 (.agg (ucells (wl l 64)).toArray)) :: (sc d2 (.agg (ucells ktab).toArray)) :: (sc d3 (.pointer (some ⟨p, 0, none⟩))) :: (sc d4 (.pointer (some ⟨p, 0, none⟩))) :: (sc d5 (.pointer (some ⟨p, 0, none⟩))) :: (sc d6 (.agg (ucells h).toArray)) :: undef :: undef :: undef :: undef :: undef :: undef :: undef :: undef :: undef :: undef :: undef :: undef :: undef :: undef :: undef :: undef :: undef :: undef :: undef :: undef :: undef :: undef :: undef :: undef :: undef :: undef :: undef :: undef :: undef :: undef :: undef :: undef :: undef :: undef :: undef :: undef :: undef :: undef :: undef :: undef :: undef :: undef :: undef :: undef :: undef :: undef :: undef :: undef :: undef :: undef :: undef :: undef :: undef :: undef :: undef :: undef :: undef :: undef :: undef :: undef :: undef :: undef :: undef :: undef :: undef :: undef :: undef :: undef :: undef :: undef :: undef :: undef :: undef :: undef :: undef :: undef :: undef :: undef :: undef :: undef :: undef :: undef :: undef :: undef :: undef :: undef :: undef :: undef :: undef :: undef :: undef :: undef :: undef :: undef :: undef :: []), defers := [] } ∧ Hid (BI w0 w 121 86 (wl l 64) h d7 d8 d9 d10 d11 d12 b4 b5 b6)

set_option maxRecDepth 100000 in
set_option maxHeartbeats 8000000 in
theorem block_any (p : Nat) (h : List UInt32) (hl : h.length = 8) (rest : List UInt8) (n : Int) (l : List UInt8) (h64 : 64 ≤ l.length) (w : World) (hB : Blk w p 89 (hcells h rest n)) :
    Calls Try.prog 62 #[.pointer (some ⟨p, 0, none⟩), .string (bs l)] w fun e w' => e = .returned (.tuple #[]) ∧ Blk w' p 89 (hcells (blockF h l) rest n) ∧ Chg (· = p) w w' := by
  have hz1 := (zero_of_info (P := Try.prog) (t := 121) (v := .agg (ucells (zrow 64)).toArray) (n := 64) (by kernel_rfl)).1
  have hz2 := (zero_of_info (P := Try.prog) (t := 86) (v := .agg (ucells (zrow 8)).toArray) (n := 8) (by kernel_rfl)).1
  have HB := Lib.hid hB
  have H64 := Lib.hid h64
  have HL := Lib.hid hl
  have H8 := Lib.hid (show (Try.prog.info? 86).map (·.size) = some (ucells h).length by rw [ucells_length, hl]; kernel_rfl)
  have I64 := Lib.hid (show (Try.prog.info? 121).map (·.size) = some (ucells (wl l 64)).length by rw [ucells_length, wl_length]; kernel_rfl)
  have IK := Lib.hid (show (Try.prog.info? 121).map (·.size) = some (ucells ktab).length by kernel_rfl)
  clear hB
  go_enter Try.func62, Try.ntmps62
  go_wp2
  refine region_inv (BInv w p l h) (by kernel_rfl) (by kernel_rfl) ⟨false, false, false, false, false, false, false, false, false, false, false, false, false, 0, 0, 0, rfl, rfl, ?_⟩ ?_ ?_
  · exact ⟨b_drew w, fun e => (by cases e), fun e => (by cases e), fun e => (by cases e), fun e => (by cases e), fun e => (by cases e), fun e => (by cases e), fun e => (by cases e), fun e => (by cases e), fun e => (by cases e)⟩
  · intro listed a wx hI hs hall
    obtain ⟨d0, d1, d2, d3, d4, d5, d6, d7, d8, d9, d10, d11, d12, b4, b5, b6, rfl, rfl, hBI⟩ := hI
    have e0 : d0 = true := by simpa using hall 0 (by decide)
    have e1 : d1 = true := by simpa using hall 1 (by decide)
    have e2 : d2 = true := by simpa using hall 2 (by decide)
    have e3 : d3 = true := by simpa using hall 3 (by decide)
    have e4 : d4 = true := by simpa using hall 4 (by decide)
    have e5 : d5 = true := by simpa using hall 5 (by decide)
    have e6 : d6 = true := by simpa using hall 6 (by decide)
    have e7 : d7 = true := by simpa using hall 7 (by decide)
    have e8 : d8 = true := by simpa using hall 8 (by decide)
    have e9 : d9 = true := by simpa using hall 9 (by decide)
    have e10 : d10 = true := by simpa using hall 10 (by decide)
    have e11 : d11 = true := by simpa using hall 11 (by decide)
    have e12 : d12 = true := by simpa using hall 12 (by decide)
    simp only [e0, e1, e2, e3, e4, e5, e6, e7, e8, e9, e10, e11, e12, sc_true] at hBI ⊢
    clear e0 e1 e2 e3 e4 e5 e6 e7 e8 e9 e10 e11 e12 hall hs
    obtain ⟨hw, h4, h5, h6, n45, n46, n56, -⟩ := hBI.out
    have B4 : Hid (Blk wx b4 121 (ucells (wl l 64))) := (h4 rfl).2
    have B5 : Hid (Blk wx b5 121 (ucells ktab)) := (h5 rfl).2
    have B6 : Hid (Blk wx b6 86 (ucells h)) := (h6 rfl).2
    have BP := Lib.hid (HB.out.below hw)
    have N46 : Hid (b4 ≠ b6) := n46 rfl rfl
    have N56 : Hid (b5 ≠ b6) := n56 rfl rfl
    have NP : Hid (p ≠ b6) := (by have := HB.out.lt; have := (h6 rfl).1; show p ≠ b6; omega)
    have HW := Lib.hid hw
    have HG6 := Lib.hid (h6 rfl).1
    clear hw h4 h5 h6 n45 n46 n56 hBI hz1 hz2 d0 d1 d2 d3 d4 d5 d6 d7 d8 d9 d10 d11 d12
    go_wp2
    go_loopw [25] (fun t ux => ∃ k : Nat, k ≤ 64 ∧ t = .int .i64 k ∧ Hid (Blk ux b6 86 (ucells (rounds (wl l 64) h k))) ∧ Hid (Chg (· = b6) wx ux)) (fun t _ => 64 - (intOf t).toNat)
    case atStart => exact ⟨0, by omega, rfl, B6, Chg.refl _ _⟩
    case round =>
      obtain ⟨k, hk, rfl, HB6, HC6⟩ := hrel
      by_cases hk64 : k < 64
      · have k1 : (k : Int) < 64 := by omega
        have k0 : (0 : Int) ≤ (k : Int) := by omega
        have hst : rounds (wl l 64) h (k + 1) = step (ktab.getD k 0) ((wl l 64).getD k 0) (rounds (wl l 64) h k) := rfl
        obtain ⟨v0, v1, v2, v3, v4, v5, v6, v7, hv⟩ := eight _ (rounds_length (wl l 64) h HL.out k)
        rw [hv] at HB6 hst
        have c0 := HB6.out.cell (k := 0) rfl
        have c1 := HB6.out.cell (k := 1) rfl
        have c2 := HB6.out.cell (k := 2) rfl
        have c3 := HB6.out.cell (k := 3) rfl
        have c4 := HB6.out.cell (k := 4) rfl
        have c5 := HB6.out.cell (k := 5) rfl
        have c6 := HB6.out.cell (k := 6) rfl
        have c7 := HB6.out.cell (k := 7) rfl
        have cw := (B4.out.chg HC6.out N46.out).cell (u_at (wl l 64) k 64 (wl_length l 64) hk64)
        have ck := (B5.out.chg HC6.out N56.out).cell (u_at ktab k 64 rfl hk64)
        generalize (wl l 64).getD k 0 = ww at *
        generalize ktab.getD k 0 = kk at *
        have HST := Lib.hid hst
        clear hst hv
        go_wp2
        go_quiet (fail)
        go_wp2
        refine region_known [(1, .exact Bel (.int .u32 (U v7))), (3, .exact Bel (.int .u32 (U (rotr v4 6)))), (5, .exact Bel (.int .u32 (U (rotr v4 11)))), (8, .exact Bel (.int .u32 (U (rotr v4 25)))), (22, .exact Bel (.int .u32 (U kk))), (26, .exact Bel (.int .u32 (U ww)))] (by kernel_rfl) (by kernel_rfl) ?_
        (repeat (first | (refine wpG_skip (by kernel_rfl) (fun K hK => ?_); go_big_quiet_skip; refine wpQuiet_nil (hK _ ?_); clear hK K) | (refine wpG_quiet (by rfl) (by rfl) (fun K hK => ?_); go_big_quiet_want; go_big_quiet_op; go_big_quiet_on; refine wpQuiet_nil (hK _ ?_); clear hK K)))
        refine wpG_exact rfl (by kernel_rfl) (fun w' G hB hS hG => ?_) (fun K hK => ?_)
        · have cc := Below.keeps (bt (Below.drewN' wr nq) hB) c7
          go_simp
          exact hG _ (Bel.refl _)
        go_simp; refine hK _ ?_; clear hK K; (repeat (first | (refine wpG_skip (by kernel_rfl) (fun K hK => ?_); go_big_quiet_skip; refine wpQuiet_nil (hK _ ?_); clear hK K) | (refine wpG_quiet (by rfl) (by rfl) (fun K hK => ?_); go_big_quiet_want; go_big_quiet_op; go_big_quiet_on; refine wpQuiet_nil (hK _ ?_); clear hK K)))
        refine wpG_exact rfl (by kernel_rfl) (fun w' G hB hS hG => ?_) (fun K hK => ?_)
        · go_simp
          exact calls_told hG (rot_any v4 6 _ (by omega) (by omega))
        go_simp; refine hK _ ?_; clear hK K; (repeat (first | (refine wpG_skip (by kernel_rfl) (fun K hK => ?_); go_big_quiet_skip; refine wpQuiet_nil (hK _ ?_); clear hK K) | (refine wpG_quiet (by rfl) (by rfl) (fun K hK => ?_); go_big_quiet_want; go_big_quiet_op; go_big_quiet_on; refine wpQuiet_nil (hK _ ?_); clear hK K)))
        refine wpG_exact rfl (by kernel_rfl) (fun w' G hB hS hG => ?_) (fun K hK => ?_)
        · go_simp
          exact calls_told hG (rot_any v4 11 _ (by omega) (by omega))
        go_simp; refine hK _ ?_; clear hK K; (repeat (first | (refine wpG_skip (by kernel_rfl) (fun K hK => ?_); go_big_quiet_skip; refine wpQuiet_nil (hK _ ?_); clear hK K) | (refine wpG_quiet (by rfl) (by rfl) (fun K hK => ?_); go_big_quiet_want; go_big_quiet_op; go_big_quiet_on; refine wpQuiet_nil (hK _ ?_); clear hK K)))
        refine wpG_exact rfl (by kernel_rfl) (fun w' G hB hS hG => ?_) (fun K hK => ?_)
        · go_simp
          exact calls_told hG (rot_any v4 25 _ (by omega) (by omega))
        go_simp; refine hK _ ?_; clear hK K; (repeat (first | (refine wpG_skip (by kernel_rfl) (fun K hK => ?_); go_big_quiet_skip; refine wpQuiet_nil (hK _ ?_); clear hK K) | (refine wpG_quiet (by rfl) (by rfl) (fun K hK => ?_); go_big_quiet_want; go_big_quiet_op; go_big_quiet_on; refine wpQuiet_nil (hK _ ?_); clear hK K)))
        refine wpG_exact rfl (by kernel_rfl) (fun w' G hB hS hG => ?_) (fun K hK => ?_)
        · have cc := Below.keeps (bt (Below.drewN' wr nq) hB) ck
          go_simp
          exact hG _ (Bel.refl _)
        go_simp; refine hK _ ?_; clear hK K; (repeat (first | (refine wpG_skip (by kernel_rfl) (fun K hK => ?_); go_big_quiet_skip; refine wpQuiet_nil (hK _ ?_); clear hK K) | (refine wpG_quiet (by rfl) (by rfl) (fun K hK => ?_); go_big_quiet_want; go_big_quiet_op; go_big_quiet_on; refine wpQuiet_nil (hK _ ?_); clear hK K)))
        refine wpG_exact rfl (by kernel_rfl) (fun w' G hB hS hG => ?_) (fun K hK => ?_)
        · have cc := Below.keeps (bt (Below.drewN' wr nq) hB) cw
          go_simp
          exact hG _ (Bel.refl _)
        go_simp; refine hK _ ?_; clear hK K; (repeat (first | (refine wpG_skip (by kernel_rfl) (fun K hK => ?_); go_big_quiet_skip; refine wpQuiet_nil (hK _ ?_); clear hK K) | (refine wpG_quiet (by rfl) (by rfl) (fun K hK => ?_); go_big_quiet_want; go_big_quiet_op; go_big_quiet_on; refine wpQuiet_nil (hK _ ?_); clear hK K)))
        simp only [U_not]
        (try simp only [U_byte, U_shl24, U_shl16, U_shl8, U_shr3, U_shr10, U_or, U_xor, U_and, U_add, U_add', U_add3, U_add4, U_add5])
        have ht1 : v7 + (rotr v4 6 ^^^ rotr v4 11 ^^^ rotr v4 25) + (v4 &&& v5 ^^^ ~~~v4 &&& v6) + kk + ww = tmp1 v4 v5 v6 v7 kk ww := rfl
        rw [ht1]
        clear ht1
        (intro w' hB hA; simp only [Facts.all_some, Facts.all_none, and_true] at hA)
        have hBx := Lib.hid (bt (Below.drewN' wr nq) hB)
        clear hB c0 c1 c2 c4 c5 c6 c7 cw ck hA
        go_wp2_with fail
        refine (rot_any v0 2 _ (by omega) (by omega)).mono ?_
        rintro e w2 ⟨rfl, hB2⟩
        go_wp2_with fail
        refine (rot_any v0 13 _ (by omega) (by omega)).mono ?_
        rintro e w3 ⟨rfl, hB3⟩
        go_wp2_with fail
        refine (rot_any v0 22 _ (by omega) (by omega)).mono ?_
        rintro e w4 ⟨rfl, hB4⟩
        have hB0 := bt (bt (bt hBx.out hB2) hB3) hB4
        replace c3 := Below.keeps hB0 c3
        have B6' := Lib.hid (HB6.out.below hB0)
        have HC6' := Lib.hid (HC6.out.trans (Chg.of_below hB0))
        clear hB0 hBx hB2 hB3 hB4
        obtain ⟨NL, hNL⟩ : ∃ NL : List UInt32, NL = [tmp1 v4 v5 v6 v7 kk ww + tmp2 v0 v1 v2, v0, v1, v2, v3 + tmp1 v4 v5 v6 v7 kk ww, v4, v5, v6] := ⟨_, rfl⟩
        have I8 := Lib.hid (show (Try.prog.info? 86).map (·.size) = some (ucells NL).length by rw [hNL]; kernel_rfl)
        have L8 := Lib.hid (show (ucells [v0, v1, v2, v3, v4, v5, v6, v7]).length = (ucells NL).length by rw [hNL]; rfl)
        have HST' := Lib.hid (show rounds (wl l 64) h (k + 1) = NL by rw [HST.out, hNL]; rfl)
        have HNL := Lib.hid hNL
        clear hNL
        go_wp2_with first | (refine blk_build (ucells NL) rfl _ _ rfl (by rw [HNL.out]; kernel_rfl) ?_; refine blk_store b6 (ucells [v0, v1, v2, v3, v4, v5, v6, v7]) (ucells NL) B6'.out rfl 86 (.tmp 6) (.tmp 101) rfl rfl rfl I8.out L8.out (ucells_one _) ?_)
        refine ⟨⟨k + 1, by omega, by go_num, ?_, HC6'.out.trans (chg_setRow _ _ _ rfl)⟩, by simp [intOf]; omega⟩
        rw [HST'.out]
        exact B6'.out.row _
      · have hk : k = 64 := by omega
        subst hk
        have HI8 := Lib.hid (show (Try.prog.info? 86).map (·.size) = some (ucells (rounds (wl l 64) h 64)).length by rw [ucells_length, rounds_length _ _ HL.out]; kernel_rfl)
        have HBP : Hid (Blk wr p 89 (hcells h rest n)) := BP.out.chg HC6.out NP.out
        have HVL := Lib.hid (rounds_length (wl l 64) h HL.out 64)
        obtain ⟨V, hV⟩ : ∃ V, V = rounds (wl l 64) h 64 := ⟨_, rfl⟩
        rw [← hV] at HB6 HI8 HVL
        have HV := Lib.hid hV
        clear hV
        go_wp2_with (refine blk_load b6 (ucells V) HB6.out (.array 8 85) rfl _ _ rfl rfl (by kernel_rfl) rfl HI8.out ?_)
        go_loopw [104] (fun t ux => ∃ k : Nat, k ≤ 8 ∧ t = .int .i64 k ∧ Hid (Blk ux p 89 (hcells (added h V k) rest n)) ∧ Hid (Chg (· = p) wr ux)) (fun t _ => 8 - (intOf t).toNat)
        case atStart => exact ⟨0, by omega, rfl, (by rw [added_zero]; exact HBP), Chg.refl _ _⟩
        case round =>
          obtain ⟨k, hk, rfl, HBp, HCp⟩ := hrel
          by_cases hk8 : k < 8
          · have k1 : (k : Int) < 8 := by omega
            have k0 : (0 : Int) ≤ (k : Int) := by omega
            obtain ⟨ha1, ha2⟩ := added_step h V HL.out HVL.out k hk8
            have cp := HBp.out.cell (hcells_at (added h V k) rest n k (added_length h V HL.out HVL.out k hk) hk8)
            have fp := HBp.out.free (k := k) (by rw [hcells_length _ _ _ (added_length h V HL.out HVL.out k hk)]; omega)
            have hix := index8 V HVL.out k hk8
            rw [ha1] at cp
            generalize h.getD k 0 = hh at *
            generalize V.getD k 0 = vk at *
            have HA := Lib.hid ha2
            clear ha2 ha1
            go_wp2
            refine region_tail 11 [(2, .exact Bel (.pointer (some ⟨p, 0, none⟩))), (5, .exact Bel (.int .u32 (U hh))), (8, .exact Bel (.pointer (some ⟨p, 0, none⟩)))] (by kernel_rfl) (by kernel_rfl) ?_
            simp only [List.take_succ_cons, List.take_zero, List.drop_succ_cons, List.drop_zero]
            (repeat (first | (refine wpG_skip (by kernel_rfl) (fun K hK => ?_); go_big_quiet_skip; refine wpQuiet_nil (hK _ ?_); clear hK K) | (refine wpG_quiet (by rfl) (by rfl) (fun K hK => ?_); go_big_quiet_want; go_big_quiet_op; go_big_quiet_on; refine wpQuiet_nil (hK _ ?_); clear hK K)))
            refine wpG_exact rfl (by kernel_rfl) (fun w' G hB hS hG => ?_) (fun K hK => ?_)
            · go_simp
              exact hG _ (Bel.refl _)
            go_simp; refine hK _ ?_; clear hK K; (repeat (first | (refine wpG_skip (by kernel_rfl) (fun K hK => ?_); go_big_quiet_skip; refine wpQuiet_nil (hK _ ?_); clear hK K) | (refine wpG_quiet (by rfl) (by rfl) (fun K hK => ?_); go_big_quiet_want; go_big_quiet_op; go_big_quiet_on; refine wpQuiet_nil (hK _ ?_); clear hK K)))
            refine wpG_exact rfl (by kernel_rfl) (fun w' G hB hS hG => ?_) (fun K hK => ?_)
            · have cc := Below.keeps hB cp
              go_simp
              exact hG _ (Bel.refl _)
            go_simp; refine hK _ ?_; clear hK K; (repeat (first | (refine wpG_skip (by kernel_rfl) (fun K hK => ?_); go_big_quiet_skip; refine wpQuiet_nil (hK _ ?_); clear hK K) | (refine wpG_quiet (by rfl) (by rfl) (fun K hK => ?_); go_big_quiet_want; go_big_quiet_op; go_big_quiet_on; refine wpQuiet_nil (hK _ ?_); clear hK K)))
            refine wpG_exact rfl (by kernel_rfl) (fun w' G hB hS hG => ?_) (fun K hK => ?_)
            · go_simp
              exact hG _ (Bel.refl _)
            go_simp; refine hK _ ?_; clear hK K; (repeat (first | (refine wpG_skip (by kernel_rfl) (fun K hK => ?_); go_big_quiet_skip; refine wpQuiet_nil (hK _ ?_); clear hK K) | (refine wpG_quiet (by rfl) (by rfl) (fun K hK => ?_); go_big_quiet_want; go_big_quiet_op; go_big_quiet_on; refine wpQuiet_nil (hK _ ?_); clear hK K)))
            (try simp only [U_byte, U_shl24, U_shl16, U_shl8, U_shr3, U_shr10, U_or, U_xor, U_and, U_add, U_add', U_add3, U_add4, U_add5])
            (intro w' hB hA; simp only [Facts.all_some, Facts.all_none, and_true] at hA)
            have B' := HBp.out.below hB
            replace cp := B'.cell (hcells_at (added h V k) rest n k (added_length h V HL.out HVL.out k hk) hk8)
            replace fp := B'.free (k := k) (by rw [hcells_length _ _ _ (added_length h V HL.out HVL.out k hk)]; omega)
            have HS := Lib.hid (B'.set k (.int .u32 (U (hh + vk))))
            have HCn := Lib.hid (HCp.out.trans (Chg.of_below hB))
            clear B' hB hA hix
            go_wp2
            refine ⟨⟨k + 1, by omega, by go_num, ?_, HCn.out.trans (Chg.setCell _ _ _ rfl)⟩, by simp [intOf]; omega⟩
            have := HS.out
            rw [hcells_set _ _ _ _ _ (added_length h V HL.out HVL.out k hk) hk8, HA.out] at this
            exact this
          · have hk : k = 8 := by omega
            subst hk
            have HF : Hid (Blk wr p 89 (hcells (blockF h l) rest n)) := (by have := HBp.out; rw [added_all h V HL.out HVL.out, HV.out] at this; exact this)
            go_wp2
            refine bodyPost_end (results_none rfl _ _ _) rfl ?_
            exact ⟨rfl, HF.out, (Chg.of_below (HW.out.trans (HC6.out.below (fun k e => e ▸ HG6.out) HW.out.size))).trans HCp.out⟩
  refine ⟨fun listed a wx hI hd hdep => ?_, fun listed a wx hI hd hdep => ?_, fun listed a wx hI hd hdep => ?_, fun listed a wx hI hd hdep => ?_, fun listed a wx hI hd hdep => ?_, fun listed a wx hI hd hdep => ?_, fun listed a wx hI hd hdep => ?_, fun listed a wx hI hd hdep => ?_, fun listed a wx hI hd hdep => ?_, fun listed a wx hI hd hdep => ?_, fun listed a wx hI hd hdep => ?_, fun listed a wx hI hd hdep => ?_, fun listed a wx hI hd hdep => ?_, trivial⟩
  · obtain ⟨d0, d1, d2, d3, d4, d5, d6, d7, d8, d9, d10, d11, d12, b4, b5, b6, rfl, rfl, hBI⟩ := hI
    obtain rfl : d0 = false := by simpa using hd
    rw [if_pos (by rfl)]
    unfold Oper.wp
    go_simp
    exact ⟨true, d1, d2, d3, d4, d5, d6, d7, d8, d9, d10, d11, d12, b4, b5, b6, rfl, rfl, hBI⟩
  · obtain ⟨d0, d1, d2, d3, d4, d5, d6, d7, d8, d9, d10, d11, d12, b4, b5, b6, rfl, rfl, hBI⟩ := hI
    obtain rfl : d1 = false := by simpa using hd
    simp [Region.binds] at hdep
    have e0 : d0 = true := by simp [hdep]
    clear hdep
    simp only [e0] at hBI ⊢
    rw [if_pos (by rfl)]
    unfold Oper.wp
    go_simp
    refine (words_any l wx H64.out).mono ?_
    rintro e w2 ⟨rfl, hB2⟩
    exact ⟨true, true, d2, d3, d4, d5, d6, d7, d8, d9, d10, d11, d12, b4, b5, b6, rfl, rfl, hBI.out.below hB2⟩
  · obtain ⟨d0, d1, d2, d3, d4, d5, d6, d7, d8, d9, d10, d11, d12, b4, b5, b6, rfl, rfl, hBI⟩ := hI
    obtain rfl : d2 = false := by simpa using hd
    simp [Region.binds] at hdep
    have e1 : d1 = true := by simp [hdep]
    clear hdep
    simp only [e1] at hBI ⊢
    rw [if_pos (by rfl)]
    unfold Oper.wp
    go_simp
    refine (table_any wx).mono ?_
    rintro e w2 ⟨rfl, hB2⟩
    exact ⟨d0, true, true, d3, d4, d5, d6, d7, d8, d9, d10, d11, d12, b4, b5, b6, rfl, rfl, hBI.out.below hB2⟩
  · obtain ⟨d0, d1, d2, d3, d4, d5, d6, d7, d8, d9, d10, d11, d12, b4, b5, b6, rfl, rfl, hBI⟩ := hI
    obtain rfl : d3 = false := by simpa using hd
    rw [if_pos (by rfl)]
    unfold Oper.wp
    go_simp
    exact ⟨d0, d1, d2, true, d4, d5, d6, d7, d8, d9, d10, d11, d12, b4, b5, b6, rfl, rfl, hBI⟩
  · obtain ⟨d0, d1, d2, d3, d4, d5, d6, d7, d8, d9, d10, d11, d12, b4, b5, b6, rfl, rfl, hBI⟩ := hI
    obtain rfl : d4 = false := by simpa using hd
    simp [Region.binds] at hdep
    have e3 : d3 = true := by simp [hdep]
    clear hdep
    simp only [e3] at hBI ⊢
    rw [if_pos (by rfl)]
    unfold Oper.wp
    go_simp
    exact ⟨d0, d1, d2, true, true, d5, d6, d7, d8, d9, d10, d11, d12, b4, b5, b6, rfl, rfl, hBI⟩
  · obtain ⟨d0, d1, d2, d3, d4, d5, d6, d7, d8, d9, d10, d11, d12, b4, b5, b6, rfl, rfl, hBI⟩ := hI
    obtain rfl : d5 = false := by simpa using hd
    simp [Region.binds] at hdep
    have e4 : d4 = true := by simp [hdep]
    clear hdep
    simp only [e4] at hBI ⊢
    rw [if_pos (by rfl)]
    unfold Oper.wp
    go_simp
    exact ⟨d0, d1, d2, d3, true, true, d6, d7, d8, d9, d10, d11, d12, b4, b5, b6, rfl, rfl, hBI⟩
  · obtain ⟨d0, d1, d2, d3, d4, d5, d6, d7, d8, d9, d10, d11, d12, b4, b5, b6, rfl, rfl, hBI⟩ := hI
    obtain rfl : d6 = false := by simpa using hd
    simp [Region.binds] at hdep
    have e5 : d5 = true := by simp [hdep]
    clear hdep
    simp only [e5] at hBI ⊢
    rw [if_pos (by rfl)]
    have hr : wx.rangeAt p 0 (ucells h) := fun j v hv => by
      have hj : j < 8 := by have := (List.getElem?_eq_some_iff.1 hv).1; rwa [ucells_length, HL.out] at this
      rw [Nat.zero_add]
      refine (HB.out.below hBI.out.1).cell ?_
      rw [hcells, List.getElem?_append_left (by rw [ucells_length, HL.out]; exact hj)]
      exact hv
    refine wp_load_mid 86 _ rfl p 0 rfl (ucells h) (.array 8 85) hr (by kernel_rfl) rfl H8.out ?_
    exact ⟨d0, d1, d2, d3, d4, true, true, d7, d8, d9, d10, d11, d12, b4, b5, b6, rfl, rfl, hBI⟩
  · obtain ⟨d0, d1, d2, d3, d4, d5, d6, d7, d8, d9, d10, d11, d12, b4, b5, b6, rfl, rfl, hBI⟩ := hI
    obtain rfl : d7 = false := by simpa using hd
    rw [if_pos (by rfl)]
    unfold Oper.wp
    go_simp
    exact ⟨d0, d1, d2, d3, d4, d5, d6, true, d8, d9, d10, d11, d12, wx.heap.size, b5, b6, rfl, rfl, hBI.out.alloc4⟩
  · obtain ⟨d0, d1, d2, d3, d4, d5, d6, d7, d8, d9, d10, d11, d12, b4, b5, b6, rfl, rfl, hBI⟩ := hI
    obtain rfl : d8 = false := by simpa using hd
    rw [if_pos (by rfl)]
    unfold Oper.wp
    go_simp
    exact ⟨d0, d1, d2, d3, d4, d5, d6, d7, true, d9, d10, d11, d12, b4, wx.heap.size, b6, rfl, rfl, hBI.out.alloc5⟩
  · obtain ⟨d0, d1, d2, d3, d4, d5, d6, d7, d8, d9, d10, d11, d12, b4, b5, b6, rfl, rfl, hBI⟩ := hI
    obtain rfl : d9 = false := by simpa using hd
    rw [if_pos (by rfl)]
    unfold Oper.wp
    go_simp
    exact ⟨d0, d1, d2, d3, d4, d5, d6, d7, d8, true, d10, d11, d12, b4, b5, wx.heap.size, rfl, rfl, hBI.out.alloc6⟩
  · obtain ⟨d0, d1, d2, d3, d4, d5, d6, d7, d8, d9, d10, d11, d12, b4, b5, b6, rfl, rfl, hBI⟩ := hI
    obtain rfl : d10 = false := by simpa using hd
    simp [Region.binds] at hdep
    have e7 : d7 = true := by simp [hdep]
    have e1 : d1 = true := by simp [hdep]
    have e2 : d2 = true := by simp [hdep]
    have e0 : d0 = true := by simp [hdep]
    have e8 : d8 = true := by simp [hdep]
    have e9 : d9 = true := by simp [hdep]
    clear hdep
    simp only [e7, e1, e2, e0, e8, e9] at hBI ⊢
    rw [if_pos (by rfl)]
    have hz4 : Blk wx b4 121 (ucells (zrow 64)) := (hBI.out.2.1 rfl).2
    have hs4 : (ucells (zrow 64)).toArray.size = (ucells (wl l 64)).toArray.size := by rw [List.size_toArray, List.size_toArray, ucells_length, ucells_length, wl_length]; rfl
    have hi4 : (Try.prog.info? 121).map (·.size) = some (ucells (wl l 64)).toArray.size := by rw [List.size_toArray]; exact I64.out
    generalize hWL : wl l 64 = WL at *
    refine wp_store_row 121 (.tmp 4) (.tmp 19) rfl b4 (ucells WL).toArray rfl rfl 121 _ hz4 hi4 hs4 (ucells_one _) ?_
    subst hWL
    exact ⟨true, true, true, d3, d4, d5, d6, true, true, true, true, d11, d12, b4, b5, b6, rfl, rfl, hBI.out.store4⟩
  · obtain ⟨d0, d1, d2, d3, d4, d5, d6, d7, d8, d9, d10, d11, d12, b4, b5, b6, rfl, rfl, hBI⟩ := hI
    obtain rfl : d11 = false := by simpa using hd
    simp [Region.binds] at hdep
    have e8 : d8 = true := by simp [hdep]
    have e2 : d2 = true := by simp [hdep]
    have e10 : d10 = true := by simp [hdep]
    have e0 : d0 = true := by simp [hdep]
    have e1 : d1 = true := by simp [hdep]
    have e7 : d7 = true := by simp [hdep]
    have e9 : d9 = true := by simp [hdep]
    clear hdep
    simp only [e8, e2, e10, e0, e1, e7, e9] at hBI ⊢
    rw [if_pos (by rfl)]
    refine wp_store_row 121 _ _ rfl b5 (ucells ktab).toArray rfl rfl 121 _ (hBI.out.2.2.1 rfl).2 (by rw [List.size_toArray]; exact IK.out) rfl (ucells_one _) ?_
    exact ⟨true, true, true, d3, d4, d5, d6, true, true, true, true, true, d12, b4, b5, b6, rfl, rfl, hBI.out.store5⟩
  · obtain ⟨d0, d1, d2, d3, d4, d5, d6, d7, d8, d9, d10, d11, d12, b4, b5, b6, rfl, rfl, hBI⟩ := hI
    obtain rfl : d12 = false := by simpa using hd
    simp [Region.binds] at hdep
    have e0 : d0 = true := by simp [hdep]
    have e1 : d1 = true := by simp [hdep]
    have e2 : d2 = true := by simp [hdep]
    have e3 : d3 = true := by simp [hdep]
    have e4 : d4 = true := by simp [hdep]
    have e5 : d5 = true := by simp [hdep]
    have e6 : d6 = true := by simp [hdep]
    have e7 : d7 = true := by simp [hdep]
    have e8 : d8 = true := by simp [hdep]
    have e9 : d9 = true := by simp [hdep]
    have e10 : d10 = true := by simp [hdep]
    have e11 : d11 = true := by simp [hdep]
    clear hdep
    simp only [e0, e1, e2, e3, e4, e5, e6, e7, e8, e9, e10, e11] at hBI ⊢
    rw [if_pos (by rfl)]
    refine wp_store_row 86 _ _ rfl b6 (ucells h).toArray rfl rfl 86 _ (hBI.out.2.2.2.1 rfl).2 (by rw [List.size_toArray]; exact H8.out) (by rw [List.size_toArray, List.size_toArray, ucells_length, ucells_length, HL.out]; rfl) (ucells_one _) ?_
    exact ⟨true, true, true, true, true, true, true, true, true, true, true, true, true, b4, b5, b6, rfl, rfl, hBI.out.store6⟩
end Go.Proofs.Ytdebgkjekcppmaa
namespace Go.Proofs.Ytdebgkjekcppmaa
open Go.RowKit Oct

set_option maxRecDepth 100000 in
set_option maxHeartbeats 1000000 in
theorem New_any (w : World) :
    Calls Try.prog 22 #[] w fun e w' => ∃ b, e = .returned (.pointer (some ⟨b, 0, none⟩)) ∧ w.heap.size ≤ b ∧ Blk w' b 89 (hcells h0 [] 0) ∧ Below w.heap.size w w' := by
  go_enter Try.func22, Try.ntmps22
  go_wp2_with (refine blk_build (ucells h0) rfl _ _ rfl (by kernel_rfl) ?_; refine blk_build (hcells h0 [] 0) rfl _ _ rfl (by kernel_rfl) ?_)
  go_ret
  exact ⟨_, rfl, Nat.le_refl _, Blk.new _ _ _, b_alloc _ _⟩

/-- the worth of a digit -/
def dig (c : UInt8) : Option Nat := if 48 ≤ c.toNat ∧ c.toNat ≤ 57 then some (c.toNat - 48) else if 97 ≤ c.toNat ∧ c.toNat ≤ 102 then some (c.toNat - 87) else none
theorem dig_lt (c : UInt8) (d : Nat) (h : dig c = some d) : d < 16 := by
  unfold dig at h
  split at h
  · cases h; omega
  · split at h
    · cases h; omega
    · cases h
set_option maxRecDepth 100000 in
set_option maxHeartbeats 1000000 in
theorem digit_any (c : UInt8) (w : World) :
    Calls Try.prog 57 #[.int .u8 (c.toNat : Int)] w fun e w' => e = .returned (.tuple #[.int .u8 (((dig c).getD 0 : Nat) : Int), .bool (dig c).isSome]) ∧ Below w.heap.size w w' := by
  have hc := c.toNat_lt
  obtain ⟨x, hx⟩ : ∃ x : Nat, x = c.toNat := ⟨_, rfl⟩
  rcases (by omega : x < 48 ∨ (48 ≤ x ∧ x ≤ 57) ∨ (57 < x ∧ x < 97) ∨ (97 ≤ x ∧ x ≤ 102) ∨ 102 < x) with h | ⟨h, h'⟩ | ⟨h, h'⟩ | ⟨h, h'⟩ | h
  · have hd : dig c = none := by unfold dig; rw [if_neg (by omega), if_neg (by omega)]
    rw [hd, ← hx]
    have a1 : ¬ (48 : Int) ≤ (x : Int) := by omega
    have a2 : ¬ (97 : Int) ≤ (x : Int) := by omega
    clear hx hd hc
    go_enter Try.func57, Try.ntmps57
    go_wp2
    go_ret2
    exact ⟨rfl, Below.refl _ _⟩
  · have hd : dig c = some (x - 48) := by unfold dig; rw [if_pos (by omega), hx]
    rw [hd, ← hx]
    have a1 : (48 : Int) ≤ (x : Int) := by omega
    have a2 : (x : Int) ≤ 57 := by omega
    clear hx hd hc
    go_enter Try.func57, Try.ntmps57
    go_wp2
    go_ret2
    refine ⟨?_, Below.refl _ _⟩
    simp only [Option.getD_some, Option.isSome_some]
    rw [show ((x - 48 : Nat) : Int) = (x : Int) - 48 by omega]
    rfl
  · have hd : dig c = none := by unfold dig; rw [if_neg (by omega), if_neg (by omega)]
    rw [hd, ← hx]
    have a1 : (48 : Int) ≤ (x : Int) := by omega
    have a2 : ¬ (x : Int) ≤ 57 := by omega
    have a3 : ¬ (97 : Int) ≤ (x : Int) := by omega
    clear hx hd hc
    go_enter Try.func57, Try.ntmps57
    go_wp2
    go_ret2
    exact ⟨rfl, Below.refl _ _⟩
  · have hd : dig c = some (x - 87) := by unfold dig; rw [if_neg (by omega), if_pos (by omega), hx]
    rw [hd, ← hx]
    have a1 : (48 : Int) ≤ (x : Int) := by omega
    have a2 : ¬ (x : Int) ≤ 57 := by omega
    have a3 : (97 : Int) ≤ (x : Int) := by omega
    have a4 : (x : Int) ≤ 102 := by omega
    clear hx hd hc
    go_enter Try.func57, Try.ntmps57
    go_wp2
    go_ret2
    refine ⟨?_, Below.refl _ _⟩
    simp only [Option.getD_some, Option.isSome_some]
    rw [show ((x - 87 : Nat) : Int) = (x : Int) - 97 + 10 by omega]
    rfl
  · have hd : dig c = none := by unfold dig; rw [if_neg (by omega), if_neg (by omega)]
    rw [hd, ← hx]
    have a1 : (48 : Int) ≤ (x : Int) := by omega
    have a2 : ¬ (x : Int) ≤ 57 := by omega
    have a3 : (97 : Int) ≤ (x : Int) := by omega
    have a4 : ¬ (x : Int) ≤ 102 := by omega
    clear hx hd hc
    go_enter Try.func57, Try.ntmps57
    go_wp2
    go_ret2
    exact ⟨rfl, Below.refl _ _⟩
/-- .. as the reference tells it -/
def rdig (c : UInt8) : Int := match dig c with | some d => (d : Int) | none => -1
set_option maxRecDepth 100000 in
set_option maxHeartbeats 1000000 in
theorem rdigit_any (c : UInt8) (w : World) :
    Calls Try.prog 60 #[.int .u8 (c.toNat : Int)] w fun e w' => e = .returned (.int .i64 (rdig c)) ∧ Below w.heap.size w w' := by
  have hc := c.toNat_lt
  obtain ⟨x, hx⟩ : ∃ x : Nat, x = c.toNat := ⟨_, rfl⟩
  rcases (by omega : x < 48 ∨ (48 ≤ x ∧ x ≤ 57) ∨ (57 < x ∧ x < 97) ∨ (97 ≤ x ∧ x ≤ 102) ∨ 102 < x) with h | ⟨h, h'⟩ | ⟨h, h'⟩ | ⟨h, h'⟩ | h
  · have hd : dig c = none := by unfold dig; rw [if_neg (by omega), if_neg (by omega)]
    rw [rdig, hd, ← hx]
    have a1 : ¬ (48 : Int) ≤ (x : Int) := by omega
    have a2 : ¬ (97 : Int) ≤ (x : Int) := by omega
    clear hx hd hc
    go_enter Try.func60, Try.ntmps60
    go_wp2
    go_ret
    exact ⟨rfl, Below.refl _ _⟩
  · have hd : dig c = some (x - 48) := by unfold dig; rw [if_pos (by omega), hx]
    rw [rdig, hd, ← hx]
    have a1 : (48 : Int) ≤ (x : Int) := by omega
    have a2 : (x : Int) ≤ 57 := by omega
    clear hx hd hc
    go_enter Try.func60, Try.ntmps60
    go_wp2
    go_ret
    refine ⟨?_, Below.refl _ _⟩
    simp only []
    rw [show ((x - 48 : Nat) : Int) = (x : Int) - 48 by omega]
    rfl
  · have hd : dig c = none := by unfold dig; rw [if_neg (by omega), if_neg (by omega)]
    rw [rdig, hd, ← hx]
    have a1 : (48 : Int) ≤ (x : Int) := by omega
    have a2 : ¬ (x : Int) ≤ 57 := by omega
    have a3 : ¬ (97 : Int) ≤ (x : Int) := by omega
    clear hx hd hc
    go_enter Try.func60, Try.ntmps60
    go_wp2
    go_ret
    exact ⟨rfl, Below.refl _ _⟩
  · have hd : dig c = some (x - 87) := by unfold dig; rw [if_neg (by omega), if_pos (by omega), hx]
    rw [rdig, hd, ← hx]
    have a1 : (48 : Int) ≤ (x : Int) := by omega
    have a2 : ¬ (x : Int) ≤ 57 := by omega
    have a3 : (97 : Int) ≤ (x : Int) := by omega
    have a4 : (x : Int) ≤ 102 := by omega
    clear hx hd hc
    go_enter Try.func60, Try.ntmps60
    go_wp2
    go_ret
    refine ⟨?_, Below.refl _ _⟩
    simp only []
    rw [show ((x - 87 : Nat) : Int) = (x : Int) - 97 + 10 by omega]
    rfl
  · have hd : dig c = none := by unfold dig; rw [if_neg (by omega), if_neg (by omega)]
    rw [rdig, hd, ← hx]
    have a1 : (48 : Int) ≤ (x : Int) := by omega
    have a2 : ¬ (x : Int) ≤ 57 := by omega
    have a3 : (97 : Int) ≤ (x : Int) := by omega
    have a4 : ¬ (x : Int) ≤ 102 := by omega
    clear hx hd hc
    go_enter Try.func60, Try.ntmps60
    go_wp2
    go_ret
    exact ⟨rfl, Below.refl _ _⟩
end Go.Proofs.Ytdebgkjekcppmaa
namespace Go.Proofs.Ytdebgkjekcppmaa
open Go.RowKit

section
variable {P : Program}
theorem ownsRow_chg {X : Nat → Prop} {w w' : World} {base : Nat} {e : TypeId} {size : Nat} {v : Value} {n : Nat} {xs : List Value} (h : w.ownsRow base e size v n xs) (hc : Chg X w w') (hX : ∀ k, base ≤ k → ¬ X k) : w'.ownsRow base e size v n xs := by
  obtain ⟨h1, h2⟩ := h
  refine ⟨h1, ?_⟩
  rcases h2 with h2 | ⟨g, cap, cur, hv, hg, hh, r⟩
  · exact .inl h2
  · exact .inr ⟨g, cap, cur, hv, hg, hc.at hh (hX g hg), r⟩
/-- append(s, x) in a round: one element, s the call's own -/
theorem append1In {F : Fence} {k : Nat} {ops : Array Oper} {rest : List Oper} {o : Oper} {a : Act} {Q : Exit → Act → World → Prop} (wr : World) (news : List Value) (e : TypeId) (hgd : o.guard = none) (s x : Operand) (t : TypeId)
    (ho : o.op = .call { callee := .builtin .append, args := #[s, x], argTypes := #[t, t] })
    (base : Nat) (z : Value) (size bytes : Nat) (ht : P.underlying t = some (.slice e)) (hinfo : (P.info? e).map (fun i => (i.zero, i.size, i.bytes)) = some (some z, size, bytes))
    (hzs : z.cells.size = size) (hsz : 0 < size) (v : Value) (n : Nat) (xs : List Value) (hs : a.eval s = v) (hown : wr.ownsRow base e size v n xs)
    (c : Nat) (hx : a.eval x = .slice (some ⟨wr.heap.size, 0, none⟩) 1 c) (hl : news.length = size) (h1 : ∀ u ∈ news, u.oneCell' = true)
    (hbytes : (n + 1) * bytes ≤ 140737488355328) (hby : 0 < bytes) (hbase : base ≤ wr.heap.size)
    (h : ∀ g cap w', w'.ownsRow base e size (.slice (some ⟨g, 0, none⟩) (n + 1) cap) (n + 1) (xs ++ news) → Below base wr w' → wpListIn F k P ops Q rest (a.put o.dst (.slice (some ⟨g, 0, none⟩) (n + 1) cap)) w') : wpListIn F k P ops Q (o :: rest) a (wr.alloc (.cells news.toArray e)) := by
  obtain ⟨i, hi, hz, hi1, hi2⟩ := info_parts hinfo
  have hn : n + 1 ≤ (n + 1) * bytes := Nat.le_mul_of_pos_right _ hby
  refine wpListIn_append_own _ hgd s x t ho base e i z size bytes ht hi hz hi1 hi2 hzs hsz v n xs hs (hown.alloc _) ⟨wr.heap.size, 0, none⟩ 1 c news hx (by simpa using hl) ?_ h1 (by unfold maxLen; omega) hbytes (by simp; omega) ?_
  · intro j u hj
    have : j < news.length := by
      rcases Nat.lt_or_ge j news.length with h | h
      · exact h
      · simp [List.getElem?_eq_none h] at hj
    rw [Addr.add_lit, Nat.zero_add, World.cell?_alloc_new]
    simpa using hj
  · intro v' w' h2 h3 _
    obtain ⟨g, cap, rfl⟩ := ownsRow_succ h2
    refine h g cap w' h2 (((Below.refl base wr).alloc hbase _).grown h3 (by simp; omega) ?_)
    intro k hk
    exact (hown.lt k hk).1

/-- box s holds a slice value; the slice is the call's own, its blocks lie from base on -/
def BoxRow (s base : Nat) (t e : TypeId) (size : Nat) (U : World) (n : Nat) (cells : List Value) : Prop := ∃ v, U.heap[s]? = some (.cells #[v] t (0, 0)) ∧ U.ownsRow base e size v n cells
theorem BoxRow.chg {s base : Nat} {t e : TypeId} {size : Nat} {U U' : World} {n : Nat} {cells : List Value} {X : Nat → Prop} (h : BoxRow s base t e size U n cells) (hc : Chg X U U') (hX : ∀ k, X k → k ≠ s ∧ k < base) : BoxRow s base t e size U' n cells := by
  obtain ⟨v, h1, h2⟩ := h
  exact ⟨v, hc.at h1 fun hx => (hX s hx).1 rfl, ownsRow_chg h2 hc fun k hk hx => by have := (hX k hx).2; omega⟩
theorem BoxRow.stored {s base g cap : Nat} {t e : TypeId} {size : Nat} {U W : World} {v : Value} {n : Nat} {cells : List Value} (hsb : s < base) (hs : U.heap[s]? = some (.cells #[v] t (0, 0))) (hB : Below base U W) (hown : W.ownsRow base e size (.slice (some ⟨g, 0, none⟩) n cap) n cells) :
    BoxRow s base t e size (W.setCell ⟨s, 0, none⟩ (.slice (some ⟨g, 0, none⟩) n cap)) n cells ∧ Chg (fun k => k = s ∨ base ≤ k) U (W.setCell ⟨s, 0, none⟩ (.slice (some ⟨g, 0, none⟩) n cap)) :=
  ⟨⟨_, one_setCell (v := v) ((hB.block s hsb).trans hs), ownsRow_setCell_below hown hsb _⟩, (Chg.of_base hB fun k hk => .inr hk).trans (Chg.setCell _ _ _ (.inl rfl))⟩

/-- a slot that holds a slice whose cells are known -/
def kReads (n : Nat) (cells : List Value) : Known Bel := ⟨Option Addr × Nat, fun x => .slice x.1 n x.2, fun x => some fun w => Reads w (.slice x.1 n x.2) n cells, fun _ _ h _ _ hφ hB => by cases h; exact Reads.below hφ hB⟩
@[go_sem] theorem kReads_val (n : Nat) (cells : List Value) (a : Option Addr) (c : Nat) : (kReads n cells).val (a, c) = .slice a n c := rfl
theorem reads_new {w' : World} {G : Value → World → Prop} {n : Nat} {cells : List Value} {cs : Array Value} {e : TypeId} (hG : ∀ x w'', Bel w' w'' → (∀ φ, (kReads n cells).fact x = some φ → φ w'') → G ((kReads n cells).val x) w'') (hcs : cs = cells.toArray) :
    G (.slice (some ⟨w'.heap.size, 0, none⟩) n n) (w'.alloc (.cells cs e)) := by
  subst hcs
  exact hG (some ⟨w'.heap.size, 0, none⟩, n) _ (b_alloc w' _) (fun φ h => by cases h; exact Reads.new w' cells n e n)
/-- append(s, x...) in a round: s the call's own, x whatever slice of at least one element -/
theorem appendNIn {F : Fence} {k : Nat} {ops : Array Oper} {rest : List Oper} {o : Oper} {a : Act} {Q : Exit → Act → World → Prop} (w : World) (news : List Value) (e : TypeId) (hgd : o.guard = none) (s x : Operand) (t : TypeId)
    (ho : o.op = .call { callee := .builtin .append, args := #[s, x], argTypes := #[t, t] })
    (base : Nat) (z : Value) (size bytes : Nat) (ht : P.underlying t = some (.slice e)) (hinfo : (P.info? e).map (fun i => (i.zero, i.size, i.bytes)) = some (some z, size, bytes))
    (hzs : z.cells.size = size) (hsz : 0 < size) (v : Value) (n : Nat) (xs : List Value) (hs : a.eval s = v) (hown : w.ownsRow base e size v n xs)
    (vx : Value) (m : Nat) (hx : a.eval x = vx) (hr : Reads w vx m news) (hm : 0 < m) (hl : news.length = m * size) (h1 : ∀ u ∈ news, u.oneCell' = true)
    (hbytes : (n + m) * bytes ≤ 140737488355328) (hby : 0 < bytes) (hbase : base ≤ w.heap.size)
    (h : ∀ g cap w', w'.ownsRow base e size (.slice (some ⟨g, 0, none⟩) (n + m) cap) (n + m) (xs ++ news) → Below base w w' → wpListIn F k P ops Q rest (a.put o.dst (.slice (some ⟨g, 0, none⟩) (n + m) cap)) w') : wpListIn F k P ops Q (o :: rest) a w := by
  obtain ⟨i, hi, hz, hi1, hi2⟩ := info_parts hinfo
  have hn : n + m ≤ (n + m) * bytes := Nat.le_mul_of_pos_right _ hby
  obtain ⟨ax, cap, rfl, hnone, hc⟩ := hr
  cases ax with
  | none => have := (hnone rfl).1; omega
  | some ad =>
    refine wpListIn_append_own _ hgd s x t ho base e i z size bytes ht hi hz hi1 hi2 hzs hsz v n xs hs hown ad m cap news hx hl ?_ h1 (by unfold maxLen; omega) hbytes hbase ?_
    · intro j u hj
      obtain ⟨b, off, ha, hu⟩ := hc j u hj
      cases ha
      rw [Addr.add_lit]; exact hu
    · intro v' w' h2 h3 _
      obtain ⟨m', rfl⟩ : ∃ m', m = m' + 1 := ⟨m - 1, by omega⟩
      obtain ⟨g, cap', rfl⟩ := ownsRow_succ (k := n + m') h2
      refine h g cap' w' h2 ((Below.refl base w).grown h3 hbase ?_)
      intro k hk
      exact (hown.lt k hk).1
/-- a function whose body ranges over a function -/
theorem calls_of_wp_marks {f : FuncId} {fn : Func} {c : Code} {args : Array Value} {w : World} {R : Ending → World → Prop} (hf : P.funcs[f]? = some fn) (hb : fn.body = some c)
    (h : c.wp P (bodyPostM Fence.wide 1 P fn R) { tmps := args ++ Array.replicate (fn.ntmps - args.size) undef, defers := [] } w) : Calls P f args w R :=
  (callsIn_wide (n := 1)).1 (callsIn_of_wp_marks (F := Fence.wide) hf hb trivial (wpIn_wide.2 h))
theorem marks_ret {fn : Func} {R : Ending → World → Prop} {a : Act} {w : World} {D : Nat} {v : Value} (hd : a.defers = [{ target := .collected D, args := #[] }]) (hK : w.heap[D]? = some (.deferred (some [])))
    (hr : (results fn a.tmps).run P (w.putObj D (.deferred none)) = .ok v (w.putObj D (.deferred none))) (hR : R (.returned v) (w.putObj D (.deferred none))) : bodyPostM Fence.wide 1 P fn R .ret a w := by
  unfold bodyPostM
  simp only [hd]
  exact ⟨by simp, .inl ⟨_, _, rfl, run_takeDeferred hK, v, hr, hR⟩⟩
theorem marks_none {fn : Func} {R : Ending → World → Prop} {a : Act} {w : World} {v : Value} (hd : a.defers = []) (hr : (results fn a.tmps).run P w = .ok v w) (hR : R (.returned v) w) : bodyPostM Fence.wide 1 P fn R .ret a w := by
  unfold bodyPostM
  simp only [hd]
  exact ⟨v, hr, hR⟩
end
end Go.Proofs.Ytdebgkjekcppmaa
namespace Go.Proofs.Ytdebgkjekcppmaa
open Go.RowKit Oct

set_option maxRecDepth 100000 in
set_option maxHeartbeats 1000000 in
theorem blocks_any (p : Nat) (w : World) :
    Calls Try.prog 61 #[.pointer (some ⟨p, 0, none⟩)] w fun e w' => ∃ b, e = .returned (.func (.func 89) #[] #[.pointer (some ⟨b, 0, none⟩)]) ∧ w.heap.size ≤ b ∧ Blk w' b 30 [.pointer (some ⟨p, 0, none⟩)] ∧ Below w.heap.size w w' := by
  have hmf : ∀ (fn : Fn) (first cap : Array Value) (w : World), (Instr.makeFunc fn first cap).run Try.prog w = .ok (.func fn first cap) w := fun _ _ _ _ => rfl
  go_enter Try.func61, Try.ntmps61
  go_wp2
  go_ret
  exact ⟨_, rfl, Nat.le_refl _, Blk.new _ _ _, b_alloc _ _⟩
end Go.Proofs.Ytdebgkjekcppmaa
