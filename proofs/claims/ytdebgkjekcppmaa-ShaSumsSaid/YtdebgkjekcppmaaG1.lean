/- The steps of the walk of a drawn region under predicates, for worlds that only grow. Over any program. -/
import Derived.Test.YtdebgkjekcppmaaP0
import Derived.Test.YtdebgkjekcppmaaG0
namespace Go.Proofs.Ytdebgkjekcppmaa
open Go.RowKit

attribute [go_sem] growAt growUpon
/-- the one world is the other one, grown -/
def Bel (w w' : World) : Prop := Below w.heap.size w w'
theorem Bel.refl (w : World) : Bel w w := Below.refl _ _
theorem Bel.trans {a b c : World} (h : Bel a b) (k : Bel b c) : Bel a c := bt h k

/-- which slots are known by what: by the number of the operation in its region -/
def knownAt {R : World → World → Prop} : List (Nat × Known R) → Nat → Option (Known R)
  | [], _ => none
  | (n, g) :: l, k => if n = k then some g else knownAt l k

def plainOp : Op → Bool
  | .move _ | .assign _ | .pick .. | .load .. | .binOp .. | .unOp .. | .convert .. | .slice .. | .fieldAddr .. | .field .. | .indexAddr .. | .index .. | .extract .. | .build .. | .makeInterface .. | .makeFunc .. => true
  | .call { callee := .builtin .len, .. } | .call { callee := .builtin .cap, .. } | .call { callee := .builtin .min, .. } | .call { callee := .builtin .max, .. } => true
  | _ => false

section
variable {P : Program} {ops : Array Oper} {C : World → Prop} {R : World → World → Prop} {F : Nat → Option (Known R)} {Q : Facts → Act → Prop}

theorem no_enter {α : Type} {r : Result α} {g : α → Value} {f : FuncId} {args : Array Value} {w : World} : r.andThen (fun x w => .ok (Next.value (g x)) w) ≠ .ok (.enter f args) w := by
  cases r <;> simp [Result.andThen]
theorem plain_no_enter {ρ : Operand → Value} {o : Oper} (h : plainOp o.op = true) {w w' : World} {f : FuncId} {args : Array Value} : (execOp ρ o).run P w ≠ .ok (.enter f args) w' := by
  unfold execOp
  unfold plainOp at h
  split at h
  all_goals first
    | (rename_i he; simp only [he]; simp only [Sem.run_bind, Sem.run_pure]; first | exact no_enter | exact no_enter (g := fun x => x) | (simp; done))
    | (rename_i he; simp only [he, resolve, invoke, builtin, Sem.run_bind, Sem.run_pure, Result.andThen_ok]; exact no_enter (g := fun x => x))
    | cases h

theorem readAt_of_quiet {o : Oper} {a : Act} {C' : World → Prop} {w : World} {v : Value} (hp : plainOp o.op = true) (h : o.quietAt P a C' w v) : readAt P o a w v := by
  unfold Oper.quietAt at h
  unfold readAt
  have hne := fun f args w' => plain_no_enter (P := P) (ρ := a.eval) hp (w := w) (w' := w') (f := f) (args := args)
  generalize (execOp a.eval o).run P w = r at *
  cases r with
  | ok n w' =>
    cases n <;> simp only [Oper.quietUpon] at h <;> simp only [readUpon]
    case value u => exact h
    case skip => exact h
    case enter f args => exact absurd rfl (hne f args w')
  | halt x w' => simp only [Oper.quietUpon] at h

theorem wpG_skip {k : Nat} {o : Oper} {rest : List Oper} {S : Facts} {a : Act} (hw : Region.wanted o (yielded ops a.tmps) = false)
    (h : ∀ K : Act → Prop, (∀ a, wpG P ops C R F Q (k + 1) rest S a → K a) → wpQuiet P ops C K [o] a) : wpG P ops C R F Q k (o :: rest) S a := by
  have := h _ fun _ h => h
  unfold wpQuiet at this
  rw [if_neg (by rw [hw]; exact Bool.false_ne_true)] at this
  unfold wpG
  rw [if_neg (by rw [hw]; exact Bool.false_ne_true)]
  exact this
theorem wpG_quiet {k : Nat} {o : Oper} {rest : List Oper} {S : Facts} {a : Act} (hF : F k = none) (hp : plainOp o.op = true)
    (h : ∀ K : Act → Prop, (∀ a, wpG P ops C R F Q (k + 1) rest S a → K a) → wpQuiet P ops (fun _ => True) K [o] a) : wpG P ops C R F Q k (o :: rest) S a := by
  have := h _ fun _ h => h
  unfold wpQuiet at this
  unfold wpG
  split
  · rename_i hw
    rw [if_pos hw] at this
    obtain ⟨v, h1, h2⟩ := this
    simp only [hF]
    exact ⟨v, fun w hw _ => readAt_of_quiet hp (h1 w trivial), h2⟩
  · rename_i hw
    rw [if_neg hw] at this
    exact this
theorem wpG_known {k : Nat} {o : Oper} {rest : List Oper} {S : Facts} {a : Act} (g : Known R) (hF : F k = some g) (hw : Region.wanted o (yielded ops a.tmps) = true)
    (h1 : ∀ (w' : World) (G : Value → World → Prop), C w' → S.at ops o w' → (∀ x w'', R w' w'' → (∀ φ, g.fact x = some φ → φ w'') → G (g.val x) w'') → growAt P o a w' G)
    (h2 : ∀ x (K : Act → Prop), (∀ a, wpG P ops C R F Q (k + 1) rest (S.add o (g.fact x)) a → K a) → K (a.put o.dst (g.val x))) : wpG P ops C R F Q k (o :: rest) S a := by
  unfold wpG
  rw [if_pos hw]
  simp only [hF]
  exact ⟨fun w' hC hS => h1 w' _ hC hS fun x w'' hR hφ => ⟨hR, x, rfl, hφ⟩, fun x => h2 x _ fun _ h => h⟩
/-- a slot whose value is told -/
theorem wpG_exact {k : Nat} {o : Oper} {rest : List Oper} {S : Facts} {a : Act} {v : Value} (hF : F k = some (.exact R v)) (hw : Region.wanted o (yielded ops a.tmps) = true)
    (h1 : ∀ (w' : World) (G : Value → World → Prop), C w' → S.at ops o w' → (∀ w'', R w' w'' → G v w'') → growAt P o a w' G)
    (h2 : ∀ (K : Act → Prop), (∀ a, wpG P ops C R F Q (k + 1) rest S a → K a) → K (a.put o.dst v)) : wpG P ops C R F Q k (o :: rest) S a := by
  refine wpG_known (.exact R v) hF hw (fun w' G hC hS hG => h1 w' G hC hS fun w'' hR => hG () w'' hR (fun _ h => by cases h)) (fun x K hK => h2 K fun a ha => hK a ?_)
  simp only [Known.exact, Facts.add_none]
  exact ha

theorem at0 {S : Facts} {o o' : Oper} {φ : World → Prop} {w : World} (h : (S.add o (some φ)).at ops o' w) (ha : o.apart ops o' = false) : φ w := (Facts.at_some h).1 ha
theorem at_on {S : Facts} {o o' : Oper} {φ : Option (World → Prop)} {w : World} (h : (S.add o φ).at ops o' w) : S.at ops o' w := fun p hp => h p (.inr hp)
theorem at1 {S : Facts} {o o' o1 : Oper} {φ : World → Prop} {φ1 : Option (World → Prop)} {w : World} (h : ((S.add o (some φ)).add o1 φ1).at ops o' w) (ha : o.apart ops o' = false) : φ w := at0 (at_on h) ha
theorem at2 {S : Facts} {o o' o1 o2 : Oper} {φ : World → Prop} {φ1 φ2 : Option (World → Prop)} {w : World} (h : (((S.add o (some φ)).add o1 φ1).add o2 φ2).at ops o' w) (ha : o.apart ops o' = false) : φ w := at0 (at_on (at_on h)) ha
theorem at3 {S : Facts} {o o' o1 o2 o3 : Oper} {φ : World → Prop} {φ1 φ2 φ3 : Option (World → Prop)} {w : World} (h : ((((S.add o (some φ)).add o1 φ1).add o2 φ2).add o3 φ3).at ops o' w) (ha : o.apart ops o' = false) : φ w := at0 (at_on (at_on (at_on h))) ha

theorem all0 {S : Facts} {o : Oper} {φ : World → Prop} {w : World} (h : (S.add o (some φ)).all w) : φ w := (Facts.all_some.1 h).1
theorem all_on {S : Facts} {o : Oper} {φ : Option (World → Prop)} {w : World} (h : (S.add o φ).all w) : S.all w := fun p hp => h p (.inr hp)
theorem all1 {S : Facts} {o o1 : Oper} {φ : World → Prop} {φ1 : Option (World → Prop)} {w : World} (h : ((S.add o (some φ)).add o1 φ1).all w) : φ w := all0 (all_on h)
theorem all2 {S : Facts} {o o1 o2 : Oper} {φ : World → Prop} {φ1 φ2 : Option (World → Prop)} {w : World} (h : (((S.add o (some φ)).add o1 φ1).add o2 φ2).all w) : φ w := all0 (all_on (all_on h))

/-- one walk of the text's order, the world growing -/
theorem region_known {id : Nat} {Q : Exit → Act → World → Prop} {a : Act} {w : World} {l : List Oper} (L : List (Nat × Known Bel)) (hm : P.follows .mixedOrders = true) (hB : splitB l.toArray l.length = true)
    (h : wpG P l.toArray (Bel w) Bel (knownAt L) (fun S a' => ∀ w', Bel w w' → S.all w' → Q .normal a' w') 0 l Facts.none a) : (Code.region id l.toArray true).wp P Q a w :=
  wp_region_grown (knownAt L) l.length hm hB (fun _ _ h k => Bel.trans h k) (b_drew w) (by rw [List.take_length, List.drop_length]; exact h)
/-- .. up to the n-th operation, the others one behind the other -/
theorem region_tail {id : Nat} {Q : Exit → Act → World → Prop} {a : Act} {w : World} {l : List Oper} (n : Nat) (L : List (Nat × Known Bel)) (hm : P.follows .mixedOrders = true) (hB : splitB l.toArray n = true)
    (h : wpG P l.toArray (Bel w) Bel (knownAt L) (fun S a' => ∀ w', Bel w w' → S.all w' → wpList P l.toArray Q (l.drop n) a' w') 0 (l.take n) Facts.none a) : (Code.region id l.toArray true).wp P Q a w :=
  wp_region_grown (knownAt L) n hm hB (fun _ _ h k => Bel.trans h k) (b_drew w) h
theorem region_known_in {id k r : Nat} {Q : Exit → Act → World → Prop} {a : Act} {w : World} {l : List Oper} (L : List (Nat × Known Bel)) (hm : P.follows .mixedOrders = true) (hB : splitB l.toArray l.length = true) (hd : l.all noDefer = true)
    (h : wpG P l.toArray (Bel w) Bel (knownAt L) (fun S a' => ∀ w', Bel w w' → S.all w' → Q .normal a' w') 0 l Facts.none a) : (Code.region id l.toArray true).wpIn (Fence.wide.inRound r) k P Q a w :=
  wpIn_region_grown (knownAt L) l.length hm hB hd (fun _ _ h k => Bel.trans h k) (b_drew w) (by rw [List.take_length, List.drop_length]; exact h)
theorem region_tail_in {id k r : Nat} {Q : Exit → Act → World → Prop} {a : Act} {w : World} {l : List Oper} (n : Nat) (L : List (Nat × Known Bel)) (hm : P.follows .mixedOrders = true) (hB : splitB l.toArray n = true) (hd : l.all noDefer = true)
    (h : wpG P l.toArray (Bel w) Bel (knownAt L) (fun S a' => ∀ w', Bel w w' → S.all w' → wpListIn (Fence.wide.inRound r) k P l.toArray Q (l.drop n) a' w') 0 (l.take n) Facts.none a) : (Code.region id l.toArray true).wpIn (Fence.wide.inRound r) k P Q a w :=
  wpIn_region_grown (knownAt L) n hm hB hd (fun _ _ h k => Bel.trans h k) (b_drew w) h
/-- a callee's contract with a told result -/
theorem calls_told {f : FuncId} {args : Array Value} {w : World} {v : Value} {G : Value → World → Prop} (hG : ∀ w'', Bel w w'' → G v w'') (h : Calls P f args w fun e w' => e = .returned v ∧ Below w.heap.size w w') :
    Calls P f args w fun e w'' => ∃ u, e = .returned u ∧ G u w'' := h.mono fun _ _ ⟨he, hb⟩ => ⟨v, he, hG _ hb⟩
end
end Go.Proofs.Ytdebgkjekcppmaa
