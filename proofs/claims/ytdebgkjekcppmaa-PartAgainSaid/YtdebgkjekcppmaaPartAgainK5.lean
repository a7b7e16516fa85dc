/- Lemmas for PartAgain, part 5: walks of the functions that it reaches, and the plain laws behind them. -/
import Derived.Lib.MinMaxS
import Derived.Maps.RangeWalk
import Derived.Test.YtdebgkjekcppmaaPartAgainK4
set_option linter.unusedSimpArgs false
set_option linter.unusedVariables false
namespace Go.Proofs.Ytdebgkjekcppmaa
open Go.RowKit Oct

abbrev PR := List UInt8 × List UInt8
/-- a pair's cells -/
def pcell (p : PR) : List Value := [.string (bs p.1), .string (bs p.2)]
def pcells : List PR → List Value
  | [] => []
  | p :: l => .string (bs p.1) :: .string (bs p.2) :: pcells l
theorem pcells_length : ∀ l : List PR, (pcells l).length = l.length * 2
  | [] => rfl
  | p :: l => by simp [pcells, pcells_length l]; omega
theorem pcells_append : ∀ a b : List PR, pcells (a ++ b) = pcells a ++ pcells b
  | [], _ => rfl
  | p :: a, b => by simp [pcells, pcells_append a b]
theorem pcells_snoc (l : List PR) (p : PR) : pcells l ++ [.string (bs p.1), .string (bs p.2)] = pcells (l ++ [p]) := by rw [pcells_append]; rfl
theorem pcells_key : ∀ (l : List PR) (k : Nat) (h : k < l.length), (pcells l)[k * 2]? = some (.string (bs l[k].1))
  | p :: l, 0, _ => rfl
  | p :: l, k + 1, h => by
    have := pcells_key l k (by simpa using h)
    rw [show (k + 1) * 2 = k * 2 + 2 by omega]
    simpa [pcells] using this
theorem pcells_val : ∀ (l : List PR) (k : Nat) (h : k < l.length), (pcells l)[k * 2 + 1]? = some (.string (bs l[k].2))
  | p :: l, 0, _ => rfl
  | p :: l, k + 1, h => by
    have := pcells_val l k (by simpa using h)
    rw [show (k + 1) * 2 + 1 = k * 2 + 1 + 2 by omega]
    simpa [pcells] using this
theorem pcells_drop : ∀ (l : List PR) (k : Nat), (pcells l).drop (k * 2) = pcells (l.drop k)
  | l, 0 => by simp
  | [], k + 1 => by simp [pcells]
  | p :: l, k + 1 => by
    rw [show (k + 1) * 2 = k * 2 + 2 by omega]
    simp [pcells, pcells_drop l k]
theorem pcells_take : ∀ (l : List PR) (k : Nat), (pcells l).take (k * 2) = pcells (l.take k)
  | l, 0 => by simp [pcells]
  | [], k + 1 => by simp [pcells]
  | p :: l, k + 1 => by
    rw [show (k + 1) * 2 = k * 2 + 2 by omega]
    simp [pcells, pcells_take l k]
theorem pcells_one (l : List PR) : ∀ u ∈ pcells l, u.oneCell' = true := by
  induction l with
  | nil => simp [pcells]
  | cons p l ih => intro u hu; simp [pcells] at hu; rcases hu with rfl | rfl | hu <;> first | rfl | exact ih u hu

/-- the slice value v is a row of pairs -/
def RP (w : World) (v : Value) (l : List PR) : Prop := Reads w v l.length (pcells l) ∧ ∃ a cap, v = .slice a l.length cap ∧ l.length ≤ cap
theorem RP.below {w w' : World} {v : Value} {l : List PR} (h : RP w v l) (hB : Below w.heap.size w w') : RP w' v l := ⟨Reads.below h.1 hB, h.2⟩
/-- v is a row of pairs of the call's own -/
def OP (w : World) (base : Nat) (v : Value) (l : List PR) : Prop := w.ownsRow base 52 2 v l.length (pcells l)
theorem OP.reads {w : World} {base : Nat} {v : Value} {l : List PR} (h : OP w base v l) : RP w v l := by
  refine ⟨Reads.owned h, ?_⟩
  rcases h.2 with ⟨hv, h0⟩ | ⟨g, cap, cur, hv, _, _, hc, _⟩
  · exact ⟨none, 0, by rw [hv, h0], by omega⟩
  · exact ⟨_, _, hv, hc⟩
theorem OP.below {w w' : World} {base : Nat} {v : Value} {l : List PR} (h : OP w base v l) (hB : Below w.heap.size w w') : OP w' base v l := ownsRow_below h hB
theorem RP.nil (w : World) : RP w (.slice none 0 0) [] := ⟨Reads.nil w, none, 0, rfl, Nat.le_refl _⟩
theorem OP.nil (w : World) (base : Nat) : OP w base (.slice none 0 0) [] := ⟨rfl, .inl ⟨rfl, rfl⟩⟩
theorem RP.new (w : World) (l : List PR) (e : TypeId) : RP (w.alloc (.cells (pcells l).toArray e)) (.slice (some ⟨w.heap.size, 0, none⟩) l.length l.length) l := ⟨Reads.new w _ _ _ _, _, _, rfl, Nat.le_refl _⟩
theorem infoPair : (Try.prog.info? 52).map (fun i => (i.zero, i.size, i.bytes)) = some (some (.agg #[.string ByteArray.empty, .string ByteArray.empty]), 2, 32) := by kernel_rfl

/-- a row, opened -/
theorem RP.open {w : World} {v : Value} {l : List PR} (h : RP w v l) : ∃ a cap, v = .slice a l.length cap ∧ l.length ≤ cap ∧
    ∀ k (hk : k < l.length), ∃ b off, a = some ⟨b, off, none⟩ ∧ w.cell? ⟨b, off + k * 2, none⟩ = some (.string (bs l[k].1)) ∧ w.cell? ⟨b, off + k * 2 + 1, none⟩ = some (.string (bs l[k].2)) := by
  obtain ⟨⟨a, cap, rfl, hn, hc⟩, a', cap', hv, hle⟩ := h
  injection hv with _ _ h3
  subst h3
  refine ⟨a, cap, rfl, hle, fun k hk => ?_⟩
  obtain ⟨b, off, rfl, h1⟩ := hc _ _ (pcells_key l k hk)
  obtain ⟨b', off', hb, h2⟩ := hc _ _ (pcells_val l k hk)
  cases hb
  exact ⟨b, off, rfl, h1, h2⟩
/-- append(s, x...): s the call's own -/
theorem appendP {ops : Array Oper} {rest : List Oper} {o : Oper} {a : Act} {Q : Exit → Act → World → Prop} (w : World) (hgd : o.guard = none) (s x : Operand) (t : TypeId)
    (ho : o.op = .call { callee := .builtin .append, args := #[s, x], argTypes := #[t, t] }) (ht : Try.prog.underlying t = some (.slice 52))
    (base : Nat) (v : Value) (xs : List PR) (hs : a.eval s = v) (hown : OP w base v xs)
    (vx : Value) (ys : List PR) (hx : a.eval x = vx) (hr : RP w vx ys) (hbytes : (xs.length + ys.length) * 32 ≤ 140737488355328) (hbase : base ≤ w.heap.size)
    (h : ∀ v' w', OP w' base v' (xs ++ ys) → Below base w w' → wpList Try.prog ops Q rest (a.put o.dst v') w') : wpList Try.prog ops Q (o :: rest) a w :=
  appendN w (pcells ys) 52 hgd s x t ho base (.agg #[.string ByteArray.empty, .string ByteArray.empty]) 2 32 ht infoPair rfl (by decide) v xs.length (pcells xs) hs hown vx ys.length hx hr.1 (pcells_length ys) (pcells_one ys) hbytes (by decide) hbase
    (fun v' w' h1 h2 => h v' w' (by unfold OP; rw [pcells_append, List.length_append]; exact h1) h2)
theorem append1P {ops : Array Oper} {rest : List Oper} {o : Oper} {a : Act} {Q : Exit → Act → World → Prop} (w : World) (p : PR) (hgd : o.guard = none) (s x : Operand) (t : TypeId)
    (ho : o.op = .call { callee := .builtin .append, args := #[s, x], argTypes := #[t, t] }) (ht : Try.prog.underlying t = some (.slice 52))
    (base : Nat) (v : Value) (xs : List PR) (hs : a.eval s = v) (hown : OP w base v xs) (c : Nat) (hx : a.eval x = .slice (some ⟨w.heap.size, 0, none⟩) 1 c)
    (hbytes : (xs.length + 1) * 32 ≤ 140737488355328) (hbase : base ≤ w.heap.size)
    (h : ∀ v' w', OP w' base v' (xs ++ [p]) → Below base w w' → wpList Try.prog ops Q rest (a.put o.dst v') w') : wpList Try.prog ops Q (o :: rest) a (w.alloc (.cells (pcell p).toArray 52)) :=
  append1 w (pcell p) 52 hgd s x t ho base (.agg #[.string ByteArray.empty, .string ByteArray.empty]) 2 32 ht infoPair rfl (by decide) v xs.length (pcells xs) hs hown c hx rfl (by simp [pcell, Value.oneCell']) hbytes (by decide) hbase
    (fun v' w' h1 h2 => h v' w' (by unfold OP; rw [pcells_append, List.length_append]; exact h1) h2)
theorem step_append1P {ops : Array Oper} {o : Oper} {a : Act} {K : Act → World → Prop} {Q : Exit → Act → World → Prop} {E : Prop} (w : World) (p : PR) (hgd : o.guard = none) (s x : Operand) (t : TypeId)
    (ho : o.op = .call { callee := .builtin .append, args := #[s, x], argTypes := #[t, t] }) (ht : Try.prog.underlying t = some (.slice 52))
    (base : Nat) (v : Value) (xs : List PR) (hs : a.eval s = v) (hown : OP w base v xs) (c : Nat) (hx : a.eval x = .slice (some ⟨w.heap.size, 0, none⟩) 1 c)
    (hbytes : (xs.length + 1) * 32 ≤ 140737488355328) (hbase : base ≤ w.heap.size)
    (h : ∀ g cap w', OP w' base (.slice (some ⟨g, 0, none⟩) (xs.length + 1) cap) (xs ++ [p]) → Below base w w' → K (a.put o.dst (.slice (some ⟨g, 0, none⟩) (xs.length + 1) cap)) w') :
    if Region.wanted o (yielded ops a.tmps) = true then Oper.wp Try.prog o a (w.alloc (.cells #[.string (bs p.1), .string (bs p.2)] 52)) K Q else E :=
  step_append1 w (pcell p) 52 hgd s x t ho base (.agg #[.string ByteArray.empty, .string ByteArray.empty]) 2 32 ht infoPair rfl (by decide) v xs.length (pcells xs) hs hown c hx rfl (by simp [pcell, Value.oneCell']) hbytes (by decide) hbase
    (fun g cap w' h1 h2 => h g cap w' (by unfold OP; rw [pcells_append, List.length_append]; exact h1) h2)
theorem Reads.mk {w : World} {a : Option Addr} {n cap : Nat} {xs : List Value} (h1 : a = none → n = 0 ∧ cap = 0) (h2 : ∀ j u, xs[j]? = some u → ∃ b off, a = some ⟨b, off, none⟩ ∧ w.cell? ⟨b, off + j, none⟩ = some u) : Reads w (.slice a n cap) n xs := ⟨a, cap, rfl, h1, h2⟩
theorem none_cap {w : World} {a : Option Addr} {n cap : Nat} {xs : List Value} (h : Reads w (.slice a n cap) n xs) : a = none → n = 0 ∧ cap = 0 := by
  obtain ⟨a', cap', hv, hn, _⟩ := h
  injection hv with h1 _ h3
  subst h1 h3
  exact hn
/-- s[lo:hi], read -/
theorem RP.sub {w : World} {a : Option Addr} {cap : Nat} {l : List PR} (h : RP w (.slice a l.length cap) l) (lo hi : Nat) (h1 : lo ≤ hi) (h2 : hi ≤ l.length) :
    RP w (sliced a lo hi cap 2) ((l.drop lo).take (hi - lo)) := by
  have hlen : ((l.drop lo).take (hi - lo)).length = hi - lo := by simp; omega
  obtain ⟨hr, a', cap', hv, hle⟩ := h
  injection hv with _ _ h3
  subst h3
  have hn := none_cap hr
  obtain ⟨a', cap', hv, _, hc⟩ := hr
  injection hv with e1 _ e3
  subst e1 e3
  unfold sliced
  refine ⟨?_, _, _, by rw [hlen], by rw [hlen]; omega⟩
  rw [hlen]
  refine Reads.mk ?_ ?_
  · intro ha
    by_cases e : cap = lo
    · omega
    · rw [if_neg e] at ha
      have : a = none := by simpa using ha
      have := hn this
      omega
  · intro j u hj
    rw [← pcells_take, ← pcells_drop, List.getElem?_take] at hj
    split at hj
    · rename_i hlt
      rw [List.getElem?_drop] at hj
      obtain ⟨b, off, rfl, hu⟩ := hc _ _ hj
      rw [if_neg (by omega)]
      refine ⟨b, off + lo * 2, ?_, ?_⟩
      · rw [Option.map_some, Addr.add_lit]
      · rw [← hu, Nat.add_assoc]
    · simp at hj
theorem RP.cut {w : World} {a : Option Addr} {cap : Nat} {l : List PR} (h : RP w (.slice a l.length cap) l) (k : Nat) (hk : k ≤ l.length) : RP w (sliced a k l.length cap 2) (l.drop k) := by
  have := h.sub k l.length hk (Nat.le_refl _)
  rwa [List.take_of_length_le (by simp)] at this
theorem RP.head {w : World} {a : Option Addr} {cap : Nat} {l : List PR} (h : RP w (.slice a l.length cap) l) (k : Nat) (hk : k ≤ l.length) : RP w (sliced a 0 k cap 2) (l.take k) := by
  have := h.sub 0 k (by omega) hk
  simpa using this
/-- s[k:], run -/
theorem RP.cutRun {w : World} {a : Option Addr} {cap : Nat} {l : List PR} (h : RP w (.slice a l.length cap) l) (k : Nat) (c : Int) (hc : c = (k : Int)) (hk : k ≤ l.length) :
    ∃ A C, (∀ wx, (Instr.slice 35 (.slice a l.length cap) (some (.int .i64 c)) none none).run Try.prog wx = .ok (.slice A (l.length - k) C) wx) ∧ RP w (.slice A (l.length - k) C) (l.drop k) := by
  subst hc
  refine ⟨_, _, fun wx => ?_, h.cut k hk⟩
  obtain ⟨i, hi, hz, hi1, hi2⟩ := info_parts infoPair
  rw [run_slice_l wx 35 a l.length cap (by kernel_rfl) .i64 k (by omega) (by omega)]
  have he : (sizeOf (Try.prog.elem 35)).run Try.prog wx = .ok 2 wx := by kernel_rfl
  rw [he]
  simp [Result.andThen, sliced]
/-- s[:k], run -/
theorem RP.headRun {w : World} {a : Option Addr} {cap : Nat} {l : List PR} (h : RP w (.slice a l.length cap) l) (k : Nat) (c : Int) (hc : c = (k : Int)) (hk : k ≤ l.length) :
    ∃ A C, (∀ wx, (Instr.slice 35 (.slice a l.length cap) none (some (.int .i64 c)) none).run Try.prog wx = .ok (.slice A k C) wx) ∧ RP w (.slice A k C) (l.take k) := by
  subst hc
  obtain ⟨_, a', cap', hv, hle⟩ := id h
  injection hv with _ _ h3
  subst h3
  refine ⟨if cap = 0 then a else a.map (·.add (0 * 2)), cap - 0, fun wx => ?_, by have := RP.head h k hk; simpa [sliced] using this⟩
  rw [run_slice_h wx 35 a l.length cap (by kernel_rfl) .i64 k (by omega) (by omega)]
  have he : (sizeOf (Try.prog.elem 35)).run Try.prog wx = .ok 2 wx := by kernel_rfl
  rw [he]
  simp [Result.andThen, sliced]
end Go.Proofs.Ytdebgkjekcppmaa
namespace Go.Proofs.Ytdebgkjekcppmaa
open Go.RowKit Oct

/-- does one text stand ahead of another one? -/
def lt (a b : List UInt8) : Bool := Op.bytesLess a b
/-- is a row sorted? -/
def sorted : List PR → Bool
  | [] => true
  | [_] => true
  | p :: q :: l => !lt q.1 p.1 && sorted (q :: l)
theorem sorted_iff (l : List PR) : sorted l = true ↔ ∀ k (h : k + 1 < l.length), lt l[k + 1].1 l[k].1 = false := by
  match l with
  | [] => simp [sorted]
  | [_] => simp [sorted]
  | p :: q :: l =>
    have ih := sorted_iff (q :: l)
    simp only [sorted, Bool.and_eq_true, Bool.not_eq_true', ih]
    constructor
    · rintro ⟨h1, h2⟩ k hk
      cases k with
      | zero => exact h1
      | succ k => exact h2 k (by simpa using hk)
    · intro h
      exact ⟨h 0 (by simp), fun k hk => h (k + 1) (by simpa using hk)⟩

/-- what Check gives -/
def chk (l : List PR) : Int := if sorted l then 0 else 2
theorem sorted_false (l : List PR) (k : Nat) (h : k + 1 < l.length) (hlt : lt l[k + 1].1 l[k].1 = true) : sorted l = false := by
  cases hs : sorted l
  · rfl
  · rw [(sorted_iff l).1 hs k h] at hlt; simp at hlt
theorem sorted_true (l : List PR) (k : Nat) (hk : l.length ≤ k + 1) (h : ∀ j (h : j + 1 < l.length), j < k → lt l[j + 1].1 l[j].1 = false) : sorted l = true :=
  (sorted_iff l).2 fun j hj => h j hj (by omega)

set_option maxRecDepth 100000 in
set_option maxHeartbeats 1000000 in
theorem rSorted_any (v : Value) (l : List PR) (w : World) (hr : RP w v l) (hl : l.length ≤ 140737488355328) :
    Calls Try.prog 69 #[v] w fun e w' => e = .returned (.bool (sorted l)) ∧ Below w.heap.size w w' := by
  obtain ⟨a, cap, rfl, _, hc⟩ := hr.open
  go_enter Try.func69, Try.ntmps69
  go_wp2
  go_loopw [3] (fun i wr => ∃ k : Nat, (k = 0 ∨ k + 1 ≤ l.length) ∧ i = .int .i64 ((k : Int) + 1) ∧ Hid (∀ j (h : j + 1 < l.length), j < k → lt l[j + 1].1 l[j].1 = false) ∧ Below w.heap.size w wr) (fun i _ => (l.length + 1 - (intOf i).toNat))
  case atStart => exact ⟨0, .inl rfl, rfl, by intro j _ h; omega, Below.refl _ _⟩
  case round =>
    obtain ⟨k, hk, rfl, hH, hB⟩ := hrel
    by_cases h0 : k + 1 < l.length
    · obtain ⟨b, off, rfl, c1, _⟩ := hc (k + 1) h0
      obtain ⟨b', off', hb, c2, _⟩ := hc k (by omega)
      cases hb
      have d1 := Below.keeps hB c1
      have d2 := Below.keeps hB c2
      have kk1 : (k : Int) + 1 < (l.length : Int) := by omega
      have kk2 : (k : Int) < (l.length : Int) := by omega
      clear hc hk
      cases hlt : lt l[k + 1].1 l[k].1
      · have HL := Lib.hid hlt
        unfold lt at hlt
        go_wp2
        go_quiet (fail)
        go_wp2
        go_roundw
        case rel =>
          refine ⟨k + 1, .inr (by omega), by go_num, ?_, bt hB (Below.drewN' _ _)⟩
          intro j h hj
          by_cases hjk : j = k
          · subst hjk; exact HL.out
          · exact hH.out j h (by omega)
        case measure => simp [intOf]; omega
      · have HL := Lib.hid hlt
        unfold lt at hlt
        go_wp2
        go_quiet (fail)
        go_wp2
        go_ret
        exact ⟨by rw [sorted_false l k h0 HL.out]; rfl, bt hB (Below.drewN' _ _)⟩
    · have hs := Lib.hid (sorted_true l k (by omega) hH.out)
      go_wp2
      go_ret
      exact ⟨by rw [hs.out]; rfl, hB⟩

set_option maxRecDepth 100000 in
set_option maxHeartbeats 1000000 in
theorem Check_any (v : Value) (l : List PR) (w : World) (hr : RP w v l) (hl : l.length ≤ 140737488355328) :
    Calls Try.prog 36 #[v] w fun e w' => e = .returned (.int .i64 (chk l)) ∧ Below w.heap.size w w' := by
  obtain ⟨a, cap, rfl, _, hc⟩ := hr.open
  go_enter Try.func36, Try.ntmps36
  go_wp2
  go_loopw [3] (fun i wr => ∃ k : Nat, (k = 0 ∨ k + 1 ≤ l.length) ∧ i = .int .i64 ((k : Int) + 1) ∧ Hid (∀ j (h : j + 1 < l.length), j < k → lt l[j + 1].1 l[j].1 = false) ∧ Below w.heap.size w wr) (fun i _ => (l.length + 1 - (intOf i).toNat))
  case atStart => exact ⟨0, .inl rfl, rfl, by intro j _ h; omega, Below.refl _ _⟩
  case round =>
    obtain ⟨k, hk, rfl, hH, hB⟩ := hrel
    by_cases h0 : k + 1 < l.length
    · obtain ⟨b, off, rfl, c1, _⟩ := hc (k + 1) h0
      obtain ⟨b', off', hb, c2, _⟩ := hc k (by omega)
      cases hb
      have d1 := Below.keeps hB c1
      have d2 := Below.keeps hB c2
      have kk1 : (k : Int) + 1 < (l.length : Int) := by omega
      have kk2 : (k : Int) < (l.length : Int) := by omega
      clear hc hk
      cases hlt : lt l[k + 1].1 l[k].1
      · have HL := Lib.hid hlt
        unfold lt at hlt
        go_wp2
        go_quiet (fail)
        go_wp2
        go_roundw
        case rel =>
          refine ⟨k + 1, .inr (by omega), by go_num, ?_, bt hB (Below.drewN' _ _)⟩
          intro j h hj
          by_cases hjk : j = k
          · subst hjk; exact HL.out
          · exact hH.out j h (by omega)
        case measure => simp [intOf]; omega
      · have HL := Lib.hid hlt
        unfold lt at hlt
        go_wp2
        go_quiet (fail)
        go_wp2
        go_ret
        exact ⟨by rw [chk, sorted_false l k h0 HL.out]; rfl, bt hB (Below.drewN' _ _)⟩
    · have hs := Lib.hid (sorted_true l k (by omega) hH.out)
      go_wp2
      go_ret
      exact ⟨by rw [chk, hs.out]; rfl, hB⟩
end Go.Proofs.Ytdebgkjekcppmaa
namespace Go.Proofs.Ytdebgkjekcppmaa
open Go.RowKit Oct

theorem pr_ne_of {a b : List PR} (k : Nat) (h : k < a.length) (h' : k < b.length) (hne : a[k] ≠ b[k]) : a ≠ b := by
  rintro rfl; exact hne rfl
theorem pr_eq (p q : PR) : (p.1 == q.1 && p.2 == q.2) = decide (p = q) := by
  rw [Bool.eq_iff_iff]; simp [Prod.ext_iff]

set_option maxRecDepth 100000 in
set_option maxHeartbeats 1000000 in
theorem rSameP_any (va vb : Value) (a b : List PR) (w : World) (ha : RP w va a) (hb : RP w vb b) (hla : a.length ≤ 140737488355328) (hlb : b.length ≤ 140737488355328) :
    Calls Try.prog 31 #[va, vb] w fun e w' => e = .returned (.bool (decide (a = b))) ∧ Below w.heap.size w w' := by
  obtain ⟨aa, ca, rfl, _, hca⟩ := ha.open
  obtain ⟨ab, cb, rfl, _, hcb⟩ := hb.open
  by_cases hl : a.length = b.length
  · have hL := Lib.hid hl
    have t1 : ((a.length : Int) != (b.length : Int)) = false := by rw [bne_eq_false_iff_eq]; omega
    clear hl
    go_enter Try.func31, Try.ntmps31
    go_wp2
    go_loopw [5] (fun i wr => ∃ k : Nat, k ≤ a.length ∧ i = .int .i64 k ∧ Hid (∀ j (h : j < a.length) (h' : j < b.length), j < k → a[j] = b[j]) ∧ Below w.heap.size w wr) (fun i _ => a.length - (intOf i).toNat)
    case atStart => exact ⟨0, by omega, rfl, by intro j _ _ h; omega, Below.refl _ _⟩
    case round =>
      obtain ⟨k, hk, rfl, hH, hB⟩ := hrel
      by_cases h0 : k < a.length
      · have h0b : k < b.length := by have := hL.out; omega
        obtain ⟨b1, o1, rfl, hc1, hc2⟩ := hca k h0
        obtain ⟨b2, o2, rfl, hc3, hc4⟩ := hcb k h0b
        have hd1 := Below.keeps hB hc1
        have hd2 := Below.keeps hB hc2
        have hd3 := Below.keeps hB hc3
        have hd4 := Below.keeps hB hc4
        have kk1 : (k : Int) < (a.length : Int) := by omega
        have kk2 : (k : Int) < (b.length : Int) := by omega
        clear hca hcb
        by_cases he : a[k] = b[k]
        · have he2 : (a[k].1 == b[k].1) = true := by simp [he]
          have he3 : (a[k].2 == b[k].2) = true := by simp [he]
          have HE := Lib.hid he
          clear he
          go_wp2
          go_quiet (fail)
          go_wp2
          go_roundw
          case rel =>
            refine ⟨k + 1, by omega, by go_num, ?_, bt hB (Below.drewN' _ _)⟩
            intro j h h' hj
            by_cases hjk : j = k
            · subst hjk; exact HE.out
            · exact hH.out j h h' (by omega)
          case measure => simp [intOf]; omega
        · have HE := Lib.hid he
          have he4 := pr_eq a[k] b[k]
          rw [decide_eq_false he] at he4
          clear he
          cases he2 : (a[k].1 == b[k].1)
          · go_wp2
            go_quiet (fail)
            go_wp2
            go_ret
            exact ⟨by rw [decide_eq_false (pr_ne_of k h0 h0b HE.out)]; rfl, bt hB (Below.drewN' _ _)⟩
          · have he3 : (a[k].2 == b[k].2) = false := by rw [he2, Bool.true_and] at he4; exact he4
            clear he4
            go_wp2
            go_quiet (fail)
            go_wp2
            go_ret
            exact ⟨by rw [decide_eq_false (pr_ne_of k h0 h0b HE.out)]; rfl, bt hB (Below.drewN' _ _)⟩
      · obtain rfl : k = a.length := by omega
        go_wp2
        go_ret
        exact ⟨by rw [decide_eq_true (List.ext_getElem hL.out (fun j h h' => hH.out j h h' h))]; rfl, hB⟩
  · have t1 : ((a.length : Int) != (b.length : Int)) = true := by rw [bne_iff_ne]; omega
    go_enter Try.func31, Try.ntmps31
    go_wp2
    go_ret
    exact ⟨by rw [decide_eq_false (fun e => hl (by rw [e]))]; rfl, Below.refl _ _⟩

set_option maxRecDepth 100000 in
set_option maxHeartbeats 1000000 in
theorem less_any (p q : PR) (w : World) :
    Calls Try.prog 75 #[.agg #[.string (bs p.1), .string (bs p.2)], .agg #[.string (bs q.1), .string (bs q.2)]] w fun e w' => e = .returned (.bool (lt p.1 q.1)) ∧ Below w.heap.size w w' := by
  go_enter Try.func75, Try.ntmps75
  go_wp2
  go_ret
  exact ⟨rfl, bt (b_alloc _ _) (b_alloc _ _)⟩
end Go.Proofs.Ytdebgkjekcppmaa
namespace Go.Proofs.Ytdebgkjekcppmaa
open Go.RowKit Oct

theorem lt_iff (a b : List UInt8) : lt a b = true ↔ a < b := by simp [lt, Proofs.bytesLess_eq]
theorem lt_trans' {a b c : List UInt8} (h1 : lt a b = true) (h2 : lt b c = true) : lt a c = true := by
  rw [lt_iff] at *; exact List.lt_trans h1 h2
theorem lt_irr (a : List UInt8) : lt a a = false := by
  cases h : lt a a
  · rfl
  · rw [lt_iff] at h; exact absurd h (List.lt_irrefl a)
theorem le_trans' {a b c : List UInt8} (h1 : lt b a = false) (h2 : lt c b = false) : lt c a = false := by
  have h1' : ¬ b < a := by rw [← lt_iff, h1]; simp
  have h2' : ¬ c < b := by rw [← lt_iff, h2]; simp
  cases h : lt c a
  · rfl
  · rw [lt_iff] at h
    exact absurd (List.lt_of_le_of_lt (List.not_lt.1 h2') h) h1'
theorem lt_asymm' {a b : List UInt8} (h : lt a b = true) : lt b a = false := by
  cases h2 : lt b a
  · rfl
  · rw [← lt_irr a, lt_trans' h h2]
theorem gt_eq (a b : List UInt8) : (!(lt a b || a == b)) = lt b a := by
  cases h1 : lt a b
  · cases h2 : a == b
    · have n1 : ¬ a < b := by rw [← lt_iff, h1]; simp
      have n2 : a ≠ b := by intro e; simp [e] at h2
      cases h3 : lt b a
      · have n3 : ¬ b < a := by rw [← lt_iff, h3]; simp
        exact absurd (List.le_antisymm (List.not_lt.1 n3) (List.not_lt.1 n1)) n2
      · rfl
    · have e : a = b := by simpa using h2
      rw [e, lt_irr]; rfl
  · rw [lt_asymm' h1]; rfl
/-- two rows, merged -/
def mrg : List PR → List PR → List PR
  | [], b => b
  | a, [] => a
  | x :: a, y :: b => if lt y.1 x.1 then y :: mrg (x :: a) b else x :: mrg a (y :: b)
termination_by a b => a.length + b.length
theorem mrg_nil_l (b : List PR) : mrg [] b = b := by rw [mrg]
theorem mrg_nil_r (a : List PR) : mrg a [] = a := by cases a <;> simp [mrg]
theorem mrg_cons (x y : PR) (a b : List PR) : mrg (x :: a) (y :: b) = if lt y.1 x.1 then y :: mrg (x :: a) b else x :: mrg a (y :: b) := by rw [mrg]
theorem mrg_length : ∀ a b : List PR, (mrg a b).length = a.length + b.length := by
  intro a b
  induction a, b using mrg.induct with
  | case1 b => simp [mrg_nil_l]
  | case2 a h => simp [mrg_nil_r]
  | case3 x a y b h ih => rw [mrg_cons, if_pos h, List.length_cons, ih]; simp; omega
  | case4 x a y b h ih => rw [mrg_cons, if_neg h, List.length_cons, ih]; simp; omega


/-- p, put in behind what is not above it -/
def ins (p : PR) : List PR → List PR
  | [] => [p]
  | x :: l => if lt p.1 x.1 then p :: x :: l else x :: ins p l
/-- a row, sorted -/
def srt (l : List PR) : List PR := l.foldl (fun o p => ins p o) []
theorem srt_snoc (l : List PR) (p : PR) : srt (l ++ [p]) = ins p (srt l) := by simp [srt]
theorem ins_length (p : PR) : ∀ l : List PR, (ins p l).length = l.length + 1
  | [] => rfl
  | x :: l => by rw [ins]; split <;> simp [ins_length p l]
theorem srt_length (l : List PR) : (srt l).length = l.length := by
  suffices h : ∀ (l o : List PR), (l.foldl (fun o p => ins p o) o).length = o.length + l.length by simpa [srt] using h l []
  intro l
  induction l with
  | nil => simp
  | cons p l ih => intro o; simp [ih, ins_length]; omega
theorem mrg_ins (p : PR) : ∀ a b : List PR, mrg a (ins p b) = ins p (mrg a b) := by
  intro a b
  induction a, b using mrg.induct with
  | case1 b => simp [mrg_nil_l]
  | case2 a h =>
    rw [mrg_nil_r]
    clear h
    induction a with
    | nil => simp [mrg_nil_l, ins]
    | cons x a ih =>
      rw [ins, ins, mrg_cons]
      split
      · rw [mrg_nil_r]
      · have : mrg a [p] = mrg a (ins p []) := rfl
        rw [this, ih]
  | case3 x a y b h ih =>
    cases hp : lt p.1 y.1
    · rw [ins, if_neg (by rw [hp]; simp), mrg_cons, if_pos h, ih, mrg_cons, if_pos h, ins, if_neg (by rw [hp]; simp)]
    · rw [ins, if_pos hp, mrg_cons, if_pos (lt_trans' hp h), mrg_cons, if_pos h, ins, if_pos hp]
  | case4 x a y b h ih =>
    have h' : lt y.1 x.1 = false := by simpa using h
    cases hp : lt p.1 y.1
    · have hx : lt p.1 x.1 = false := le_trans' h' hp
      rw [ins, if_neg (by rw [hp]; simp)] at ih ⊢
      rw [mrg_cons, if_neg h, ih, mrg_cons, if_neg h, ins, if_neg (by rw [hx]; simp)]
    · rw [ins, if_pos hp] at ih ⊢
      rw [mrg_cons x y, if_neg h, ins, mrg_cons]
      split
      · rw [mrg_cons, if_neg h]
      · rw [ih]
theorem mrg_srt (a b : List PR) : mrg (srt a) (srt b) = srt (a ++ b) := by
  have : ∀ n (b : List PR), b.length = n → mrg (srt a) (srt b) = srt (a ++ b) := by
    intro n
    induction n with
    | zero => intro b hb; rw [List.eq_nil_of_length_eq_zero hb]; simp [srt, mrg_nil_r]
    | succ n ih =>
      intro b hb
      obtain ⟨b', p, rfl⟩ : ∃ b' p, b = b' ++ [p] := ⟨b.dropLast, b.getLast (by intro e; rw [e] at hb; simp at hb), (List.dropLast_concat_getLast _).symm⟩
      rw [srt_snoc, mrg_ins, ih b' (by simpa using hb), ← List.append_assoc, srt_snoc]
  exact this _ b rfl
theorem srt_two (p q : PR) : srt [p, q] = if lt q.1 p.1 then [q, p] else [p, q] := by simp [srt, ins]
theorem srt_one (p : PR) : srt [p] = [p] := rfl
theorem srt_nil : srt [] = [] := rfl
/-- sorted, from the head on -/
theorem sorted_cons {x : PR} {l : List PR} : sorted (x :: l) = true ↔ (∀ y ∈ l, lt y.1 x.1 = false) ∧ sorted l = true := by
  induction l generalizing x with
  | nil => simp [sorted]
  | cons y l ih =>
    rw [sorted, Bool.and_eq_true, Bool.not_eq_true']
    constructor
    · rintro ⟨h1, h2⟩
      refine ⟨?_, h2⟩
      intro z hz
      rcases List.mem_cons.1 hz with rfl | hz
      · exact h1
      · exact le_trans' h1 ((ih.1 h2).1 z hz)
    · rintro ⟨h1, h2⟩
      exact ⟨h1 y (by simp), h2⟩
theorem mem_ins {p z : PR} : ∀ {l : List PR}, z ∈ ins p l ↔ z = p ∨ z ∈ l
  | [] => by simp [ins]
  | x :: l => by
    rw [ins]
    split
    · simp
    · simp [mem_ins (l := l)]
      constructor
      · rintro (h | h | h) <;> simp [h]
      · rintro (h | h | h) <;> simp [h]
theorem ins_sorted (p : PR) : ∀ l : List PR, sorted l = true → sorted (ins p l) = true
  | [], _ => rfl
  | x :: l, h => by
    rw [ins]
    split
    · rename_i hp
      rw [sorted, h, lt_asymm' hp]; rfl
    · rename_i hp
      have hp' : lt p.1 x.1 = false := by simpa using hp
      obtain ⟨h1, h2⟩ := sorted_cons.1 h
      refine sorted_cons.2 ⟨?_, ins_sorted p l h2⟩
      intro z hz
      rcases mem_ins.1 hz with rfl | hz
      · exact hp'
      · exact h1 z hz
theorem srt_sorted (l : List PR) : sorted (srt l) = true := by
  suffices h : ∀ (l o : List PR), sorted o = true → sorted (l.foldl (fun o p => ins p o) o) = true from h l [] rfl
  intro l
  induction l with
  | nil => intro o h; exact h
  | cons p l ih => intro o h; exact ih _ (ins_sorted p o h)
theorem ins_last (p : PR) : ∀ l : List PR, (∀ x ∈ l, lt p.1 x.1 = false) → ins p l = l ++ [p]
  | [], _ => rfl
  | x :: l, h => by
    rw [ins, if_neg (by rw [h x (by simp)]; simp), ins_last p l (fun y hy => h y (by simp [hy]))]; rfl
theorem sorted_snoc {p : PR} : ∀ {l : List PR}, sorted (l ++ [p]) = true → sorted l = true ∧ ∀ x ∈ l, lt p.1 x.1 = false
  | [], _ => by simp [sorted]
  | x :: l, h => by
    rw [List.cons_append, sorted_cons] at h
    obtain ⟨h1, h2⟩ := h
    obtain ⟨h3, h4⟩ := sorted_snoc h2
    refine ⟨sorted_cons.2 ⟨fun y hy => h1 y (by simp [hy]), h3⟩, ?_⟩
    intro y hy
    rcases List.mem_cons.1 hy with rfl | hy
    · exact h1 p (by simp)
    · exact h4 y hy
theorem srt_of_sorted (l : List PR) (h : sorted l = true) : srt l = l := by
  have : ∀ n (l : List PR), l.length = n → sorted l = true → srt l = l := by
    intro n
    induction n with
    | zero => intro l hl _; rw [List.eq_nil_of_length_eq_zero hl]; rfl
    | succ n ih =>
      intro l hl h
      obtain ⟨l', p, rfl⟩ : ∃ b' p, l = b' ++ [p] := ⟨l.dropLast, l.getLast (by intro e; rw [e] at hl; simp at hl), (List.dropLast_concat_getLast _).symm⟩
      obtain ⟨h1, h2⟩ := sorted_snoc h
      rw [srt_snoc, ih l' (by simpa using hl) h1, ins_last p l' h2]
  exact this _ l rfl h
theorem srt_srt (l : List PR) : srt (srt l) = srt l := srt_of_sorted _ (srt_sorted l)
/-- the place at which the reference puts p in -/
theorem ins_at (p : PR) : ∀ (l : List PR) (k : Nat), k ≤ l.length → sorted l = true → (∀ j (h : j < l.length), k ≤ j → lt p.1 l[j].1 = true) → (∀ (h : 0 < k) (h' : k - 1 < l.length), lt p.1 l[k - 1].1 = false) → ins p l = l.take k ++ p :: l.drop k
  | [], k, hk, _, _, _ => by simp [ins]
  | x :: l, 0, _, _, h, _ => by
    have := h 0 (by simp) (Nat.le_refl _)
    rw [ins, if_pos (by simpa using this)]; rfl
  | x :: l, k + 1, hk, hs, h, h' => by
    obtain ⟨h1, h2⟩ := sorted_cons.1 hs
    have hpx : lt p.1 x.1 = false := by
      have hq := h' (by omega) (by simp at hk ⊢; omega)
      cases k with
      | zero => simpa using hq
      | succ k =>
        have hm : ((x :: l)[k + 1 + 1 - 1]'(by simp at hk ⊢; omega)) ∈ l := by simp
        exact le_trans' (h1 _ hm) hq
    rw [ins, if_neg (by rw [hpx]; simp), ins_at p l k (by simpa using hk) h2]
    · rfl
    · intro j hj hkj
      have := h (j + 1) (by simpa using hj) (by omega)
      simpa using this
    · intro hk0 hj
      obtain ⟨m, rfl⟩ : ∃ m, k = m + 1 := ⟨k - 1, by omega⟩
      have := h' (by omega) (by simp at hj ⊢; omega)
      simpa using this
end Go.Proofs.Ytdebgkjekcppmaa
namespace Go.Proofs.Ytdebgkjekcppmaa
open Go.RowKit Oct

theorem b_drew' (w : World) (b : Nat) : Below b w w.drew := (Below.refl _ _).drew
theorem OP.empty (w : World) : OP (w.alloc (.cells #[] 52)) w.heap.size (.slice (some ⟨w.heap.size, 0, none⟩) 0 0) [] :=
  ⟨rfl, .inr ⟨w.heap.size, 0, #[], rfl, Nat.le_refl _, by show (w.heap.push _)[w.heap.size]? = _; simp, Nat.le_refl _, by decide, rfl, rfl⟩⟩

set_option maxRecDepth 100000 in
set_option maxHeartbeats 1000000 in
theorem Clone_any (v : Value) (l : List PR) (w : World) (hr : RP w v l) (hl : l.length * 32 ≤ 140737488355328) :
    Calls Try.prog 78 #[v] w fun e w' => ∃ v', e = .returned v' ∧ OP w' w.heap.size v' l ∧ Below w.heap.size w w' := by
  obtain ⟨hr0, a, cap, rfl, hle⟩ := id hr
  have hnil := none_cap hr0
  cases a with
  | none =>
    obtain ⟨h0, rfl⟩ := hnil rfl
    have hl0 : l = [] := List.eq_nil_of_length_eq_zero h0
    subst hl0
    go_enter Try.func78, Try.ntmps78
    have q := fun w : World => Lib.run_eql_slice_nil w 35 52 none 0 0 0 0 Try.underlying35
    go_wp2
    go_ret
    exact ⟨_, rfl, OP.nil _ _, Below.refl _ _⟩
  | some ad =>
    have q := fun w : World => Lib.run_eql_slice_nil w 35 52 (some ad) l.length cap 0 0 Try.underlying35
    have H := Lib.hid hr
    clear hr hr0 hnil
    go_enter Try.func78, Try.ntmps78
    go_wp2_with (at_builtin; refine appendP _ rfl _ _ _ rfl Try.underlying35 w.heap.size _ [] rfl (OP.empty w) _ l rfl (H.out.below (b_alloc _ _)) (by simpa using hl) (by simp) ?_; intro v' w1 hown1 hB1)
    go_ret
    exact ⟨_, rfl, hown1, (b_alloc w _).trans hB1⟩

/-- a slice's length -/
def slen : Value → Nat
  | .slice _ n _ => n
  | _ => 0
/-- make([]Pair, 0, n) -/
theorem makeP (w : World) (n : Nat) (hb : 32 * n ≤ 281474976710656) : ∃ w', (Instr.makeSlice 35 (.int .i64 0) (.int .i64 (n : Int))).run Try.prog w = .ok (.slice (some ⟨w.heap.size, 0, none⟩) 0 n) w' ∧
    OP w' w.heap.size (.slice (some ⟨w.heap.size, 0, none⟩) 0 n) [] ∧ Below w.heap.size w w' := by
  obtain ⟨i, hi, hz, hi1, hi2⟩ := info_parts infoPair
  obtain ⟨w', h1, h2, h3⟩ := run_make_own (P := Try.prog) w w.heap.size 35 52 i _ 2 Try.underlying35 hi hz hi1 .i64 .i64 n (by rw [hi2]; exact hb) (by unfold maxLen; omega) (Nat.le_refl _)
  exact ⟨w', h1, h2, (Below.refl _ _).grown h3 (Nat.le_refl _) (by simp)⟩

set_option maxRecDepth 100000 in
set_option maxHeartbeats 4000000 in
theorem merged_any (va vb : Value) (la lb : List PR) (w : World) (ha : RP w va la) (hb : RP w vb lb) (hl : (la.length + lb.length) * 32 ≤ 140737488355328) :
    Calls Try.prog 74 #[va, vb, .func (.func 75) #[] #[]] w fun e w' => ∃ v', e = .returned v' ∧ OP w' w.heap.size v' (mrg la lb) ∧ Below w.heap.size w w' := by
  obtain ⟨_, aa, ca, rfl, hca⟩ := id ha
  obtain ⟨_, ab, cb, rfl, hcb⟩ := id hb
  obtain ⟨w1, hmk, hown1, hB1⟩ := makeP w (la.length + lb.length) (by omega)
  rw [Int.natCast_add] at hmk
  have HA := Lib.hid ha
  have HB := Lib.hid hb
  clear ha hb
  go_enter Try.func74, Try.ntmps74
  go_wp2
  go_loopw [7, 0, 1] (fun vo xa xb wr => ∃ o xs ys, OP wr w.heap.size vo o ∧ RP w xa xs ∧ RP w xb ys ∧ Hid (o ++ mrg xs ys = mrg la lb) ∧ o.length + xs.length + ys.length = la.length + lb.length ∧ Below w.heap.size w wr) (fun vo xa xb _ => slen xa + slen xb)
  case atStart => exact ⟨[], la, lb, hown1, HA.out, HB.out, rfl, by simp, hB1⟩
  case round =>
    obtain ⟨o, xs, ys, hown, hxs, hys, hH, hlen, hB⟩ := hrel
    clear HA HB hown1 hmk hB1
    obtain ⟨a1, c1, rfl, hc1, hx⟩ := hxs.open
    obtain ⟨a2, c2, rfl, hc2, hy⟩ := hys.open
    obtain ⟨ao, co, rfl⟩ := owns_slice hown
    have HXS := Lib.hid hxs
    have HYS := Lib.hid hys
    by_cases h1 : 0 < xs.length
    · by_cases h2 : 0 < ys.length
      · obtain ⟨b1, o1, rfl, d1, d2⟩ := hx 0 h1
        obtain ⟨b2, o2, rfl, d3, d4⟩ := hy 0 h2
        rw [Nat.zero_mul, Nat.add_zero] at d1 d2 d3 d4
        obtain ⟨A1, C1, s1, hc1'⟩ := hxs.cutRun 1 1 rfl h1
        obtain ⟨A2, C2, s2, hc2'⟩ := hys.cutRun 1 1 rfl h2
        have HC1 := Lib.hid hc1'
        have HC2 := Lib.hid hc2'
        clear hc1' hc2'
        clear hxs hys
        replace d1 := Below.keeps hB d1
        replace d2 := Below.keeps hB d2
        replace d3 := Below.keeps hB d3
        replace d4 := Below.keeps hB d4
        have kk1 : (0 : Int) < (xs.length : Int) := by omega
        have kk2 : (0 : Int) < (ys.length : Int) := by omega
        have kk3 : (1 : Int) ≤ (xs.length : Int) := by omega
        have kk4 : (1 : Int) ≤ (ys.length : Int) := by omega
        have hX : xs = xs[0] :: xs.drop 1 := by cases xs with | nil => simp at h1 | cons x xs => rfl
        have hY : ys = ys[0] :: ys.drop 1 := by cases ys with | nil => simp at h2 | cons x xs => rfl
        have HX := Lib.hid hX; have HY := Lib.hid hY
        clear hX hY hx hy
        cases hlt : lt ys[0].1 xs[0].1
        · have HL := Lib.hid hlt; clear hlt
          go_wp2
          go_region_with (go_at_call 75; refine (less_any _ _ _).mono ?_; rw [HL.out]; rintro e w2 ⟨rfl, hB2⟩)
          all_goals
            have hB2' : Below wr.heap.size wr w2 := (b_drew wr).trans hB2
            have e1 := Below.keeps hB2' d1
            have e2 := Below.keeps hB2' d2
            have hown2 := World.ownsRow.drew (hown.below hB2')
            have hby : (o.length + 1) * 32 ≤ 140737488355328 := by omega
            have hbase : w.heap.size ≤ w2.drew.heap.size := by have := hB.size; have := hB2'.size; show w.heap.size ≤ w2.heap.size; omega
            clear hown d1 d2 d3 d4
            go_wp2
            go_region_law (refine step_append1P w2.drew xs[0] rfl _ _ 35 rfl Try.underlying35 w.heap.size _ o rfl hown2 _ rfl hby hbase ?_; intro g cap w3 hown3 hB3)
            all_goals
              simp only [List.getElem_toArray, List.getElem_cons_succ, List.getElem_cons_zero]
              go_frame
              go_wp2
              go_roundw
              case rel =>
                refine ⟨o ++ [xs[0]], xs.drop 1, ys, hown3, HC1.out, HYS.out, ?_, by simp; omega, hB.trans ((hB2'.mono hB.size).trans ((b_drew' w2 _).trans hB3))⟩
                have hh := hH.out
                rw [HX.out, HY.out, mrg_cons, if_neg (by rw [HL.out]; simp), ← HY.out] at hh
                unfold Hid
                rw [← hh]
                simp
              case measure => simp [slen]; omega
        · have HL := Lib.hid hlt; clear hlt
          go_wp2
          go_region_with (go_at_call 75; refine (less_any _ _ _).mono ?_; rw [HL.out]; rintro e w2 ⟨rfl, hB2⟩)
          all_goals
            have hB2' : Below wr.heap.size wr w2 := (b_drew wr).trans hB2
            have e1 := Below.keeps hB2' d3
            have e2 := Below.keeps hB2' d4
            have hown2 := World.ownsRow.drew (hown.below hB2')
            have hby : (o.length + 1) * 32 ≤ 140737488355328 := by omega
            have hbase : w.heap.size ≤ w2.drew.heap.size := by have := hB.size; have := hB2'.size; show w.heap.size ≤ w2.heap.size; omega
            clear hown d1 d2 d3 d4
            go_wp2
            go_region_law (refine step_append1P w2.drew ys[0] rfl _ _ 35 rfl Try.underlying35 w.heap.size _ o rfl hown2 _ rfl hby hbase ?_; intro g cap w3 hown3 hB3)
            all_goals
              simp only [List.getElem_toArray, List.getElem_cons_succ, List.getElem_cons_zero]
              go_frame
              go_wp2
              go_roundw
              case rel =>
                refine ⟨o ++ [ys[0]], xs, ys.drop 1, hown3, HXS.out, HC2.out, ?_, by simp; omega, hB.trans ((hB2'.mono hB.size).trans ((b_drew' w2 _).trans hB3))⟩
                have hh := hH.out
                rw [HX.out, HY.out, mrg_cons, if_pos HL.out, ← HX.out] at hh
                unfold Hid
                rw [← hh]
                simp
              case measure => simp [slen]; omega
      · obtain rfl : ys = [] := List.eq_nil_of_length_eq_zero (by omega)
        have kk1 : (0 : Int) < (xs.length : Int) := by omega
        clear hx hy hxs hys
        have hby : (o.length + xs.length) * 32 ≤ 140737488355328 := by simp at hlen; omega
        have hby2 : ((o ++ xs).length + 0) * 32 ≤ 140737488355328 := by simp at hlen ⊢; omega
        have hbase := hB.size
        have hx := HXS.out.below hB
        go_wp2_with (first | (at_builtin; refine appendP w2 rfl _ _ _ rfl Try.underlying35 w.heap.size _ (o ++ xs) rfl hown2 _ [] rfl (HYS.out.below hB2') hby2 hB2'.size ?_; intro v3 w3 hown3 hB3) | (at_builtin; refine appendP wr rfl _ _ _ rfl Try.underlying35 w.heap.size _ o rfl hown _ xs rfl hx hby hbase ?_; intro v2 w2 hown2 hB2; have hB2' := hB.trans hB2))
        go_ret
        have hh := hH.out
        rw [mrg_nil_r] at hh
        rw [hh, List.append_nil] at hown3
        exact ⟨_, rfl, hown3, hB2'.trans hB3⟩
    · obtain rfl : xs = [] := List.eq_nil_of_length_eq_zero (by omega)
      clear hx hy hxs hys
      have hby : (o.length + 0) * 32 ≤ 140737488355328 := by simp at hlen; omega
      have hby2 : ((o ++ []).length + ys.length) * 32 ≤ 140737488355328 := by simp at hlen ⊢; omega
      have hbase := hB.size
      have hx := HXS.out.below hB
      go_wp2_with (first | (at_builtin; refine appendP w2 rfl _ _ _ rfl Try.underlying35 w.heap.size _ (o ++ []) rfl hown2 _ ys rfl (HYS.out.below hB2') hby2 hB2'.size ?_; intro v3 w3 hown3 hB3) | (at_builtin; refine appendP wr rfl _ _ _ rfl Try.underlying35 w.heap.size _ o rfl hown _ [] rfl hx hby hbase ?_; intro v2 w2 hown2 hB2; have hB2' := hB.trans hB2))
      go_ret
      have hh := hH.out
      rw [mrg_nil_l] at hh
      rw [List.append_nil, hh] at hown3
      exact ⟨_, rfl, hown3, hB2'.trans hB3⟩
end Go.Proofs.Ytdebgkjekcppmaa
namespace Go.Proofs.Ytdebgkjekcppmaa
open Go.RowKit Oct

theorem OP.mono {w : World} {base base' : Nat} {v : Value} {l : List PR} (h : OP w base v l) (hb : base' ≤ base) : OP w base' v l := owns_mono h hb

theorem owns_two {w : World} {base : Nat} {v : Value} {p q : PR} (h : OP w base v [p, q]) : ∃ g cap, v = .slice (some ⟨g, 0, none⟩) 2 cap ∧ base ≤ g := by
  rcases h.2 with ⟨_, h0⟩ | ⟨g', cap', cur, hv, hg, _⟩
  · simp at h0
  · exact ⟨g', cap', hv, hg⟩
theorem owns_cells2 {w : World} {base g cap : Nat} {p q : PR} (h : OP w base (.slice (some ⟨g, 0, none⟩) 2 cap) [p, q]) :
    w.cell? ⟨g, 0, none⟩ = some (.string (bs p.1)) ∧ w.cell? ⟨g, 1, none⟩ = some (.string (bs p.2)) ∧ w.cell? ⟨g, 2, none⟩ = some (.string (bs q.1)) ∧ w.cell? ⟨g, 3, none⟩ = some (.string (bs q.2)) ∧
    w.frozen? ⟨g, 0, none⟩ = false ∧ w.frozen? ⟨g, 1, none⟩ = false ∧ w.frozen? ⟨g, 2, none⟩ = false ∧ w.frozen? ⟨g, 3, none⟩ = false := by
  have hc := World.ownsRow.cells (g := g) h rfl
  have hf : ∀ j, w.frozen? ⟨g, j, none⟩ = false := by
    rcases h.2 with ⟨hv, _⟩ | ⟨g', cap', cur, hv, _, hh, _⟩
    · simp at hv
    · simp only [Value.slice.injEq, Option.some.injEq, Addr.mk.injEq, and_true, true_and] at hv
      obtain ⟨rfl, _, rfl⟩ := hv
      intro j
      simp [World.frozen?, hh]
  refine ⟨?_, ?_, ?_, ?_, hf _, hf _, hf _, hf _⟩
  · have := hc 0 _ rfl; rwa [Addr.add_lit] at this
  · have := hc 1 _ rfl; rwa [Addr.add_lit] at this
  · have := hc 2 _ rfl; rwa [Addr.add_lit] at this
  · have := hc 3 _ rfl; rwa [Addr.add_lit] at this

theorem owns_swap {w : World} {base g cap : Nat} {p q : PR} (h : OP w base (.slice (some ⟨g, 0, none⟩) 2 cap) [p, q]) (hb : base ≤ g) (hs : base ≤ w.heap.size) :
    OP ((((w.setCell ⟨g, 0, none⟩ (.string (bs q.1))).setCell ⟨g, 1, none⟩ (.string (bs q.2))).setCell ⟨g, 2, none⟩ (.string (bs p.1))).setCell ⟨g, 3, none⟩ (.string (bs p.2))).drew base (.slice (some ⟨g, 0, none⟩) 2 cap) [q, p] ∧
    Below base w ((((w.setCell ⟨g, 0, none⟩ (.string (bs q.1))).setCell ⟨g, 1, none⟩ (.string (bs q.2))).setCell ⟨g, 2, none⟩ (.string (bs p.1))).setCell ⟨g, 3, none⟩ (.string (bs p.2))).drew := by
  have h1 := (World.ownsRow.stored h 0 (.string (bs q.1))).1
  have h2 := (World.ownsRow.stored h1 1 (.string (bs q.2))).1
  have h3 := (World.ownsRow.stored h2 2 (.string (bs p.1))).1
  have h4 := (World.ownsRow.stored h3 3 (.string (bs p.2))).1
  exact ⟨World.ownsRow.drew h4, (((((Below.refl base w).setCell hb _).setCell hb _).setCell hb _).setCell hb _).drew⟩

set_option maxRecDepth 100000 in
set_option maxHeartbeats 4000000 in
theorem Sort_two (v : Value) (p q : PR) (w : World) (hr : RP w v [p, q]) (hl : [p, q].length * 32 ≤ 140737488355328) :
    Calls Try.prog 35 #[v] w fun e w' => ∃ v', e = .returned v' ∧ OP w' w.heap.size v' (srt [p, q]) ∧ Below w.heap.size w w' := by
  rw [srt_two]
  cases hlt : lt q.1 p.1
  · skip
    have HL := Lib.hid hlt; clear hlt
    go_enter Try.func35, Try.ntmps35
    go_wp2_with (go_at_call 78; refine (Clone_any _ [p, q] _ hr hl).mono ?_; rintro e w1 ⟨vc, rfl, hown, hB1⟩; obtain ⟨g, cc, rfl, hgb⟩ := owns_two hown; obtain ⟨c0, c1, c2, c3, f0, f1, f2, f3⟩ := owns_cells2 hown)
    have HO := Lib.hid hown
    clear hown
    go_region_with (go_at_call 75; refine (less_any _ _ _).mono ?_; rw [HL.out]; rintro e w2 ⟨rfl, hB2⟩)
    all_goals
      have hB3 := (b_drew w1).trans hB2
      go_wp2
      go_ret
      exact ⟨_, rfl, HO.out.below hB3, bt hB1 hB3⟩
  · skip
    have HL := Lib.hid hlt; clear hlt
    go_enter Try.func35, Try.ntmps35
    go_wp2_with (go_at_call 78; refine (Clone_any _ [p, q] _ hr hl).mono ?_; rintro e w1 ⟨vc, rfl, hown, hB1⟩; obtain ⟨g, cc, rfl, hgb⟩ := owns_two hown; obtain ⟨c0, c1, c2, c3, f0, f1, f2, f3⟩ := owns_cells2 hown)
    have HO := Lib.hid hown
    clear hown
    go_region_with (go_at_call 75; refine (less_any _ _ _).mono ?_; rw [HL.out]; rintro e w2 ⟨rfl, hB2⟩)
    all_goals
      have hB3 := (b_drew w1).trans hB2
      have ho2 := HO.out.below hB3
      clear c0 c1 c2 c3 f0 f1 f2 f3 HO
      obtain ⟨c0, c1, c2, c3, f0, f1, f2, f3⟩ := owns_cells2 ho2
      have HO2 := Lib.hid ho2
      clear ho2
      go_wp2
      go_region
      all_goals
        go_wp2
        go_ret
        obtain ⟨k1, k2⟩ := owns_swap (HO2.out) hgb ((bt hB1 hB3).size)
        exact ⟨_, rfl, k1, (bt hB1 hB3).trans k2⟩

set_option maxRecDepth 100000 in
set_option maxHeartbeats 4000000 in
theorem Sort_any : ∀ (n : Nat) (v : Value) (l : List PR) (w : World), l.length ≤ n → RP w v l → l.length * 32 ≤ 140737488355328 →
    Calls Try.prog 35 #[v] w fun e w' => ∃ v', e = .returned v' ∧ OP w' w.heap.size v' (srt l) ∧ Below w.heap.size w w' := by
  intro n
  induction n with
  | zero =>
    intro v l w hn hr hl
    obtain rfl : l = [] := List.eq_nil_of_length_eq_zero (by omega)
    go_enter Try.func35, Try.ntmps35
    go_wp2_with (go_at_call 78; refine (Clone_any _ _ _ hr hl).mono ?_; rintro e w1 ⟨vc, rfl, hown, hB1⟩; obtain ⟨ac, cc, rfl⟩ := owns_slice hown)
    go_ret
    exact ⟨_, rfl, hown, hB1⟩
  | succ n ih =>
    intro v l w hn hr hl
    by_cases h1 : l.length < 2
    · have hi1 : (l.length : Int) < 2 := by omega
      have hs : srt l = l := by
        match l, h1 with
        | [], _ => rfl
        | [p], _ => rfl
      have HS := Lib.hid hs
      clear hs
      go_enter Try.func35, Try.ntmps35
      go_wp2_with (go_at_call 78; refine (Clone_any _ l _ hr hl).mono ?_; rintro e w1 ⟨vc, rfl, hown, hB1⟩; obtain ⟨ac, cc, rfl⟩ := owns_slice hown)
      go_ret
      exact ⟨_, rfl, by rw [HS.out]; exact hown, hB1⟩
    · by_cases h2 : l.length = 2
      · obtain ⟨p, q, rfl⟩ : ∃ p q, l = [p, q] := by
          match l, h2 with
          | [p, q], _ => exact ⟨p, q, rfl⟩
        exact Sort_two v p q w hr hl
      · have hi1 : ¬ (l.length : Int) < 2 := by omega
        have hi2 : ((l.length : Int) == 2) = false := by rw [beq_eq_false_iff_ne]; omega
        clear h1 h2
        go_enter Try.func35, Try.ntmps35
        go_wp2_with (go_at_call 78; refine (Clone_any _ l _ hr hl).mono ?_; rintro e w1 ⟨vc, rfl, hown, hB1⟩; obtain ⟨ac, cc, rfl⟩ := owns_slice hown)
        have hrp := hown.reads
        obtain ⟨A1, C1, s1, r1⟩ := hrp.headRun (l.length / 2) ((l.length : Int) / 2) (by omega) (by omega)
        obtain ⟨A2, C2, s2, r2⟩ := hrp.cutRun (l.length / 2) ((l.length : Int) / 2) (by omega) (by omega)
        have R1 := Lib.hid r1
        have R2 := Lib.hid r2
        have hn1 : (l.take (l.length / 2)).length ≤ n := by simp; omega
        have hn2 : (l.drop (l.length / 2)).length ≤ n := by simp; omega
        have hl1 : (l.take (l.length / 2)).length * 32 ≤ 140737488355328 := by simp; omega
        have hl2 : (l.drop (l.length / 2)).length * 32 ≤ 140737488355328 := by simp; omega
        have hl3 : ((srt (l.take (l.length / 2))).length + (srt (l.drop (l.length / 2))).length) * 32 ≤ 140737488355328 := by rw [srt_length, srt_length]; simp; omega
        clear r1 r2 hown hrp
        go_region_with (first
          | (go_at_call 74; refine (merged_any _ _ _ _ _ ha3 hb3 hl3).mono ?_; rintro e w4 ⟨v4, rfl, hown4, hB4⟩)
          | (go_at_call 35; refine (ih _ (l.drop (l.length / 2)) w2 hn2 (R2.out.below hB2') hl2).mono ?_; rintro e w3 ⟨vb, rfl, hown3, hB3⟩; have ha3 := hown2.reads.below hB3; have hb3 := hown3.reads; have hB3' := bt hB2' hB3; obtain ⟨ab, cb, rfl⟩ := owns_slice hown3)
          | (go_at_call 35; refine (ih _ (l.take (l.length / 2)) w1.drew hn1 (R1.out.below (b_drew w1)) hl1).mono ?_; rintro e w2 ⟨va, rfl, hown2, hB2⟩; have hB2' : Below w1.heap.size w1 w2 := (b_drew w1).trans hB2; obtain ⟨aa, ca, rfl⟩ := owns_slice hown2))
        all_goals
          go_wp2
          go_ret
          rw [mrg_srt, List.take_append_drop] at hown4
          have hB5 := bt hB1 (bt hB3' hB4)
          exact ⟨_, rfl, hown4.mono (bt hB1 hB3').size, hB5⟩
end Go.Proofs.Ytdebgkjekcppmaa
namespace Go.Proofs.Ytdebgkjekcppmaa
open Go.RowKit Oct

/-- v is a row of rows of pairs -/
def RR (w : World) (v : Value) (rows : List (List PR)) : Prop := ∃ a cap, v = .slice a rows.length cap ∧ rows.length ≤ cap ∧ (a = none → rows.length = 0 ∧ cap = 0) ∧
  ∀ k (hk : k < rows.length), ∃ b off u, a = some ⟨b, off, none⟩ ∧ w.cell? ⟨b, off + k, none⟩ = some u ∧ RP w u rows[k]
theorem RR.below {w w' : World} {v : Value} {rows : List (List PR)} (h : RR w v rows) (hB : Below w.heap.size w w') : RR w' v rows := by
  obtain ⟨a, cap, hv, hle, hn, hc⟩ := h
  refine ⟨a, cap, hv, hle, hn, fun k hk => ?_⟩
  obtain ⟨b, off, u, ha, hu, hr⟩ := hc k hk
  exact ⟨b, off, u, ha, Below.keeps hB hu, hr.below hB⟩
theorem flat_take (rows : List (List PR)) (k : Nat) (h : k < rows.length) : (rows.take (k + 1)).flatten = (rows.take k).flatten ++ rows[k] := by
  rw [List.take_succ_eq_append_getElem h, List.flatten_append]; simp only [List.flatten_cons, List.flatten_nil, List.append_nil]
theorem flat_le (rows : List (List PR)) (k : Nat) : (rows.take k).flatten.length ≤ rows.flatten.length := by
  have h : rows.flatten = (rows.take k).flatten ++ (rows.drop k).flatten := by rw [← List.flatten_append, List.take_append_drop]
  rw [h, List.length_append]; omega

set_option maxRecDepth 100000 in
set_option maxHeartbeats 4000000 in
theorem Merge_any (v : Value) (rows : List (List PR)) (w : World) (hr : RR w v rows) (hn : rows.length ≤ 140737488355328) (hl : rows.flatten.length * 32 ≤ 140737488355328) :
    Calls Try.prog 33 #[v] w fun e w' => ∃ v', e = .returned v' ∧ OP w' w.heap.size v' (srt rows.flatten) ∧ Below w.heap.size w w' := by
  obtain ⟨a, cap, rfl, _, _, hc⟩ := hr
  go_enter Try.func33, Try.ntmps33
  go_wp2
  go_loopw [2, 7] (fun out i wr => ∃ (k : Nat) (o : List PR), k ≤ rows.length ∧ i = .int .i64 k ∧ OP wr w.heap.size out o ∧ Hid (o = srt (rows.take k).flatten) ∧ Below w.heap.size w wr) (fun _ i _ => rows.length - (intOf i).toNat)
  case atStart => exact ⟨0, [], by omega, rfl, OP.nil _ _, rfl, Below.refl _ _⟩
  case round =>
    obtain ⟨k, o, hk, rfl, hown, hH, hB⟩ := hrel
    obtain ⟨ao, co, rfl⟩ := owns_slice hown
    have hO := Lib.hid hown
    clear hown
    by_cases h0 : k < rows.length
    · obtain ⟨b, off, u, rfl, hu, hru⟩ := hc k h0
      obtain ⟨ar, cr, rfl, _, _⟩ := hru.open
      replace hu := Below.keeps hB hu
      have kk1 : (k : Int) < (rows.length : Int) := by omega
      have hru2 := hru.below hB
      have hf := flat_take rows k h0
      have hf2 := flat_le rows (k + 1)
      rw [hf, List.length_append] at hf2
      have hl1 : rows[k].length * 32 ≤ 140737488355328 := by omega
      have hl2 : (o.length + (srt rows[k]).length) * 32 ≤ 140737488355328 := by rw [hH.out, srt_length, srt_length]; omega
      have HF := Lib.hid hf
      clear hf hru hc hf2
      go_wp2_with (first
        | (go_at_call 74; refine (merged_any _ _ _ _ _ (hO.out.below hB2).reads hown2.reads hl2).mono ?_; rintro e w3 ⟨v3, rfl, hown3, hB3⟩)
        | (go_at_call 35; refine (Sort_any _ _ rows[k] wr (Nat.le_refl _) hru2 hl1).mono ?_; rintro e w2 ⟨vb, rfl, hown2, hB2⟩; obtain ⟨ab, cb, rfl⟩ := owns_slice hown2))
      go_roundw
      case rel =>
        have hB4 := bt hB hB2
        refine ⟨k + 1, _, by omega, by go_num, hown3.mono hB4.size, ?_, bt hB4 hB3⟩
        unfold Hid
        rw [HF.out, hH.out, mrg_srt]
      case measure => simp [intOf]; omega
    · obtain rfl : k = rows.length := by omega
      go_wp2
      go_ret
      have := hH.out
      rw [List.take_length] at this
      exact ⟨_, rfl, by rw [← this]; exact hO.out, hB⟩
end Go.Proofs.Ytdebgkjekcppmaa
namespace Go.Proofs.Ytdebgkjekcppmaa
open Go.RowKit Oct

/-- the partition of a key, one of n -/
def partF (key : List UInt8) (n : Nat) : Nat := val ((shaF key).take 8) % n
def mayB (n : Int) : Bool := decide (1 ≤ n) && decide (n ≤ 16)
def chkP (n : Int) : Int := if mayB n then 0 else 2
theorem mayB_nat {n : Int} (h : mayB n = true) : ∃ m : Nat, n = (m : Int) ∧ 1 ≤ m ∧ m ≤ 16 := by
  simp [mayB] at h
  exact ⟨n.toNat, by omega, by omega, by omega⟩
theorem mayB_of {m : Nat} (h1 : 1 ≤ m) (h2 : m ≤ 16) : mayB (m : Int) = true := by simp [mayB]; omega
theorem partF_lt (key : List UInt8) (n : Nat) (h : 1 ≤ n) : partF key n < n := Nat.mod_lt _ h

set_option maxRecDepth 100000 in
set_option maxHeartbeats 1000000 in
theorem pcheck_any (n : Int) (w : World) :
    Calls Try.prog 81 #[.int .i64 n] w fun e w' => e = .returned (.int .i64 (chkP n)) ∧ Below w.heap.size w w' := by
  by_cases h1 : 1 ≤ n
  · by_cases h2 : n ≤ 16
    · have hc : chkP n = 0 := by simp [chkP, mayB, h1, h2]
      have h3 : ¬ n < 1 := by omega
      have h4 : ¬ 16 < n := by omega
      rw [hc]
      clear hc
      go_enter Try.func81, Try.ntmps81
      go_wp2
      go_ret
      exact ⟨rfl, b_refl _⟩
    · have hc : chkP n = 2 := by simp [chkP, mayB, h2]
      have h3 : ¬ n < 1 := by omega
      have h4 : 16 < n := by omega
      rw [hc]
      clear hc h2
      go_enter Try.func81, Try.ntmps81
      go_wp2
      go_ret
      exact ⟨rfl, b_refl _⟩
  · have hc : chkP n = 2 := by simp [chkP, mayB, h1]
    have h3 : n < 1 := by omega
    rw [hc]
    clear hc h1
    go_enter Try.func81, Try.ntmps81
    go_wp2
    go_ret
    exact ⟨rfl, b_refl _⟩
set_option maxRecDepth 100000 in
set_option maxHeartbeats 1000000 in
theorem may_any (n : Int) (w : World) :
    Calls Try.prog 48 #[.int .i64 n] w fun e w' => e = .returned (.bool (mayB n)) ∧ Below w.heap.size w w' := by
  by_cases h1 : 1 ≤ n
  · by_cases h2 : n ≤ 16
    · have hc : mayB n = true := by simp [mayB, h1, h2]
      rw [hc]
      clear hc
      go_enter Try.func48, Try.ntmps48
      go_wp2
      go_ret
      exact ⟨rfl, b_refl _⟩
    · have hc : mayB n = false := by simp [mayB, h2]
      rw [hc]
      clear hc
      go_enter Try.func48, Try.ntmps48
      go_wp2
      go_ret
      exact ⟨rfl, b_refl _⟩
  · have hc : mayB n = false := by simp [mayB, h1]
    rw [hc]
    clear hc
    go_enter Try.func48, Try.ntmps48
    go_wp2
    go_ret
    exact ⟨rfl, b_refl _⟩

theorem or_add (v c k : Nat) (h : v < 256 ^ k) : v ||| c * 256 ^ k = v + c * 256 ^ k := by
  have e : 256 ^ k = 2 ^ (8 * k) := by rw [show (256 : Nat) = 2 ^ 8 from rfl, ← Nat.pow_mul]
  rw [e] at h ⊢
  have := Nat.shiftLeft_add_eq_or_of_lt h c
  rw [Nat.shiftLeft_eq] at this
  rw [Nat.or_comm, ← this, Nat.add_comm]
theorem part_or (s : List UInt8) (k : Nat) (h : k < s.length) (hk : k < 8) : bits .or .u64 ((val (s.take k) : Nat) : Int) (((s[k].toNat * 256 ^ k : Nat)) : Int) = ((val (s.take (k + 1)) : Nat) : Int) := by
  have hv := val_lt (s.take k)
  rw [List.length_take, Nat.min_eq_left (by omega)] at hv
  have hp : 256 ^ k ≤ 256 ^ 7 := Nat.pow_le_pow_right (by decide) (by omega)
  have hc := s[k].toNat_lt
  have hm : s[k].toNat * 256 ^ k ≤ 255 * 256 ^ 7 := Nat.mul_le_mul (by omega) hp
  have h7 : (256 : Nat) ^ 7 = 72057594037927936 := rfl
  rw [u64_or_nat _ _ (by omega) (by omega), or_add _ _ _ hv, val_take s k h]

theorem wrapU64 (z : Int) : IntKind.u64.wrap z = z % (18446744073709551616 : Int) := by
  simp [IntKind.wrap, IntKind.bits, IntKind.signed]
theorem shl8 (c k : Nat) (hc : c < 256) (hk : k < 8) : IntKind.u64.wrap ((c : Int) * 2 ^ (8 * k)) = ((c * 256 ^ k : Nat) : Int) := by
  have hp : 256 ^ k ≤ 256 ^ 7 := Nat.pow_le_pow_right (by decide) (by omega)
  have hm : c * 256 ^ k ≤ 255 * 256 ^ 7 := Nat.mul_le_mul (by omega) hp
  have h7 : (256 : Nat) ^ 7 = 72057594037927936 := rfl
  have e : (c : Int) * 2 ^ (8 * k) = ((c * 256 ^ k : Nat) : Int) := by
    rw [Int.natCast_mul, show (256 : Nat) ^ k = 2 ^ (8 * k) by rw [show (256 : Nat) = 2 ^ 8 from rfl, ← Nat.pow_mul]]
    norm_cast
  rw [e, wrapU64]
  exact Int.emod_eq_of_lt (Int.natCast_nonneg _) (Int.ofNat_lt.2 (show c * 256 ^ k < 18446744073709551616 by omega))
set_option maxRecDepth 100000 in
set_option maxHeartbeats 2000000 in
theorem by1_any (key : List UInt8) (n b : Nat) (w : World) (hb : Blk w b 3 [.int .i64 (n : Int)]) (h1 : 1 ≤ n) (h2 : n ≤ 16) (hl : key.length ≤ 70368744177664) :
    Calls Try.prog 96 #[.string (bs key), .pointer (some ⟨b, 0, none⟩)] w fun e w' => e = .returned (.int .i64 ((partF key n : Nat) : Int)) ∧ Below w.heap.size w w' := by
  have HB := Lib.hid hb
  clear hb
  go_enter Try.func96, Try.ntmps96
  go_wp2_with fail
  refine (Sum_any key w hl).mono ?_
  rintro e w1 ⟨rfl, hB1⟩
  have c1 := (HB.out.below hB1).cell (k := 0) rfl
  have HB1 := Lib.hid hB1
  have HLn := Lib.hid (shaF_length key)
  have HP := Lib.hid (show partF key n = val ((shaF key).take 8) % n from rfl)
  obtain ⟨s, hs⟩ : ∃ s, s = shaF key := ⟨_, rfl⟩
  rw [← hs] at HLn HP ⊢
  clear hB1 hs
  go_wp2
  go_loop [5, 9] (fun v t => ∃ k : Nat, k ≤ 8 ∧ t = .int .i64 (k : Int) ∧ v = .int .u64 ((val (s.take k) : Nat) : Int)) (fun _ t => 8 - (intOf t).toNat)
  case atStart => exact ⟨0, by omega, rfl, rfl⟩
  case round =>
    obtain ⟨k, hk, rfl, rfl⟩ := hrel
    by_cases hk8 : k < 8
    · have hks : k < s.length := by have := HLn.out; omega
      have k0 : (0 : Int) ≤ (k : Int) := by omega
      have k1 : (k : Int) < 8 := by omega
      have k2 : (k : Int) < (s.length : Int) := by omega
      have hor := part_or s k hks hk8
      have hlt := s[k].toNat_lt
      generalize val (s.take k) = V0 at *
      have hsh := shl8 s[k].toNat k (by omega) hk8
      have HOR := Lib.hid hor
      have HSH := Lib.hid hsh
      clear hor hsh
      go_wp2
      rw [HSH.out, HOR.out]
      exact ⟨⟨k + 1, by omega, by go_num, rfl⟩, by simp [intOf]; omega⟩
    · obtain rfl : k = 8 := by omega
      have hV : (val (s.take 8) : Int) % (n : Int) = ((partF key n : Nat) : Int) := by rw [HP.out, Int.natCast_emod]
      have hpl := partF_lt key n h1
      generalize val (s.take 8) = V at *
      have hm0 : 0 ≤ (V : Int) % (n : Int) := by omega
      have hm1 : (V : Int) % (n : Int) ≤ 16 := by omega
      have HV := Lib.hid hV
      clear hV
      go_wp2
      go_ret
      exact ⟨by rw [← HV.out]; rfl, HB1.out⟩

set_option maxRecDepth 100000 in
set_option maxHeartbeats 1000000 in
theorem by_any (n : Int) (w : World) :
    Calls Try.prog 82 #[.int .i64 n] w fun e w' => ∃ b, e = .returned (.agg #[.func (.func 96) #[] #[.pointer (some ⟨b, 0, none⟩)]]) ∧ Blk w' b 3 [.int .i64 n] ∧ w.heap.size ≤ b ∧ Below w.heap.size w w' := by
  have hmf : ∀ (fn : Fn) (first cap : Array Value) (w : World), (Instr.makeFunc fn first cap).run Try.prog w = .ok (.func fn first cap) w := fun _ _ _ _ => rfl
  obtain ⟨B, hB⟩ : ∃ B, B = Value.func (.func 96) #[] #[.pointer (some ⟨w.heap.size, 0, none⟩)] := ⟨_, rfl⟩
  have hz : Blk ((w.alloc (.cells #[.int .i64 n] 3)).alloc (.cells #[.nilFunc] 115)) (w.heap.size + 1) 115 [.nilFunc] := by
    have := Blk.new (w.alloc (.cells #[.int .i64 n] 3)) [.nilFunc] 115
    rw [show (w.alloc (.cells #[.int .i64 n] 3)).heap.size = w.heap.size + 1 by simp] at this
    exact this
  have HZ := Lib.hid hz
  have HI := Lib.hid (show (Try.prog.info? 115).map (·.size) = some 1 by kernel_rfl)
  clear hz
  clear hB B
  go_enter Try.func82, Try.ntmps82
  go_wp2_with (go_loud (refine blk_store (w.heap.size + 1) [.nilFunc] [.func (.func 96) #[] #[.pointer (some ⟨w.heap.size, 0, none⟩)]] HZ.out rfl _ _ _ rfl rfl rfl HI.out rfl (by simp [Value.oneCell']) ?_))

  refine bodyPost_ret (blk_result rfl rfl (HZ.out.row [.func (.func 96) #[] #[.pointer (some ⟨w.heap.size, 0, none⟩)]]) _ Try.underlying115 rfl HI.out) rfl ?_
  refine ⟨w.heap.size, rfl, ?_, Nat.le_refl _, ?_⟩
  · have := ((Blk.new w [.int .i64 n] 3).below (b_alloc _ (.cells #[.nilFunc] 115)))
    exact this.other (by omega) _
  · exact below_setRow (bt (b_alloc _ _) (b_alloc _ _)) (by omega) _

set_option maxRecDepth 100000 in
set_option maxHeartbeats 1000000 in
theorem rOfP_any (key : List UInt8) (n : Nat) (w : World) (h1 : 1 ≤ n) (h2 : n ≤ 16) (hl : key.length ≤ 1099511627776) :
    Calls Try.prog 50 #[.string (bs key), .int .i64 (n : Int)] w fun e w' => e = .returned (.int .i64 ((partF key n : Nat) : Int)) ∧ Below w.heap.size w w' := by
  have hV : (val ((shaF key).take 8) : Int) % (n : Int) = ((partF key n : Nat) : Int) := by rw [partF, Int.natCast_emod]
  have hpl := partF_lt key n h1
  have HLn := Lib.hid (shaF_length key)
  obtain ⟨s, hs⟩ : ∃ s, s = shaF key := ⟨_, rfl⟩
  have HSD := Lib.hid hs
  rw [← hs] at hV HLn
  have HV := Lib.hid hV
  clear hV hs
  go_enter Try.func50, Try.ntmps50
  go_wp2_with fail
  refine (rSum_any key w hl).mono ?_
  rw [← HSD.out]
  rintro e w1 ⟨rfl, hB1⟩
  have HB1 := Lib.hid hB1
  have h8 : (8 : Int) ≤ (s.length : Int) := by have := HLn.out; omega
  clear hB1
  go_wp2_with fail
  refine (value_any _ _ (by rw [bs_size]; simp; omega)).mono ?_
  rw [bs_data]
  rintro e w2 ⟨rfl, rfl⟩
  generalize val (s.take 8) = V at *
  have hm0 : 0 ≤ (V : Int) % (n : Int) := by have := HV.out; omega
  have hm1 : (V : Int) % (n : Int) ≤ 16 := by have := HV.out; omega
  clear h8
  go_wp2
  go_ret
  exact ⟨by rw [← HV.out]; rfl, HB1.out⟩

def ofV (key : List UInt8) (n : Int) : Value := if mayB n then .tuple #[.int .i64 ((partF key n.toNat : Nat) : Int), .int .i64 0] else .tuple #[.int .i64 0, .int .i64 2]
set_option maxRecDepth 100000 in
set_option maxHeartbeats 1000000 in
theorem OfP_any (key : List UInt8) (n : Int) (w : World) (hl : key.length ≤ 70368744177664) :
    Calls Try.prog 43 #[.string (bs key), .int .i64 n] w fun e w' => e = .returned (ofV key n) ∧ Below w.heap.size w w' := by
  cases hm : mayB n with
  | false =>
    have HC := Lib.hid (show chkP n = 2 by rw [chkP, hm]; rfl)
    have HO := Lib.hid (show ofV key n = .tuple #[.int .i64 0, .int .i64 2] by rw [ofV, hm]; rfl)
    clear hm
    go_enter Try.func43, Try.ntmps43
    go_wp2_with fail
    refine (pcheck_any n w).mono ?_
    rw [HC.out]
    rintro e w1 ⟨rfl, hB1⟩
    have HB1 := Lib.hid hB1
    clear hB1
    go_wp2_with fail
    go_ret2
    rw [HO.out]
    exact ⟨rfl, HB1.out⟩
  | true =>
    have HC := Lib.hid (show chkP n = 0 by rw [chkP, hm]; rfl)
    obtain ⟨m, rfl, h1, h2⟩ := mayB_nat hm
    have HO := Lib.hid (show ofV key (m : Int) = .tuple #[.int .i64 ((partF key m : Nat) : Int), .int .i64 0] by rw [ofV, hm, Int.toNat_natCast]; rfl)
    clear hm
    go_enter Try.func43, Try.ntmps43
    go_wp2_with fail
    refine (pcheck_any m w).mono ?_
    rw [HC.out]
    rintro e w1 ⟨rfl, hB1⟩
    have HB1 := Lib.hid hB1
    clear hB1
    go_wp2_with fail
    refine (by_any m w1).mono ?_
    rintro e w2 ⟨b, rfl, hb, _, hB2⟩
    have HB2 := Lib.hid (bt HB1.out hB2)
    have HBk := Lib.hid hb
    have hfd : ∀ wx, (Instr.field 115 (.agg #[.func (.func 96) #[] #[.pointer (some ⟨b, 0, none⟩)]]) 0).run Try.prog wx = .ok (.func (.func 96) #[] #[.pointer (some ⟨b, 0, none⟩)]) wx := fun wx => by kernel_rfl
    clear hB2 hb
    go_wp2_with fail
    refine (by1_any key m b w2 HBk.out h1 h2 hl).mono ?_
    rintro e w3 ⟨rfl, hB3⟩
    have HB3 := Lib.hid (bt HB2.out hB3)
    clear hB3
    go_wp2_with fail
    go_ret2
    rw [HO.out]
    exact ⟨rfl, HB3.out⟩
end Go.Proofs.Ytdebgkjekcppmaa
namespace Go.Proofs.Ytdebgkjekcppmaa
open Go.RowKit Oct

/-- the parts of a row -/
def splitP (l : List PR) (n : Nat) : List (List PR) := (List.range n).map fun i => l.filter fun p => decide (partF p.1 n = i)
theorem splitP_length (l : List PR) (n : Nat) : (splitP l n).length = n := by simp [splitP]
theorem splitP_get (l : List PR) (n i : Nat) (h : i < n) : (splitP l n)[i]'(by rw [splitP_length]; exact h) = l.filter fun p => decide (partF p.1 n = i) := by simp [splitP]
theorem splitP_snoc (l : List PR) (p : PR) (n k : Nat) (hk : partF p.1 n = k) (h : k < n) : splitP (l ++ [p]) n = (splitP l n).set k ((splitP l n)[k]'(by rw [splitP_length]; exact h) ++ [p]) := by
  subst hk
  apply List.ext_getElem
  · simp [splitP]
  · intro i h1 h2
    have hi : i < n := by simpa [splitP] using h1
    rw [List.getElem_set]
    simp only [splitP_get _ _ _ hi, splitP_get _ _ _ h, List.filter_append]
    by_cases hik : partF p.1 n = i
    · subst hik
      simp [splitP]
    · simp [splitP, hik]

/-- rows of pairs of the call's own, in block D -/
def OR (w : World) (base D : Nat) (rows : List (List PR)) : Prop := ∃ vs : List Value, vs.length = rows.length ∧ D < w.heap.size ∧ Blk w D 35 vs ∧
  (∀ i (h : i < vs.length) (h' : i < rows.length), OP w base vs[i] rows[i] ∧ vs[i].ownBlock ≠ some D) ∧ ∀ i j g (h : i < vs.length) (h' : j < vs.length), i ≠ j → vs[i].ownBlock = some g → vs[j].ownBlock ≠ some g
theorem OR.below {w w' : World} {base D : Nat} {rows : List (List PR)} (h : OR w base D rows) (hB : Below w.heap.size w w') : OR w' base D rows := by
  obtain ⟨vs, h1, h2, h3, h4, h5⟩ := h
  exact ⟨vs, h1, Nat.lt_of_lt_of_le h2 hB.size, h3.below hB, fun i h h' => ⟨(h4 i h h').1.below hB, (h4 i h h').2⟩, h5⟩
theorem OR.rr {w : World} {base D : Nat} {rows : List (List PR)} (h : OR w base D rows) : RR w (.slice (some ⟨D, 0, none⟩) rows.length rows.length) rows := by
  obtain ⟨vs, h1, h2, h3, h4, h5⟩ := h
  refine ⟨_, _, rfl, Nat.le_refl _, (by simp), fun k hk => ?_⟩
  exact ⟨D, 0, vs[k], rfl, by rw [Nat.zero_add]; exact h3.cell (by simp), (h4 k (by omega) hk).1.reads⟩
theorem OR.empty (w : World) (base n : Nat) : OR (w.alloc (.cells (List.replicate n (.slice none 0 0)).toArray 35)) base w.heap.size (List.replicate n []) := by
  refine ⟨List.replicate n (.slice none 0 0), by simp, by simp, Blk.new _ _ _, fun i h h' => ?_, fun i j g h h' hij hg => ?_⟩
  · simp only [List.getElem_replicate]
    exact ⟨OP.nil _ _, by simp [Value.ownBlock]⟩
  · simp [Value.ownBlock] at hg
/-- append(s, x): a pair, s the call's own; where the row lies -/
theorem appendLP {ops : Array Oper} {rest : List Oper} {o : Oper} {a : Act} {Q : Exit → Act → World → Prop} (w : World) (hgd : o.guard = none) (s x : Operand) (t : TypeId)
    (ho : o.op = .call { callee := .builtin .append, args := #[s, x], argTypes := #[t, t] }) (ht : Try.prog.underlying t = some (.slice 52))
    (base : Nat) (v : Value) (R : List PR) (p : PR) (vx : Value) (hown : OP w base v R) (hr : Reads w vx 1 (pcells [p])) (hs : a.eval s = v) (hx : a.eval x = vx) (hbytes : (R.length + 1) * 32 ≤ 140737488355328) (hbase : base ≤ w.heap.size)
    (h : ∀ g cap w', OP w' base (.slice (some ⟨g, 0, none⟩) (R.length + 1) cap) (R ++ [p]) → (∀ j, j < w.heap.size → v.ownBlock ≠ some j → w'.heap[j]? = w.heap[j]?) → (v.ownBlock = some g ∨ w.heap.size ≤ g) → Below base w w' → wpList Try.prog ops Q rest (a.put o.dst (.slice (some ⟨g, 0, none⟩) (R.length + 1) cap)) w') : wpList Try.prog ops Q (o :: rest) a w := by
  obtain ⟨i, hi, hz, hi1, hi2⟩ := info_parts infoPair
  obtain ⟨ax, cap, rfl, hnone, hc⟩ := hr
  cases ax with
  | none => exact absurd (hnone rfl).1 (by decide)
  | some ad =>
    refine wpList_append_lies w hgd s x t ho base 52 i (.agg #[.string ByteArray.empty, .string ByteArray.empty]) 2 32 ht hi hz hi1 hi2 rfl (by decide) v R.length (pcells R) hs hown ad 1 cap (pcells [p]) hx rfl ?_ (pcells_one [p]) (by decide) (by unfold maxLen; omega) hbytes hbase _ rfl ?_
    · intro j u hj
      obtain ⟨b, off, ha, hu⟩ := hc j u hj
      cases ha
      rw [Addr.add_lit]; exact hu
    · intro g cap' w' h2 h3 h4 h5
      refine h g cap' w' ?_ (fun j hj hne => h3.block j hj (fun e => hne e.symm)) ?_ ((Below.refl base w).grown h3 hbase ?_)
      · unfold OP
        rw [pcells_append, List.length_append]
        exact h2
      · rcases h4 with h4 | h4
        · exact .inl h4
        · exact .inr (by omega)
      · intro k hk
        exact (hown.lt k hk).1
theorem step_appendLP {ops : Array Oper} {o : Oper} {a : Act} {K : Act → World → Prop} {Q : Exit → Act → World → Prop} {E : Prop} (w : World) (p : PR) (hgd : o.guard = none) (s x : Operand) (t : TypeId)
    (ho : o.op = .call { callee := .builtin .append, args := #[s, x], argTypes := #[t, t] }) (ht : Try.prog.underlying t = some (.slice 52))
    (base : Nat) (v : Value) (R : List PR) (hs : a.eval s = v) (hown : OP w base v R) (c : Nat) (hx : a.eval x = .slice (some ⟨w.heap.size, 0, none⟩) 1 c) (hbytes : (R.length + 1) * 32 ≤ 140737488355328) (hbase : base ≤ w.heap.size)
    (h : ∀ g cap w', OP w' base (.slice (some ⟨g, 0, none⟩) (R.length + 1) cap) (R ++ [p]) → Hid (∀ j, j < w.heap.size → v.ownBlock ≠ some j → w'.heap[j]? = w.heap[j]?) → Hid (v.ownBlock = some g ∨ w.heap.size ≤ g) → Below base w w' → K (a.put o.dst (.slice (some ⟨g, 0, none⟩) (R.length + 1) cap)) w') :
    if Region.wanted o (yielded ops a.tmps) = true then Oper.wp Try.prog o a (w.alloc (.cells #[.string (bs p.1), .string (bs p.2)] 52)) K Q else E := by
  obtain ⟨i, hi, hz, hi1, hi2⟩ := info_parts infoPair
  refine step_append_lies _ hgd s x t ho base 52 i (.agg #[.string ByteArray.empty, .string ByteArray.empty]) 2 32 ht hi hz hi1 hi2 rfl (by decide) v R.length (pcells R) hs (ownsRow_below hown (b_alloc w _)) ⟨w.heap.size, 0, none⟩ 1 c (pcells [p]) hx rfl ?_ (pcells_one [p]) (by decide) (by unfold maxLen; omega) hbytes (by simp; omega) _ rfl ?_
  · intro j u hj
    have : j < 2 := by
      rcases Nat.lt_or_ge j 2 with h | h
      · exact h
      · simp [List.getElem?_eq_none (show (pcells [p]).length ≤ j from h)] at hj
    rw [Addr.add_lit, Nat.zero_add, World.cell?_alloc_new]
    simpa [pcells] using hj
  · intro g cap w' h2 h3 h4 h5
    refine h g cap w' ?_ (fun j hj hne => ?_) ?_ (((Below.refl base w).alloc hbase _).grown h3 (by simp; omega) ?_)
    · unfold OP
      rw [pcells_append, List.length_append]
      exact h2
    · rw [h3.block j (by simp; omega) (fun e => hne e.symm)]
      first | exact heap_alloc_old w _ hj | exact heap_alloc_old w _ _ hj
    · rcases h4 with h4 | h4
      · exact .inl h4
      · exact .inr (by rw [h4]; simp)
    · intro k hk
      exact (hown.lt k hk).1
/-- a row grows, its new value is laid back -/
theorem OR.step {w w1 w2 : World} {base D g cap k : Nat} {rows : List (List PR)} {vs : List Value} {p : PR} (h1 : vs.length = rows.length) (h3 : Blk w D 35 vs) (h4 : ∀ i (h : i < vs.length) (h' : i < rows.length), OP w base vs[i] rows[i] ∧ vs[i].ownBlock ≠ some D)
    (h5 : ∀ i j g (h : i < vs.length) (h' : j < vs.length), i ≠ j → vs[i].ownBlock = some g → vs[j].ownBlock ≠ some g) (hk : k < rows.length) (hB : Below w.heap.size w w1)
    (hown : OP w2 base (.slice (some ⟨g, 0, none⟩) (rows[k].length + 1) cap) (rows[k] ++ [p])) (hkeep : ∀ j, j < w1.heap.size → (vs[k]'(by omega)).ownBlock ≠ some j → w2.heap[j]? = w1.heap[j]?) (hg : (vs[k]'(by omega)).ownBlock = some g ∨ w1.heap.size ≤ g) (hsz : w1.heap.size ≤ w2.heap.size) :
    OR (w2.setCell ⟨D, k, none⟩ (.slice (some ⟨g, 0, none⟩) (rows[k].length + 1) cap)) base D (rows.set k (rows[k] ++ [p])) := by
  have hkv : k < vs.length := by omega
  have hD1 : D < w1.heap.size := Nat.lt_of_lt_of_le h3.lt hB.size
  have hDk : vs[k].ownBlock ≠ some D := (h4 k hkv hk).2
  have hgD : g ≠ D := by
    rcases hg with h | h
    · rintro rfl; exact hDk h
    · omega
  have hBlk2 : Blk w2 D 35 vs := by
    unfold Blk
    rw [hkeep D hD1 hDk]
    exact h3.below hB
  have hset : ∀ (v : Value) (l : List PR), OP w2 base v l → v.ownBlock ≠ some D → OP (w2.setCell ⟨D, k, none⟩ (.slice (some ⟨g, 0, none⟩) (rows[k].length + 1) cap)) base v l := fun v l ho hne => by
    obtain ⟨e1, e2⟩ := ho
    refine ⟨e1, ?_⟩
    rcases e2 with e2 | ⟨g', cap', cur, hv, hg', hh, r⟩
    · exact .inl e2
    · refine .inr ⟨g', cap', cur, hv, hg', ?_, r⟩
      rw [heap_setCell_other _ _ _ _ (fun e => hne (by rw [hv]; simp only [Value.ownBlock]; first | rw [e] | rw [← e]))]
      exact hh
  refine ⟨vs.set k (.slice (some ⟨g, 0, none⟩) (rows[k].length + 1) cap), by simp [h1], by simp [World.setCell]; omega, hBlk2.set k _, fun i h h' => ?_, fun i j g' h h' hij hgi => ?_⟩
  · have hiv : i < vs.length := by simpa using h
    have hir : i < rows.length := by simpa using h'
    simp only [List.getElem_set]
    by_cases hik : k = i
    · subst hik
      simp only [if_pos]
      exact ⟨hset _ _ hown (by simpa [Value.ownBlock] using hgD), by simpa [Value.ownBlock] using hgD⟩
    · simp only [if_neg hik]
      obtain ⟨ho, hne⟩ := h4 i hiv hir
      refine ⟨hset _ _ ?_ hne, hne⟩
      have ho1 := ho.below hB
      obtain ⟨e1, e2⟩ := id ho1
      refine ⟨e1, ?_⟩
      rcases e2 with e2 | ⟨g', cap', cur, hv, hg', hh, r⟩
      · exact .inl e2
      · refine .inr ⟨g', cap', cur, hv, hg', ?_, r⟩
        rw [hkeep g' (Array.getElem?_eq_some_iff.1 hh).1 (fun e => h5 k i g' hkv hiv hik e (by rw [hv]; rfl))]
        exact hh
  · have hiv : i < vs.length := by simpa using h
    have hjv : j < vs.length := by simpa using h'
    have hold : ∀ i (hiv : i < vs.length) g', vs[i].ownBlock = some g' → g' < w1.heap.size := fun i hiv g' e => by
      obtain ⟨_, e2⟩ := (h4 i hiv (by omega)).1
      rcases e2 with ⟨e2, _⟩ | ⟨g2, cap', cur, hv, _, hh, _⟩
      · rw [e2] at e; simp [Value.ownBlock] at e
      · rw [hv] at e
        simp only [Value.ownBlock, Option.some.injEq] at e
        subst e
        exact Nat.lt_of_lt_of_le (Array.getElem?_eq_some_iff.1 hh).1 hB.size
    simp only [List.getElem_set] at hgi ⊢
    by_cases hik : k = i
    · subst hik
      simp only [if_pos] at hgi
      rw [if_neg hij]
      simp only [Value.ownBlock, Option.some.injEq] at hgi
      subst hgi
      intro e
      rcases hg with h | h
      · exact h5 k j g hkv hjv hij h e
      · have := hold j hjv g e; omega
    · rw [if_neg hik] at hgi
      by_cases hjk : k = j
      · subst hjk
        rw [if_pos rfl]
        simp only [Value.ownBlock, ne_eq, Option.some.injEq]
        rintro rfl
        rcases hg with h | h
        · exact h5 k i g hkv hiv hik h hgi
        · have := hold i hiv g hgi; omega
      · rw [if_neg hjk]
        exact h5 i j g' hiv hjv hij hgi
end Go.Proofs.Ytdebgkjekcppmaa
namespace Go.Proofs.Ytdebgkjekcppmaa
open Go.RowKit Oct

/-- what Split gives -/
def SplitRes (l : List PR) (n : Int) (base : Nat) (e : Ending) (w' : World) : Prop :=
  if mayB n then ∃ D, e = .returned (.tuple #[.slice (some ⟨D, 0, none⟩) n.toNat n.toNat, .int .i64 0]) ∧ base ≤ D ∧ OR w' D D (splitP l n.toNat)
  else e = .returned (.tuple #[.slice none 0 0, .int .i64 2])

set_option maxRecDepth 100000 in
set_option maxHeartbeats 4000000 in
theorem Split_any (v : Value) (l : List PR) (n : Int) (w : World) (hr : RP w v l) (hl : l.length ≤ 100000) (hm : ∀ p ∈ l, p.1.length ≤ 70368744177664) :
    Calls Try.prog 44 #[v, .int .i64 n] w fun e w' => SplitRes l n w.heap.size e w' ∧ Below w.heap.size w w' := by
  obtain ⟨a, cap, rfl, _, hcell⟩ := hr.open
  have HCELL := Lib.hid hcell
  clear hr hcell
  cases hmb : mayB n with
  | false =>
    have HC := Lib.hid (show chkP n = 2 by rw [chkP, hmb]; rfl)
    have HR := Lib.hid (show ∀ e w', e = .returned (.tuple #[.slice none 0 0, .int .i64 2]) → SplitRes l n w.heap.size e w' from fun e w' h => by unfold SplitRes; rw [hmb]; exact h)
    clear hmb
    go_enter Try.func44, Try.ntmps44
    go_wp2_with fail
    refine (pcheck_any n w).mono ?_
    rw [HC.out]
    rintro e w1 ⟨rfl, hB1⟩
    have HB1 := Lib.hid hB1
    clear hB1
    go_wp2_with fail
    go_ret2
    exact ⟨HR.out _ _ rfl, HB1.out⟩
  | true =>
    have HC := Lib.hid (show chkP n = 0 by rw [chkP, hmb]; rfl)
    obtain ⟨m, rfl, h1, h2⟩ := mayB_nat hmb
    have HR := Lib.hid (show ∀ e w', (∃ D, e = .returned (.tuple #[.slice (some ⟨D, 0, none⟩) m m, .int .i64 0]) ∧ w.heap.size ≤ D ∧ OR w' D D (splitP l m)) → SplitRes l (m : Int) w.heap.size e w' from fun e w' h => by unfold SplitRes; rw [hmb, Int.toNat_natCast]; exact h)
    have HM := Lib.hid hm
    clear hmb hm
    go_enter Try.func44, Try.ntmps44
    go_wp2_with fail
    refine (pcheck_any m w).mono ?_
    rw [HC.out]
    rintro e w1 ⟨rfl, hB1⟩
    have HB1 := Lib.hid hB1
    clear hB1
    go_wp2_with fail
    refine (by_any m w1).mono ?_
    rintro e w2 ⟨b, rfl, hb, _, hB2⟩
    have HBk := Lib.hid hb
    have HB2 := Lib.hid (bt HB1.out hB2)
    have hz : Blk (w2.alloc (.cells #[.nilFunc] 115)) w2.heap.size 115 [.nilFunc] := Blk.new w2 [.nilFunc] _
    have HZ := Lib.hid hz
    have HI := Lib.hid (show (Try.prog.info? 115).map (·.size) = some 1 by kernel_rfl)
    clear hb hB2 hz
    go_wp2_with (refine blk_storeK w2.heap.size [.nilFunc] [.func (.func 96) #[] #[.pointer (some ⟨b, 0, none⟩)]] HZ.out rfl _ _ _ rfl rfl rfl HI.out rfl (by simp [Value.oneCell']) ?_)
    intro w3 hw3
    have hC3 : Blk w3 w2.heap.size 115 [.func (.func 96) #[] #[.pointer (some ⟨b, 0, none⟩)]] := by
      rw [← hw3.out]; exact HZ.out.row _
    have hB23 : Below w2.heap.size w2 w3 := by rw [← hw3.out]; exact below_setRow (b_alloc _ _) (Nat.le_refl _) _
    have HBk3 := Lib.hid (HBk.out.below hB23)
    have HB3 := Lib.hid (bt HB2.out hB23)
    have HC3 := Lib.hid hC3
    obtain ⟨C, hC⟩ : ∃ C, C = w2.heap.size := ⟨_, rfl⟩
    rw [← hC] at HC3 ⊢
    clear hw3 hC3 hB23 hC HZ HBk
    have hmk := make_one (P := Try.prog) 43 35 (.slice none 0 0) 24 Try.underlying43 (by kernel_rfl) rfl m (by omega) (by omega) w3
    have HO := Lib.hid (OR.empty w3 w3.heap.size m)
    obtain ⟨w4, hw4⟩ : ∃ w4, w4 = w3.alloc (.cells (List.replicate m (.slice none 0 0)).toArray 35) := ⟨_, rfl⟩
    rw [← hw4] at hmk HO
    have hB4 : Below w3.heap.size w3 w4 := by rw [hw4]; exact b_alloc _ _
    have HB4 := Lib.hid hB4
    have hsp : splitP (l.take 0) m = List.replicate m [] := by
      apply List.ext_getElem
      · simp [splitP]
      · intro i h h'; simp [splitP]
    rw [← hsp] at HO
    clear hw4 hB4 hsp
    obtain ⟨D, hD⟩ : ∃ D, D = w3.heap.size := ⟨_, rfl⟩
    rw [← hD] at HO HB4 hmk
    have HD := Lib.hid hD
    clear hD
    go_wp2
    clear hmk
    go_loopw [23] (fun t wx => ∃ k : Nat, k ≤ l.length ∧ t = .int .i64 (k : Int) ∧ Hid (OR wx D D (splitP (l.take k) m)) ∧ Hid (Below D w3 wx)) (fun t _ => l.length - (intOf t).toNat)
    case atStart => exact ⟨0, by omega, rfl, HO, HB4⟩
    case round =>
      clear HO HB4
      obtain ⟨k, hk, rfl, HO, HB4⟩ := hrel
      by_cases hkl : k < l.length
      · have k0 : (0 : Int) ≤ (k : Int) := by omega
        have k1 : (k : Int) < (l.length : Int) := by omega
        obtain ⟨bl, ol, rfl, d1, d2⟩ := HCELL.out k hkl
        have HBx := Lib.hid (show Below w.heap.size w wr from HB3.out.trans (HB4.out.mono (by have := HB3.out.size; have := HD.out; omega)))
        replace d1 := Below.keeps HBx.out d1
        replace d2 := Below.keeps HBx.out d2
        obtain ⟨p, hp⟩ : ∃ p, p = l[k] := ⟨_, rfl⟩
        rw [← hp] at d1 d2
        have HP := Lib.hid hp
        have HPL := Lib.hid (show p.1.length ≤ 70368744177664 by rw [hp]; exact HM.out _ (List.getElem_mem hkl))
        have HB34 : Below w3.heap.size w3 wr := by rw [← HD.out]; exact HB4.out
        have cC := (HC3.out.below HB34).cell (k := 0) rfl
        have hCl := (HC3.out.below HB34).lt
        have HBk4 := Lib.hid (HBk3.out.below HB34)
        have hDl : D < wr.heap.size := by obtain ⟨_, _, h, _⟩ := HO.out; exact h
        clear hp HB34
        go_wp2_with fail
        obtain ⟨w5, hw5⟩ : ∃ w5, w5 = wr.alloc (.cells #[.string (bs p.1), .string (bs p.2)] 52) := ⟨_, rfl⟩
        have hB5 : Below wr.heap.size wr w5 := by rw [hw5]; exact b_alloc _ _
        have hpb : Blk w5 wr.heap.size 52 [.string (bs p.1), .string (bs p.2)] := by rw [hw5]; exact Blk.new wr [.string (bs p.1), .string (bs p.2)] _
        rw [← hw5]
        have HBk5 := Lib.hid (HBk4.out.below hB5)
        have HO5 := Lib.hid (HO.out.below hB5)
        have HPB5 := Lib.hid hpb
        have HB5 := Lib.hid hB5
        have hs5 := hB5.size
        clear hw5 hB5 hpb cC hCl HBk4 HO d1 d2
        refine (by1_any p.1 m b w5 HBk5.out h1 h2 HPL.out).mono ?_
        rintro e w6 ⟨rfl, hB6⟩
        have HO6 := Lib.hid (HO5.out.below hB6)
        have hpb6 := HPB5.out.below hB6
        have e1 := hpb6.cell (k := 0) rfl
        have e2 := hpb6.cell (k := 1) rfl
        have HB6 := Lib.hid (HB5.out.trans (hB6.mono hs5))
        have hs6 := hB6.size
        have hat := partF_lt p.1 m h1
        obtain ⟨t, ht⟩ : ∃ t, t = partF p.1 m := ⟨_, rfl⟩
        rw [← ht] at hat ⊢
        have HT := Lib.hid ht
        clear hB6 hpb6 ht HBk5 HO5 HPB5
        obtain ⟨vs, q1, q2, q3, q4, q5⟩ := HO6.out
        have q1' := q1
        rw [splitP_length] at q1'
        have hvl : t < vs.length := by omega
        have hrl : t < (splitP (l.take k) m).length := by rw [splitP_length]; exact hat
        have dv := q3.cell (k := t) (List.getElem?_eq_getElem hvl)
        have fv := q3.free (k := t) hvl
        have hown := (q4 t hvl hrl).1
        obtain ⟨at_, ct, hvt⟩ := owns_slice hown
        have t0 : (0 : Int) ≤ (t : Int) := by omega
        have t1 : (t : Int) < (m : Int) := by omega
        rw [hvt] at dv
        have HV := Lib.hid hvt
        have HQ1 := Lib.hid q1
        have HQ3 := Lib.hid q3
        have HQ4 := Lib.hid q4
        have HQ5 := Lib.hid q5
        have HOWN := Lib.hid hown
        clear hvt q1 q1' q3 q4 q5 hown
        obtain ⟨R, hR⟩ : ∃ R, R = (splitP (l.take k) m)[t]'hrl := ⟨_, rfl⟩
        rw [← hR] at dv HV HOWN
        rw [HV.out] at HOWN
        have HRD := Lib.hid hR
        have HRL := Lib.hid (show R.length ≤ 100000 by
          rw [hR, splitP_get _ _ _ hat]
          refine Nat.le_trans (List.length_filter_le _ _) ?_
          rw [List.length_take]; omega)
        clear hR
        go_wp2
        have hown6 : OP w6.drew D (.slice at_ R.length ct) R := HOWN.out
        have HO6d := Lib.hid hown6
        have hby : (R.length + 1) * 32 ≤ 140737488355328 := by have := HRL.out; omega
        have hbase : D ≤ w6.drew.heap.size := by show D ≤ w6.heap.size; omega
        have hne8 : (Value.slice at_ R.length ct).ownBlock ≠ some D := by rw [← HV.out]; exact (HQ4.out t hvl hrl).2
        have HNE := Lib.hid hne8
        have hD6 : D < w6.drew.heap.size := by show D < w6.heap.size; omega
        have dv' : w6.drew.cell? ⟨D, t, none⟩ = some (.slice at_ R.length ct) := dv
        have fv' : w6.drew.frozen? ⟨D, t, none⟩ = false := fv
        have HDV := Lib.hid dv'
        have HFV := Lib.hid fv'
        clear hown6 hne8 dv' fv'
        go_region_law (refine step_appendLP w6.drew p rfl _ _ 35 rfl Try.underlying35 D _ R rfl HO6d.out _ rfl hby hbase ?_; intro g8 cap8 w8 hown8 hkeep8 hlie8 hB8; have hblk := hkeep8.out D hD6 HNE.out; have dv8 : w8.cell? ⟨D, t, none⟩ = some (.slice at_ R.length ct) := (World.cell?_of_block (w := w6.drew) (a := ⟨D, t, none⟩) hblk).trans HDV.out; have fv8 : w8.frozen? ⟨D, t, none⟩ = false := (World.frozen?_of_block (w := w6.drew) (a := ⟨D, t, none⟩) hblk).trans HFV.out; clear hblk)
        all_goals
          have hstep := OR.step (w := w6) (w1 := w6.drew) (w2 := w8) (base := D) (D := D) (g := g8) (cap := cap8) (k := t) (rows := splitP (l.take k) m) (vs := vs) (p := p) HQ1.out HQ3.out HQ4.out HQ5.out hrl (b_drew w6) (by rw [← HRD.out]; exact hown8) (fun j hj hne => hkeep8.out j hj (by rw [← HV.out]; exact hne)) (by rw [HV.out]; exact hlie8.out) hB8.size
          rw [← HRD.out] at hstep
          have hsn : splitP (l.take (k + 1)) m = (splitP (l.take k) m).set t (R ++ [p]) := by
            rw [List.take_succ_eq_append_getElem hkl, ← HP.out, splitP_snoc _ _ _ t HT.out.symm hat, ← HRD.out]
          rw [← hsn] at hstep
          have HST := Lib.hid hstep
          have HBW := Lib.hid (show Below D w3 (w8.setCell ⟨D, t, none⟩ (.slice (some ⟨g8, 0, none⟩) (R.length + 1) cap8)) from
            ((HB4.out.trans (HB6.out.mono (by omega))).trans (((b_drew w6).mono (by omega)).trans hB8)).setCell (p := ⟨D, t, none⟩) (Nat.le_refl _) _)
          clear hstep hsn hown8 hkeep8 hlie8 hB8 dv8 fv8
          go_wp2
          refine ⟨?_, by simp [intOf]; omega⟩
          first
            | exact ⟨k + 1, by omega, by go_num, HST.out, HBW.out⟩
            | ((repeat apply Exists.intro); exact ⟨⟨k + 1, by omega, by go_num, HST.out, HBW.out⟩, rfl⟩)
      · obtain rfl : k = l.length := by omega
        have HF := Lib.hid (List.take_length (l := l))
        go_wp2
        go_ret2
        refine ⟨HR.out _ _ ⟨D, rfl, by have := HD.out; have := HB3.out.size; omega, ?_⟩, ?_⟩
        · have := HO.out
          rw [HF.out] at this
          exact this
        · exact HB3.out.trans (HB4.out.mono (by have := HD.out; have := HB3.out.size; omega))
end Go.Proofs.Ytdebgkjekcppmaa
