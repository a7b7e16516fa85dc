/- Rows of pairs in memory. -/
import Derived.Test.YtdebgkjekcppmaaW1
namespace Go.Proofs.Ytdebgkjekcppmaa
open Go.RowKit Oct

abbrev PR := List UInt8 × List UInt8
/-- a pair's cells -/
def pcell (p : PR) : List Value := [.string (bs p.1), .string (bs p.2)]
def pcells : List PR → List Value
  | [] => []
  | p :: l => .string (bs p.1) :: .string (bs p.2) :: pcells l
theorem pcells_length : ∀ l : List PR, (pcells l).length = l.length * 2
  | [] => rfl
  | p :: l => by simp [pcells, pcells_length l]; omega
theorem pcells_append : ∀ a b : List PR, pcells (a ++ b) = pcells a ++ pcells b
  | [], _ => rfl
  | p :: a, b => by simp [pcells, pcells_append a b]
theorem pcells_snoc (l : List PR) (p : PR) : pcells l ++ [.string (bs p.1), .string (bs p.2)] = pcells (l ++ [p]) := by rw [pcells_append]; rfl
theorem pcells_key : ∀ (l : List PR) (k : Nat) (h : k < l.length), (pcells l)[k * 2]? = some (.string (bs l[k].1))
  | p :: l, 0, _ => rfl
  | p :: l, k + 1, h => by
    have := pcells_key l k (by simpa using h)
    rw [show (k + 1) * 2 = k * 2 + 2 by omega]
    simpa [pcells] using this
theorem pcells_val : ∀ (l : List PR) (k : Nat) (h : k < l.length), (pcells l)[k * 2 + 1]? = some (.string (bs l[k].2))
  | p :: l, 0, _ => rfl
  | p :: l, k + 1, h => by
    have := pcells_val l k (by simpa using h)
    rw [show (k + 1) * 2 + 1 = k * 2 + 1 + 2 by omega]
    simpa [pcells] using this
theorem pcells_drop : ∀ (l : List PR) (k : Nat), (pcells l).drop (k * 2) = pcells (l.drop k)
  | l, 0 => by simp
  | [], k + 1 => by simp [pcells]
  | p :: l, k + 1 => by
    rw [show (k + 1) * 2 = k * 2 + 2 by omega]
    simp [pcells, pcells_drop l k]
theorem pcells_take : ∀ (l : List PR) (k : Nat), (pcells l).take (k * 2) = pcells (l.take k)
  | l, 0 => by simp [pcells]
  | [], k + 1 => by simp [pcells]
  | p :: l, k + 1 => by
    rw [show (k + 1) * 2 = k * 2 + 2 by omega]
    simp [pcells, pcells_take l k]
theorem pcells_one (l : List PR) : ∀ u ∈ pcells l, u.oneCell' = true := by
  induction l with
  | nil => simp [pcells]
  | cons p l ih => intro u hu; simp [pcells] at hu; rcases hu with rfl | rfl | hu <;> first | rfl | exact ih u hu

/-- the slice value v is a row of pairs -/
def RP (w : World) (v : Value) (l : List PR) : Prop := Reads w v l.length (pcells l) ∧ ∃ a cap, v = .slice a l.length cap ∧ l.length ≤ cap
theorem RP.below {w w' : World} {v : Value} {l : List PR} (h : RP w v l) (hB : Below w.heap.size w w') : RP w' v l := ⟨Reads.below h.1 hB, h.2⟩
/-- v is a row of pairs of the call's own -/
def OP (w : World) (base : Nat) (v : Value) (l : List PR) : Prop := w.ownsRow base 52 2 v l.length (pcells l)
theorem OP.reads {w : World} {base : Nat} {v : Value} {l : List PR} (h : OP w base v l) : RP w v l := by
  refine ⟨Reads.owned h, ?_⟩
  rcases h.2 with ⟨hv, h0⟩ | ⟨g, cap, cur, hv, _, _, hc, _⟩
  · exact ⟨none, 0, by rw [hv, h0], by omega⟩
  · exact ⟨_, _, hv, hc⟩
theorem OP.below {w w' : World} {base : Nat} {v : Value} {l : List PR} (h : OP w base v l) (hB : Below w.heap.size w w') : OP w' base v l := ownsRow_below h hB
theorem RP.nil (w : World) : RP w (.slice none 0 0) [] := ⟨Reads.nil w, none, 0, rfl, Nat.le_refl _⟩
theorem OP.nil (w : World) (base : Nat) : OP w base (.slice none 0 0) [] := ⟨rfl, .inl ⟨rfl, rfl⟩⟩
theorem RP.new (w : World) (l : List PR) (e : TypeId) : RP (w.alloc (.cells (pcells l).toArray e)) (.slice (some ⟨w.heap.size, 0, none⟩) l.length l.length) l := ⟨Reads.new w _ _ _ _, _, _, rfl, Nat.le_refl _⟩
theorem infoPair : (Try.prog.info? 52).map (fun i => (i.zero, i.size, i.bytes)) = some (some (.agg #[.string ByteArray.empty, .string ByteArray.empty]), 2, 32) := by kernel_rfl

/-- a row, opened -/
theorem RP.open {w : World} {v : Value} {l : List PR} (h : RP w v l) : ∃ a cap, v = .slice a l.length cap ∧ l.length ≤ cap ∧
    ∀ k (hk : k < l.length), ∃ b off, a = some ⟨b, off, none⟩ ∧ w.cell? ⟨b, off + k * 2, none⟩ = some (.string (bs l[k].1)) ∧ w.cell? ⟨b, off + k * 2 + 1, none⟩ = some (.string (bs l[k].2)) := by
  obtain ⟨⟨a, cap, rfl, hn, hc⟩, a', cap', hv, hle⟩ := h
  injection hv with _ _ h3
  subst h3
  refine ⟨a, cap, rfl, hle, fun k hk => ?_⟩
  obtain ⟨b, off, rfl, h1⟩ := hc _ _ (pcells_key l k hk)
  obtain ⟨b', off', hb, h2⟩ := hc _ _ (pcells_val l k hk)
  cases hb
  exact ⟨b, off, rfl, h1, h2⟩
/-- append(s, x...): s the call's own -/
theorem appendP {ops : Array Oper} {rest : List Oper} {o : Oper} {a : Act} {Q : Exit → Act → World → Prop} (w : World) (hgd : o.guard = none) (s x : Operand) (t : TypeId)
    (ho : o.op = .call { callee := .builtin .append, args := #[s, x], argTypes := #[t, t] }) (ht : Try.prog.underlying t = some (.slice 52))
    (base : Nat) (v : Value) (xs : List PR) (hs : a.eval s = v) (hown : OP w base v xs)
    (vx : Value) (ys : List PR) (hx : a.eval x = vx) (hr : RP w vx ys) (hbytes : (xs.length + ys.length) * 32 ≤ 140737488355328) (hbase : base ≤ w.heap.size)
    (h : ∀ v' w', OP w' base v' (xs ++ ys) → Below base w w' → wpList Try.prog ops Q rest (a.put o.dst v') w') : wpList Try.prog ops Q (o :: rest) a w :=
  appendN w (pcells ys) 52 hgd s x t ho base (.agg #[.string ByteArray.empty, .string ByteArray.empty]) 2 32 ht infoPair rfl (by decide) v xs.length (pcells xs) hs hown vx ys.length hx hr.1 (pcells_length ys) (pcells_one ys) hbytes (by decide) hbase
    (fun v' w' h1 h2 => h v' w' (by unfold OP; rw [pcells_append, List.length_append]; exact h1) h2)
theorem append1P {ops : Array Oper} {rest : List Oper} {o : Oper} {a : Act} {Q : Exit → Act → World → Prop} (w : World) (p : PR) (hgd : o.guard = none) (s x : Operand) (t : TypeId)
    (ho : o.op = .call { callee := .builtin .append, args := #[s, x], argTypes := #[t, t] }) (ht : Try.prog.underlying t = some (.slice 52))
    (base : Nat) (v : Value) (xs : List PR) (hs : a.eval s = v) (hown : OP w base v xs) (c : Nat) (hx : a.eval x = .slice (some ⟨w.heap.size, 0, none⟩) 1 c)
    (hbytes : (xs.length + 1) * 32 ≤ 140737488355328) (hbase : base ≤ w.heap.size)
    (h : ∀ v' w', OP w' base v' (xs ++ [p]) → Below base w w' → wpList Try.prog ops Q rest (a.put o.dst v') w') : wpList Try.prog ops Q (o :: rest) a (w.alloc (.cells (pcell p).toArray 52)) :=
  append1 w (pcell p) 52 hgd s x t ho base (.agg #[.string ByteArray.empty, .string ByteArray.empty]) 2 32 ht infoPair rfl (by decide) v xs.length (pcells xs) hs hown c hx rfl (by simp [pcell, Value.oneCell']) hbytes (by decide) hbase
    (fun v' w' h1 h2 => h v' w' (by unfold OP; rw [pcells_append, List.length_append]; exact h1) h2)
theorem step_append1P {ops : Array Oper} {o : Oper} {a : Act} {K : Act → World → Prop} {Q : Exit → Act → World → Prop} {E : Prop} (w : World) (p : PR) (hgd : o.guard = none) (s x : Operand) (t : TypeId)
    (ho : o.op = .call { callee := .builtin .append, args := #[s, x], argTypes := #[t, t] }) (ht : Try.prog.underlying t = some (.slice 52))
    (base : Nat) (v : Value) (xs : List PR) (hs : a.eval s = v) (hown : OP w base v xs) (c : Nat) (hx : a.eval x = .slice (some ⟨w.heap.size, 0, none⟩) 1 c)
    (hbytes : (xs.length + 1) * 32 ≤ 140737488355328) (hbase : base ≤ w.heap.size)
    (h : ∀ g cap w', OP w' base (.slice (some ⟨g, 0, none⟩) (xs.length + 1) cap) (xs ++ [p]) → Below base w w' → K (a.put o.dst (.slice (some ⟨g, 0, none⟩) (xs.length + 1) cap)) w') :
    if Region.wanted o (yielded ops a.tmps) = true then Oper.wp Try.prog o a (w.alloc (.cells #[.string (bs p.1), .string (bs p.2)] 52)) K Q else E :=
  step_append1 w (pcell p) 52 hgd s x t ho base (.agg #[.string ByteArray.empty, .string ByteArray.empty]) 2 32 ht infoPair rfl (by decide) v xs.length (pcells xs) hs hown c hx rfl (by simp [pcell, Value.oneCell']) hbytes (by decide) hbase
    (fun g cap w' h1 h2 => h g cap w' (by unfold OP; rw [pcells_append, List.length_append]; exact h1) h2)
theorem Reads.mk {w : World} {a : Option Addr} {n cap : Nat} {xs : List Value} (h1 : a = none → n = 0 ∧ cap = 0) (h2 : ∀ j u, xs[j]? = some u → ∃ b off, a = some ⟨b, off, none⟩ ∧ w.cell? ⟨b, off + j, none⟩ = some u) : Reads w (.slice a n cap) n xs := ⟨a, cap, rfl, h1, h2⟩
theorem none_cap {w : World} {a : Option Addr} {n cap : Nat} {xs : List Value} (h : Reads w (.slice a n cap) n xs) : a = none → n = 0 ∧ cap = 0 := by
  obtain ⟨a', cap', hv, hn, _⟩ := h
  injection hv with h1 _ h3
  subst h1 h3
  exact hn
/-- s[lo:hi], read -/
theorem RP.sub {w : World} {a : Option Addr} {cap : Nat} {l : List PR} (h : RP w (.slice a l.length cap) l) (lo hi : Nat) (h1 : lo ≤ hi) (h2 : hi ≤ l.length) :
    RP w (sliced a lo hi cap 2) ((l.drop lo).take (hi - lo)) := by
  have hlen : ((l.drop lo).take (hi - lo)).length = hi - lo := by simp; omega
  obtain ⟨hr, a', cap', hv, hle⟩ := h
  injection hv with _ _ h3
  subst h3
  have hn := none_cap hr
  obtain ⟨a', cap', hv, _, hc⟩ := hr
  injection hv with e1 _ e3
  subst e1 e3
  unfold sliced
  refine ⟨?_, _, _, by rw [hlen], by rw [hlen]; omega⟩
  rw [hlen]
  refine Reads.mk ?_ ?_
  · intro ha
    by_cases e : cap = lo
    · omega
    · rw [if_neg e] at ha
      have : a = none := by simpa using ha
      have := hn this
      omega
  · intro j u hj
    rw [← pcells_take, ← pcells_drop, List.getElem?_take] at hj
    split at hj
    · rename_i hlt
      rw [List.getElem?_drop] at hj
      obtain ⟨b, off, rfl, hu⟩ := hc _ _ hj
      rw [if_neg (by omega)]
      refine ⟨b, off + lo * 2, ?_, ?_⟩
      · rw [Option.map_some, Addr.add_lit]
      · rw [← hu, Nat.add_assoc]
    · simp at hj
theorem RP.cut {w : World} {a : Option Addr} {cap : Nat} {l : List PR} (h : RP w (.slice a l.length cap) l) (k : Nat) (hk : k ≤ l.length) : RP w (sliced a k l.length cap 2) (l.drop k) := by
  have := h.sub k l.length hk (Nat.le_refl _)
  rwa [List.take_of_length_le (by simp)] at this
theorem RP.head {w : World} {a : Option Addr} {cap : Nat} {l : List PR} (h : RP w (.slice a l.length cap) l) (k : Nat) (hk : k ≤ l.length) : RP w (sliced a 0 k cap 2) (l.take k) := by
  have := h.sub 0 k (by omega) hk
  simpa using this
/-- s[k:], run -/
theorem RP.cutRun {w : World} {a : Option Addr} {cap : Nat} {l : List PR} (h : RP w (.slice a l.length cap) l) (k : Nat) (c : Int) (hc : c = (k : Int)) (hk : k ≤ l.length) :
    ∃ A C, (∀ wx, (Instr.slice 35 (.slice a l.length cap) (some (.int .i64 c)) none none).run Try.prog wx = .ok (.slice A (l.length - k) C) wx) ∧ RP w (.slice A (l.length - k) C) (l.drop k) := by
  subst hc
  refine ⟨_, _, fun wx => ?_, h.cut k hk⟩
  obtain ⟨i, hi, hz, hi1, hi2⟩ := info_parts infoPair
  rw [run_slice_l wx 35 a l.length cap (by kernel_rfl) .i64 k (by omega) (by omega)]
  have he : (sizeOf (Try.prog.elem 35)).run Try.prog wx = .ok 2 wx := by kernel_rfl
  rw [he]
  simp [Result.andThen, sliced]
/-- s[:k], run -/
theorem RP.headRun {w : World} {a : Option Addr} {cap : Nat} {l : List PR} (h : RP w (.slice a l.length cap) l) (k : Nat) (c : Int) (hc : c = (k : Int)) (hk : k ≤ l.length) :
    ∃ A C, (∀ wx, (Instr.slice 35 (.slice a l.length cap) none (some (.int .i64 c)) none).run Try.prog wx = .ok (.slice A k C) wx) ∧ RP w (.slice A k C) (l.take k) := by
  subst hc
  obtain ⟨_, a', cap', hv, hle⟩ := id h
  injection hv with _ _ h3
  subst h3
  refine ⟨if cap = 0 then a else a.map (·.add (0 * 2)), cap - 0, fun wx => ?_, by have := RP.head h k hk; simpa [sliced] using this⟩
  rw [run_slice_h wx 35 a l.length cap (by kernel_rfl) .i64 k (by omega) (by omega)]
  have he : (sizeOf (Try.prog.elem 35)).run Try.prog wx = .ok 2 wx := by kernel_rfl
  rw [he]
  simp [Result.andThen, sliced]
end Go.Proofs.Ytdebgkjekcppmaa
