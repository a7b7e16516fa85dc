/- Walks of package maslinref02: Hex. -/
import Derived.Test.YtdebgkjekcppmaaS5
import Derived.Test.YtdebgkjekcppmaaR1
namespace Go.Proofs.Ytdebgkjekcppmaa
open Go.RowKit Oct

def hexAll : List UInt8 := [48, 49, 50, 51, 52, 53, 54, 55, 56, 57, 97, 98, 99, 100, 101, 102]
def hexd (n : Nat) : UInt8 := hexAll.getD n 0
def hexF (l : List UInt8) : List UInt8 := l.flatMap fun c => [hexd (c.toNat / 16), hexd (c.toNat % 16)]
theorem hexF_length (l : List UInt8) : (hexF l).length = 2 * l.length := by
  induction l with
  | nil => rfl
  | cons c l ih => simp only [hexF, List.flatMap_cons, List.length_append, List.length_cons, List.length_nil] at ih ⊢; omega
theorem hexF_snoc (l : List UInt8) (k : Nat) (h : k < l.length) : hexF (l.take (k + 1)) = hexF (l.take k) ++ [hexd (l[k].toNat / 16), hexd (l[k].toNat % 16)] := by
  rw [List.take_succ_eq_append_getElem h, hexF, List.flatMap_append]; simp [hexF]
set_option maxRecDepth 100000 in
theorem index16 (n : Nat) (h : n < 16) (w : World) :
    (Instr.index 9 (.string ⟨#[48, 49, 50, 51, 52, 53, 54, 55, 56, 57, 97, 98, 99, 100, 101, 102]⟩) (.int .u8 (n : Int))).run Try.prog w = .ok (.int .u8 ((hexd n).toNat : Int)) w := by
  rcases (by omega : n = 0 ∨ n = 1 ∨ n = 2 ∨ n = 3 ∨ n = 4 ∨ n = 5 ∨ n = 6 ∨ n = 7 ∨ n = 8 ∨ n = 9 ∨ n = 10 ∨ n = 11 ∨ n = 12 ∨ n = 13 ∨ n = 14 ∨ n = 15) with rfl | rfl | rfl | rfl | rfl | rfl | rfl | rfl | rfl | rfl | rfl | rfl | rfl | rfl | rfl | rfl
  all_goals clear h
  all_goals kernel_rfl

theorem grow_index {P : Program} {o : Oper} {a : Act} {w : World} {v : Value} {G : Value → World → Prop} (t : TypeId) (x y : Operand) (ho : o.op = .index t x y)
    (h : (Instr.index t (a.eval x) (a.eval y)).run P w = .ok v w) (hG : G v w) : growAt P o a w G := by
  unfold growAt execOp
  simp only [ho, Sem.run_bind, h, Result.andThen_ok, Sem.run_pure]
  exact hG

set_option maxRecDepth 100000 in
set_option maxHeartbeats 1000000 in
theorem rHex_any (l : List UInt8) (w : World) (hl : l.length ≤ 1099511627776) :
    Calls Try.prog 21 #[.string (bs l)] w fun e w' => e = .returned (.string (bs (hexF l))) ∧ Below w.heap.size w w' := by
  go_enter Try.func21, Try.ntmps21
  go_wp2
  go_loopw [3, 4] (fun v i wx => ∃ k : Nat, k ≤ l.length ∧ i = .int .i64 k ∧ Hid (wx.ownsRow w.heap.size 5 1 v (2 * k) (bcells (hexF (l.take k)))) ∧ Hid (Below w.heap.size w wx)) (fun _ i _ => l.length - (intOf i).toNat)
  case atStart => exact ⟨0, by omega, rfl, World.ownsRow_nil _ _ _ _, Below.refl _ _⟩
  case round =>
    obtain ⟨k, hk, rfl, HR, HW⟩ := hrel
    by_cases hkl : k < l.length
    · have k1 : (k : Int) < (l.length : Int) := by omega
      have k0 : (0 : Int) ≤ (k : Int) := by omega
      obtain ⟨av, cv, rfl⟩ := owns_slice HR.out
      have HS := Lib.hid (hexF_snoc l k hkl)
      have hlt := l[k].toNat_lt
      have hi1 : ∀ w, (Instr.index 9 (.string ⟨#[48, 49, 50, 51, 52, 53, 54, 55, 56, 57, 97, 98, 99, 100, 101, 102]⟩) (.int .u8 ((l[k].toNat : Int) / 16))).run Try.prog w = .ok (.int .u8 ((hexd (l[k].toNat / 16)).toNat : Int)) w := fun w => by
        rw [show (l[k].toNat : Int) / 16 = ((l[k].toNat / 16 : Nat) : Int) by omega]; exact index16 _ (by omega) w
      have hi2 : ∀ w, (Instr.index 9 (.string ⟨#[48, 49, 50, 51, 52, 53, 54, 55, 56, 57, 97, 98, 99, 100, 101, 102]⟩) (.int .u8 ((l[k].toNat : Int) % 16))).run Try.prog w = .ok (.int .u8 ((hexd (l[k].toNat % 16)).toNat : Int)) w := fun w => by
        rw [show (l[k].toNat : Int) % 16 = ((l[k].toNat % 16 : Nat) : Int) by omega]; exact index16 _ (by omega) w
      generalize hexd (l[k].toNat / 16) = x1 at *
      generalize hexd (l[k].toNat % 16) = x2 at *
      go_wp2
      refine region_tail 12 [(5, .exact Bel (.int .u8 (x1.toNat : Int))), (10, .exact Bel (.int .u8 (x2.toNat : Int))), (11, kReads 2 (bcells [x1, x2]))] (by kernel_rfl) (by kernel_rfl) ?_
      simp only [List.take_succ_cons, List.take_zero, List.drop_succ_cons, List.drop_zero]
      (repeat (first | (refine wpG_skip (by kernel_rfl) (fun K hK => ?_); go_big_quiet_skip; refine wpQuiet_nil (hK _ ?_); clear hK K) | (refine wpG_quiet (by rfl) (by rfl) (fun K hK => ?_); go_big_quiet_want; go_big_quiet_op; go_big_quiet_on; refine wpQuiet_nil (hK _ ?_); clear hK K)))
      refine wpG_exact rfl (by kernel_rfl) (fun w' G hB hS hG => ?_) (fun K hK => ?_)
      · exact grow_index _ _ _ rfl (hi1 w') (hG _ (Bel.refl _))
      go_simp; refine hK _ ?_; clear hK K; (repeat (first | (refine wpG_skip (by kernel_rfl) (fun K hK => ?_); go_big_quiet_skip; refine wpQuiet_nil (hK _ ?_); clear hK K) | (refine wpG_quiet (by rfl) (by rfl) (fun K hK => ?_); go_big_quiet_want; go_big_quiet_op; go_big_quiet_on; refine wpQuiet_nil (hK _ ?_); clear hK K)))
      refine wpG_exact rfl (by kernel_rfl) (fun w' G hB hS hG => ?_) (fun K hK => ?_)
      · exact grow_index _ _ _ rfl (hi2 w') (hG _ (Bel.refl _))
      go_simp; refine hK _ ?_; clear hK K; (repeat (first | (refine wpG_skip (by kernel_rfl) (fun K hK => ?_); go_big_quiet_skip; refine wpQuiet_nil (hK _ ?_); clear hK K) | (refine wpG_quiet (by rfl) (by rfl) (fun K hK => ?_); go_big_quiet_want; go_big_quiet_op; go_big_quiet_on; refine wpQuiet_nil (hK _ ?_); clear hK K)))
      refine wpG_known (kReads 2 (bcells [x1, x2])) rfl (by kernel_rfl) (fun w' G hB hS hG => ?_) (fun x K hK => ?_)
      · go_simp
        exact reads_new hG rfl
      obtain ⟨ad, c⟩ := x; go_simp; refine hK _ ?_; clear hK K; (repeat (first | (refine wpG_skip (by kernel_rfl) (fun K hK => ?_); go_big_quiet_skip; refine wpQuiet_nil (hK _ ?_); clear hK K) | (refine wpG_quiet (by rfl) (by rfl) (fun K hK => ?_); go_big_quiet_want; go_big_quiet_op; go_big_quiet_on; refine wpQuiet_nil (hK _ ?_); clear hK K)))
      intro w' hB hA
      have hr : Hid (Reads w' (.slice ad 2 c) 2 (bcells [x1, x2])) := all0 hA
      have HR' := Lib.hid (ownsRow_below HR.out hB)
      have HB' := Lib.hid (bt HW.out hB)
      have hsz : w.heap.size ≤ w'.heap.size := HB'.out.size
      clear hA hB hi1 hi2 hlt
      go_wp2_with (at_builtin; refine appendN w' (bcells [x1, x2]) 5 rfl _ _ 75 rfl w.heap.size (.int .u8 0) 1 1 Try.underlying75 infoU8 rfl (by decide) _ _ _ rfl HR'.out _ 2 rfl hr.out rfl (by simp [bcells, Value.oneCell']) (by omega) (by decide) hsz ?_; intro v' w1 hown1 hB1)
      refine ⟨⟨k + 1, by omega, by go_num, ?_, HB'.out.trans hB1⟩, by simp [intOf]; omega⟩
      rw [HS.out, show bcells (hexF (l.take k) ++ [x1, x2]) = bcells (hexF (l.take k)) ++ bcells [x1, x2] by simp [bcells]]
      exact hown1
    · have hk : k = l.length := by omega
      subst hk
      obtain ⟨av, cv, rfl⟩ := owns_slice HR.out
      have HR2 := HR.out
      rw [List.take_length] at HR2
      have hcv := conv_own 75 9 5 Try.underlying75 Try.underlying5 Try.underlying9 _ _ _ _ _ HR2
      clear HR2
      go_wp2
      go_ret
      exact ⟨rfl, HW.out⟩
end Go.Proofs.Ytdebgkjekcppmaa
