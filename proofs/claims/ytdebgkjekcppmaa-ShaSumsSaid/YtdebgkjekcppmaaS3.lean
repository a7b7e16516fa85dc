/- Walks of package sha: table, block. -/
import Derived.Test.YtdebgkjekcppmaaS2
import Derived.Test.YtdebgkjekcppmaaSB
namespace Go.Proofs.Ytdebgkjekcppmaa
open Go.RowKit Oct

set_option maxRecDepth 100000 in
set_option maxHeartbeats 1000000 in
theorem table_any (w : World) :
    Calls Try.prog 91 #[] w fun e w' => e = .returned (.agg (ucells ktab).toArray) ∧ Below w.heap.size w w' := by
  have hz := (zero_of_info (P := Try.prog) (t := 121) (v := .agg (ucells (zrow 64)).toArray) (n := 64) (by kernel_rfl)).1
  go_enter Try.func91, Try.ntmps91
  have HN := Lib.hid (Blk.new w (ucells (zrow 64)) 121)
  have HI := Lib.hid (show (Try.prog.info? 121).map (·.size) = some (ucells ktab).length by kernel_rfl)
  go_wp2_with first | (refine blk_build (ucells ktab) rfl _ _ rfl (by kernel_rfl) ?_) | (refine blk_store w.heap.size (ucells (zrow 64)) (ucells ktab) HN.out rfl _ _ _ rfl rfl rfl HI.out rfl (ucells_one _) ?_)
  refine bodyPost_ret (blk_result rfl rfl (HN.out.row _) (.array 64 85) (by kernel_rfl) rfl HI.out) rfl ⟨rfl, below_setRow (b_alloc w _) (Nat.le_refl _) _⟩
set_option maxRecDepth 100000 in
theorem index8 (V : List UInt32) (hV : V.length = 8) (k : Nat) (hk : k < 8) (w : World) :
    (Instr.index 86 (.agg (ucells V).toArray) (.int .i64 (k : Int))).run Try.prog w = .ok (.int .u32 (U (V.getD k 0))) w := by
  obtain ⟨a, b, c, d, e, f, g, i, rfl⟩ := eight V hV
  rcases (by omega : k = 0 ∨ k = 1 ∨ k = 2 ∨ k = 3 ∨ k = 4 ∨ k = 5 ∨ k = 6 ∨ k = 7) with rfl | rfl | rfl | rfl | rfl | rfl | rfl | rfl
  all_goals clear hk hV
  all_goals kernel_rfl
end Go.Proofs.Ytdebgkjekcppmaa
