/- Walks of package sha: rot, words. -/
import Derived.Test.YtdebgkjekcppmaaW1
import Derived.Test.YtdebgkjekcppmaaSP
import Derived.Test.YtdebgkjekcppmaaG1
namespace Go.Proofs.Ytdebgkjekcppmaa
open Go.RowKit Oct

set_option maxRecDepth 100000 in
set_option maxHeartbeats 1000000 in
theorem rot_any (x : UInt32) (n : Nat) (w : World) (h1 : 1 ≤ n) (h2 : n ≤ 31) :
    Calls Try.prog 92 #[.int .u32 (U x), .int .i64 n] w fun e w' => e = .returned (.int .u32 (U (rotr x n))) ∧ Below w.heap.size w w' := by
  have n1 : (1 : Int) ≤ (n : Int) := by omega
  have n2 : (n : Int) ≤ 31 := by omega
  go_enter Try.func92, Try.ntmps92
  go_wp2
  go_quiet (fail)
  rw [U_shr x n (by omega), U_shl x (32 - n) (by omega), U_or]
  go_wp2
  go_ret
  exact ⟨rfl, Below.drewN' _ _⟩
end Go.Proofs.Ytdebgkjekcppmaa
