/- Walks of package sha: blocks (the function that it hands back). -/
import Derived.Test.YtdebgkjekcppmaaS5
import Derived.Test.YtdebgkjekcppmaaR1
namespace Go.Proofs.Ytdebgkjekcppmaa
open Go.RowKit Oct

set_option maxRecDepth 100000 in
set_option maxHeartbeats 1000000 in
theorem blocks_any (p : Nat) (w : World) :
    Calls Try.prog 61 #[.pointer (some ⟨p, 0, none⟩)] w fun e w' => ∃ b, e = .returned (.func (.func 89) #[] #[.pointer (some ⟨b, 0, none⟩)]) ∧ w.heap.size ≤ b ∧ Blk w' b 30 [.pointer (some ⟨p, 0, none⟩)] ∧ Below w.heap.size w w' := by
  have hmf : ∀ (fn : Fn) (first cap : Array Value) (w : World), (Instr.makeFunc fn first cap).run Try.prog w = .ok (.func fn first cap) w := fun _ _ _ _ => rfl
  go_enter Try.func61, Try.ntmps61
  go_wp2
  go_ret
  exact ⟨_, rfl, Nat.le_refl _, Blk.new _ _ _, b_alloc _ _⟩
end Go.Proofs.Ytdebgkjekcppmaa
