/- make of a slice whose elements have one cell. Over any program. -/
import Derived.Test.YtdebgkjekcppmaaR0
import Derived.Laws.MakeOwn
namespace Go.Proofs.Ytdebgkjekcppmaa
open Go.RowKit
variable {P : Program}
theorem madeCells_one (z : Value) (n : Nat) : madeCells #[z] n = (List.replicate n z).toArray := by
  apply Array.ext
  · simp [madeCells]
  · intro i h1 h2
    simp [madeCells]
    simp [madeCells, Nat.mod_one]
theorem make_one (t e : TypeId) (z : Value) (bytes : Nat) (ht : P.underlying t = some (.slice e)) (hinfo : (P.info? e).map (fun i => (i.zero, i.size, i.bytes)) = some (some z, 1, bytes)) (hz : z.cells = #[z]) (n : Nat) (hb : (bytes : Int) * (n : Int) ≤ 281474976710656) (hn : n ≤ 140737488355328) (w : World) :
    (Instr.makeSlice t (.int .i64 (n : Int)) (.int .i64 (n : Int))).run P w = .ok (.slice (some ⟨w.heap.size, 0, none⟩) n n) (w.alloc (.cells (List.replicate n z).toArray e)) := by
  obtain ⟨i, hi, hz0, hi1, hi2⟩ := info_parts hinfo
  have := run_make (P := P) w t e i z ht hi hz0 .i64 .i64 n n (by omega) (Int.le_refl _) (by rw [hi2]; exact hb) (by omega)
  rw [this, hz, hi1, Nat.mul_one, Int.toNat_natCast, madeCells_one]
end Go.Proofs.Ytdebgkjekcppmaa
