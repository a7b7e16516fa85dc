/- The roots of the first primes: the constants of the sum. -/
import Derived.Test.YtdebgkjekcppmaaSV
namespace Go.Proofs.Ytdebgkjekcppmaa
open Go.RowKit Oct

theorem rk2 : rootF 2 true = 1116352408 := by decide +kernel
theorem rk3 : rootF 3 true = 1899447441 := by decide +kernel
theorem rk5 : rootF 5 true = 3049323471 := by decide +kernel
theorem rk7 : rootF 7 true = 3921009573 := by decide +kernel
theorem rk11 : rootF 11 true = 961987163 := by decide +kernel
theorem rk13 : rootF 13 true = 1508970993 := by decide +kernel
theorem rk17 : rootF 17 true = 2453635748 := by decide +kernel
theorem rk19 : rootF 19 true = 2870763221 := by decide +kernel
theorem rk23 : rootF 23 true = 3624381080 := by decide +kernel
theorem rk29 : rootF 29 true = 310598401 := by decide +kernel
theorem rk31 : rootF 31 true = 607225278 := by decide +kernel
theorem rk37 : rootF 37 true = 1426881987 := by decide +kernel
theorem rk41 : rootF 41 true = 1925078388 := by decide +kernel
theorem rk43 : rootF 43 true = 2162078206 := by decide +kernel
theorem rk47 : rootF 47 true = 2614888103 := by decide +kernel
theorem rk53 : rootF 53 true = 3248222580 := by decide +kernel
theorem rk59 : rootF 59 true = 3835390401 := by decide +kernel
theorem rk61 : rootF 61 true = 4022224774 := by decide +kernel
theorem rk67 : rootF 67 true = 264347078 := by decide +kernel
theorem rk71 : rootF 71 true = 604807628 := by decide +kernel
theorem rk73 : rootF 73 true = 770255983 := by decide +kernel
theorem rk79 : rootF 79 true = 1249150122 := by decide +kernel
theorem rk83 : rootF 83 true = 1555081692 := by decide +kernel
theorem rk89 : rootF 89 true = 1996064986 := by decide +kernel
theorem rk97 : rootF 97 true = 2554220882 := by decide +kernel
theorem rk101 : rootF 101 true = 2821834349 := by decide +kernel
theorem rk103 : rootF 103 true = 2952996808 := by decide +kernel
theorem rk107 : rootF 107 true = 3210313671 := by decide +kernel
theorem rk109 : rootF 109 true = 3336571891 := by decide +kernel
theorem rk113 : rootF 113 true = 3584528711 := by decide +kernel
theorem rk127 : rootF 127 true = 113926993 := by decide +kernel
theorem rk131 : rootF 131 true = 338241895 := by decide +kernel
theorem rk137 : rootF 137 true = 666307205 := by decide +kernel
theorem rk139 : rootF 139 true = 773529912 := by decide +kernel
theorem rk149 : rootF 149 true = 1294757372 := by decide +kernel
theorem rk151 : rootF 151 true = 1396182291 := by decide +kernel
theorem rk157 : rootF 157 true = 1695183700 := by decide +kernel
theorem rk163 : rootF 163 true = 1986661051 := by decide +kernel
theorem rk167 : rootF 167 true = 2177026350 := by decide +kernel
theorem rk173 : rootF 173 true = 2456956037 := by decide +kernel
theorem rk179 : rootF 179 true = 2730485921 := by decide +kernel
theorem rk181 : rootF 181 true = 2820302411 := by decide +kernel
theorem rk191 : rootF 191 true = 3259730800 := by decide +kernel
theorem rk193 : rootF 193 true = 3345764771 := by decide +kernel
theorem rk197 : rootF 197 true = 3516065817 := by decide +kernel
theorem rk199 : rootF 199 true = 3600352804 := by decide +kernel
theorem rk211 : rootF 211 true = 4094571909 := by decide +kernel
theorem rk223 : rootF 223 true = 275423344 := by decide +kernel
theorem rk227 : rootF 227 true = 430227734 := by decide +kernel
theorem rk229 : rootF 229 true = 506948616 := by decide +kernel
theorem rk233 : rootF 233 true = 659060556 := by decide +kernel
theorem rk239 : rootF 239 true = 883997877 := by decide +kernel
theorem rk241 : rootF 241 true = 958139571 := by decide +kernel
theorem rk251 : rootF 251 true = 1322822218 := by decide +kernel
theorem rk257 : rootF 257 true = 1537002063 := by decide +kernel
theorem rk263 : rootF 263 true = 1747873779 := by decide +kernel
theorem rk269 : rootF 269 true = 1955562222 := by decide +kernel
theorem rk271 : rootF 271 true = 2024104815 := by decide +kernel
theorem rk277 : rootF 277 true = 2227730452 := by decide +kernel
theorem rk281 : rootF 281 true = 2361852424 := by decide +kernel
theorem rk283 : rootF 283 true = 2428436474 := by decide +kernel
theorem rk293 : rootF 293 true = 2756734187 := by decide +kernel
theorem rk307 : rootF 307 true = 3204031479 := by decide +kernel
theorem rk311 : rootF 311 true = 3329325298 := by decide +kernel
theorem rh2 : rootF 2 false = 1779033703 := by decide +kernel
theorem rh3 : rootF 3 false = 3144134277 := by decide +kernel
theorem rh5 : rootF 5 false = 1013904242 := by decide +kernel
theorem rh7 : rootF 7 false = 2773480762 := by decide +kernel
theorem rh11 : rootF 11 false = 1359893119 := by decide +kernel
theorem rh13 : rootF 13 false = 2600822924 := by decide +kernel
theorem rh17 : rootF 17 false = 528734635 := by decide +kernel
theorem rh19 : rootF 19 false = 1541459225 := by decide +kernel
theorem P64_eq : P64 = [2, 3, 5, 7, 11, 13, 17, 19, 23, 29, 31, 37, 41, 43, 47, 53, 59, 61, 67, 71, 73, 79, 83, 89, 97, 101, 103, 107, 109, 113, 127, 131, 137, 139, 149, 151, 157, 163, 167, 173, 179, 181, 191, 193, 197, 199, 211, 223, 227, 229, 233, 239, 241, 251, 257, 263, 269, 271, 277, 281, 283, 293, 307, 311] := by decide +kernel
def cF (cube : Bool) (i : Nat) : List UInt32 := (List.range i).map fun j => UInt32.ofNat (rootF (P64.getD j 0) cube)
theorem cF_step (cube : Bool) (i : Nat) : cF cube (i + 1) = cF cube i ++ [UInt32.ofNat (rootF (P64.getD i 0) cube)] := by simp [cF, List.range_succ]
theorem cF_length (cube : Bool) (i : Nat) : (cF cube i).length = i := by simp [cF]
theorem cF_map (cube : Bool) (i : Nat) (h : i ≤ 64) : cF cube i = (P64.take i).map fun p => UInt32.ofNat (rootF p cube) := by
  have hl := P64_length
  apply List.ext_getElem
  · simp [cF, hl]; omega
  · intro j h1 h2
    have hj : j < P64.length := by simp [cF] at h1; omega
    simp [cF, List.getD_eq_getElem?_getD, hj]
theorem cF_k : cF true 64 = ktab := by
  rw [cF_map true 64 (Nat.le_refl _), List.take_of_length_le (Nat.le_of_eq P64_length), P64_eq]
  simp only [List.map_cons, List.map_nil, rk2, rk3, rk5, rk7, rk11, rk13, rk17, rk19, rk23, rk29, rk31, rk37, rk41, rk43, rk47, rk53, rk59, rk61, rk67, rk71, rk73, rk79, rk83, rk89, rk97, rk101, rk103, rk107, rk109, rk113, rk127, rk131, rk137, rk139, rk149, rk151, rk157, rk163, rk167, rk173, rk179, rk181, rk191, rk193, rk197, rk199, rk211, rk223, rk227, rk229, rk233, rk239, rk241, rk251, rk257, rk263, rk269, rk271, rk277, rk281, rk283, rk293, rk307, rk311]
  rfl
theorem cF_h : cF false 8 = h0 := by
  rw [cF_map false 8 (by decide), P64_eq]
  simp only [List.take_succ_cons, List.take_zero, List.map_cons, List.map_nil, rh2, rh3, rh5, rh7, rh11, rh13, rh17, rh19]
  rfl
end Go.Proofs.Ytdebgkjekcppmaa
