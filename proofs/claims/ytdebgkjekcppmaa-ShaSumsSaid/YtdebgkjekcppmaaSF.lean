/- Walks of package sha: Sum; the law's alive. -/
import Derived.Test.YtdebgkjekcppmaaSC
import Derived.Test.YtdebgkjekcppmaaSE
namespace Go.Proofs.Ytdebgkjekcppmaa
open Go.RowKit Oct

/-- block p is a Hash of the text t -/
def HashOf (w : World) (p : Nat) (t : List UInt8) : Prop := Blk w p 89 (hcells (absorb h0 t) (tailB t) ((t.length : Nat) : Int))
theorem HashOf.below {w w' : World} {p : Nat} {t : List UInt8} (h : HashOf w p t) (hB : Below w.heap.size w w') : HashOf w' p t := Blk.below h hB
theorem HashOf.chg {X : Nat → Prop} {w w' : World} {p : Nat} {t : List UInt8} (h : HashOf w p t) (hB : Chg X w w') (hX : ¬ X p) : HashOf w' p t := Blk.chg h hB hX
theorem NewH_any (w : World) : Calls Try.prog 22 #[] w fun e w' => ∃ b, e = .returned (.pointer (some ⟨b, 0, none⟩)) ∧ w.heap.size ≤ b ∧ HashOf w' b [] ∧ Below w.heap.size w w' := New_any w
theorem WriteH_any (p : Nat) (t s : List UInt8) (w : World) (hp : HashOf w p t) (hn : t.length + s.length ≤ 70368744177664) :
    Calls Try.prog 24 #[.pointer (some ⟨p, 0, none⟩), .string (bs s)] w fun e w' => e = .returned (.int .i64 0) ∧ HashOf w' p (t ++ s) ∧ Chg (· = p) w w' := by
  obtain ⟨e1, e2⟩ := absorb_tail h0 t s
  have hl := tailB_length t
  have h := Write_any p (absorb h0 t) (absorb_length _ _ rfl) (tailB t) s t.length w hp (by omega) (by omega)
  rw [e1, e2, ← List.length_append] at h
  exact h
theorem MSumH_any (p : Nat) (t : List UInt8) (w : World) (hp : HashOf w p t) (hn : t.length ≤ 70368744177664) :
    Calls Try.prog 23 #[.pointer (some ⟨p, 0, none⟩)] w fun e w' => e = .returned (.string (bs (shaF t))) ∧ Below w.heap.size w w' := by
  have hl := tailB_length t
  have h := MSum_any p (absorb h0 t) (absorb_length _ _ rfl) (tailB t) t.length w hp (by omega) (by omega)
  rw [shaF_pieces] at h
  exact h
set_option maxRecDepth 100000 in
set_option maxHeartbeats 1000000 in
theorem Sum_any (s : List UInt8) (w : World) (hs : s.length ≤ 70368744177664) :
    Calls Try.prog 15 #[.string (bs s)] w fun e w' => e = .returned (.string (bs (shaF s))) ∧ Below w.heap.size w w' := by
  have HS := Lib.hid hs
  clear hs
  go_enter Try.func15, Try.ntmps15
  go_wp2_with fail
  refine (NewH_any w).mono ?_
  rintro e w1 ⟨b, rfl, hb, hH1, hB1⟩
  have HH1 := Lib.hid hH1
  have HB1 := Lib.hid hB1
  clear hH1 hB1
  go_wp2_with fail
  refine (WriteH_any b [] s _ HH1.out (by have := HS.out; simp; omega)).mono ?_
  rintro e w2 ⟨rfl, hH2, hC2⟩
  rw [List.nil_append] at hH2
  have HH2 := Lib.hid hH2
  have HC2 := Lib.hid hC2
  clear hH2 hC2
  go_wp2_with fail
  refine (MSumH_any b s _ HH2.out HS.out).mono ?_
  rintro e w3 ⟨rfl, hB3⟩
  have HB3 := Lib.hid hB3
  clear hB3
  go_wp2_with fail
  go_ret
  have h2 : Below w.heap.size w w2 := HB1.out.trans (HC2.out.below (fun k hk => by subst hk; exact hb) HB1.out.size)
  exact ⟨rfl, h2.trans (HB3.out.mono h2.size)⟩

set_option maxRecDepth 100000 in
theorem hex_none : hexF (shaF []) = [101, 51, 98, 48, 99, 52, 52, 50, 57, 56, 102, 99, 49, 99, 49, 52, 57, 97, 102, 98, 102, 52, 99, 56, 57, 57, 54, 102, 98, 57, 50, 52, 50, 55, 97, 101, 52, 49, 101, 52, 54, 52, 57, 98, 57, 51, 52, 99, 97, 52, 57, 53, 57, 57, 49, 98, 55, 56, 53, 50, 98, 56, 53, 53] := by decide +kernel
set_option maxRecDepth 100000 in
theorem hex_abc : hexF (shaF [97, 98, 99]) = [98, 97, 55, 56, 49, 54, 98, 102, 56, 102, 48, 49, 99, 102, 101, 97, 52, 49, 52, 49, 52, 48, 100, 101, 53, 100, 97, 101, 50, 50, 50, 51, 98, 48, 48, 51, 54, 49, 97, 51, 57, 54, 49, 55, 55, 97, 57, 99, 98, 52, 49, 48, 102, 102, 54, 49, 102, 50, 48, 48, 49, 53, 97, 100] := by decide +kernel
theorem unh_0G : uV [48, 71] = .tuple #[.string (bs []), .int .i64 7] := uV_none (by decide +kernel)

set_option maxRecDepth 100000 in
set_option maxHeartbeats 2000000 in
theorem alive02 (w : World) : Calls Try.prog 14 #[] w fun e w' => e = .returned (.bool true) ∧ Below w.heap.size w w' := by
  go_enter Try.func14, Try.ntmps14
  go_wp2_with fail
  refine (NewH_any w).mono ?_
  rintro e w1 ⟨b, rfl, hb, hH1, hB1⟩
  have HH1 := Lib.hid hH1
  have HB1 := Lib.hid hB1
  clear hH1 hB1
  go_wp2_with fail
  refine (WriteH_any b [] [97, 98] _ HH1.out (by decide)).mono ?_
  rintro e w2 ⟨rfl, hH2, hC2⟩
  have HH2 := Lib.hid hH2
  have HC2 := Lib.hid hC2
  clear hH2 hC2
  go_wp2_with fail
  refine (WriteH_any b ([] ++ [97, 98]) [99] _ HH2.out (by decide)).mono ?_
  rintro e w3 ⟨rfl, hH3, hC3⟩
  have HH3 := Lib.hid (show HashOf w3 b [97, 98, 99] from hH3)
  have h3 : Below w.heap.size w w3 := HB1.out.trans ((HC2.out.trans hC3).below (fun k hk => by subst hk; exact hb) HB1.out.size)
  have HB3 := Lib.hid h3
  clear hH3 hC3 h3 HB1 HC2 HH2 HH1
  go_wp2_with fail
  refine (Unhex_any [48, 71] _ (by decide)).mono ?_
  rw [unh_0G]
  rintro e w4 ⟨rfl, hB4⟩
  have HH4 := Lib.hid (HH3.out.below hB4)
  have HB4 := Lib.hid (HB3.out.trans (hB4.mono HB3.out.size))
  clear hB4
  go_wp2_with fail
  refine (Sum_any [] _ (by decide)).mono ?_
  rintro e w5 ⟨rfl, hB5⟩
  have HH5 := Lib.hid (HH4.out.below hB5)
  have HB5 := Lib.hid (HB4.out.trans (hB5.mono HB4.out.size))
  clear hB5
  go_wp2_with fail
  refine (Hex_any (shaF []) _ (by rw [shaF_length]; decide)).mono ?_
  rw [hex_none]
  rintro e w6 ⟨rfl, hB6⟩
  have HH6 := Lib.hid (HH5.out.below hB6)
  have HB6 := Lib.hid (HB5.out.trans (hB6.mono HB5.out.size))
  clear hB6
  go_wp2_with fail
  refine (MSumH_any b [97, 98, 99] _ HH6.out (by decide)).mono ?_
  rintro e w7 ⟨rfl, hB7⟩
  have HH7 := Lib.hid (HH6.out.below hB7)
  have HB7 := Lib.hid (HB6.out.trans (hB7.mono HB6.out.size))
  clear hB7
  go_wp2_with fail
  refine (Hex_any (shaF [97, 98, 99]) _ (by rw [shaF_length]; decide)).mono ?_
  rw [hex_abc]
  rintro e w8 ⟨rfl, hB8⟩
  have HH8 := Lib.hid (HH7.out.below hB8)
  have HB8 := Lib.hid (HB7.out.trans (hB8.mono HB7.out.size))
  clear hB8
  go_wp2_with fail
  refine (MSumH_any b [97, 98, 99] _ HH8.out (by decide)).mono ?_
  rintro e w9 ⟨rfl, hB9⟩
  have HB9 := Lib.hid (HB8.out.trans (hB9.mono HB8.out.size))
  clear hB9
  go_wp2_with fail
  refine (Sum_any [97, 98, 99] _ (by decide)).mono ?_
  rintro e wA ⟨rfl, hBA⟩
  have HBA := Lib.hid (HB9.out.trans (hBA.mono HB9.out.size))
  clear hBA
  generalize shaF [97, 98, 99] = D
  go_wp2_with fail
  refine (Write_nil [97] _).mono ?_
  rintro e wB ⟨rfl, hBB⟩
  have HBB := Lib.hid (HBA.out.trans (hBB.mono HBA.out.size))
  clear hBB
  go_wp2_with fail
  refine (MSum_nil _).mono ?_
  rintro e wC ⟨rfl, hBC⟩
  have HBC := Lib.hid (HBB.out.trans (hBC.mono HBB.out.size))
  clear hBC
  go_wp2_with fail
  go_ret
  exact ⟨rfl, HBC.out⟩
end Go.Proofs.Ytdebgkjekcppmaa
