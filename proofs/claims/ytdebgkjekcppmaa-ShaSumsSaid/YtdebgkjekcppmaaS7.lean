/- Walks of package maslinref02: Unhex. -/
import Derived.Test.YtdebgkjekcppmaaS6
namespace Go.Proofs.Ytdebgkjekcppmaa
open Go.RowKit Oct

def unhGo (acc : List UInt8) : List UInt8 → Option (List UInt8)
  | [] => some acc
  | [_] => none
  | a :: b :: r => match dig a, dig b with
    | some x, some y => unhGo (acc ++ [UInt8.ofNat (16 * x + y)]) r
    | _, _ => none
def unhF (l : List UInt8) : Option (List UInt8) := if l.length % 2 ≠ 0 then none else unhGo [] l
def uV (l : List UInt8) : Value := match unhF l with
  | some o => .tuple #[.string (bs o), .int .i64 0]
  | none => .tuple #[.string (bs []), .int .i64 7]
theorem uV_some {l o : List UInt8} (h : unhF l = some o) : uV l = .tuple #[.string (bs o), .int .i64 0] := by rw [uV, h]
theorem uV_none {l : List UInt8} (h : unhF l = none) : uV l = .tuple #[.string (bs []), .int .i64 7] := by rw [uV, h]
theorem unhGo_at (acc l : List UInt8) (k : Nat) (h : k + 1 < l.length) : unhGo acc (l.drop k) = match dig l[k], dig l[k + 1] with
    | some x, some y => unhGo (acc ++ [UInt8.ofNat (16 * x + y)]) (l.drop (k + 2))
    | _, _ => none := by
  rw [List.drop_eq_getElem_cons (show k < l.length by omega), List.drop_eq_getElem_cons h]; rfl

set_option maxRecDepth 100000 in
set_option maxHeartbeats 1000000 in
theorem rUnhex_any (l : List UInt8) (w : World) (hl : l.length ≤ 1099511627776) :
    Calls Try.prog 19 #[.string (bs l)] w fun e w' => e = .returned (uV l) ∧ Below w.heap.size w w' := by
  by_cases hp : l.length % 2 = 0
  · have p1 : (l.length : Int) % 2 = 0 := by omega
    have HP := Lib.hid hp
    have HU := Lib.hid (show unhF l = unhGo [] l by rw [unhF, if_neg (by omega)])
    clear hp
    go_enter Try.func19, Try.ntmps19
    go_wp2
    go_loopw [4, 5] (fun v i wx => ∃ (m : Nat) (out : List UInt8), m ≤ l.length ∧ m % 2 = 0 ∧ i = .int .i64 m ∧ Hid (wx.ownsRow w.heap.size 5 1 v (m / 2) (bcells out)) ∧ Hid (unhF l = unhGo out (l.drop m)) ∧ Hid (Below w.heap.size w wx)) (fun _ i _ => l.length - (intOf i).toNat)
    case atStart => exact ⟨0, [], by omega, by omega, rfl, World.ownsRow_nil _ _ _ _, HU, Below.refl _ _⟩
    case round =>
      obtain ⟨m, out, hj, hm, rfl, HR, HG, HW⟩ := hrel
      obtain ⟨av, cv, rfl⟩ := owns_slice HR.out
      have HM : Hid (m % 2 = 0) := hm
      clear hm
      by_cases hjl : m < l.length
      · have hj1 : m + 1 < l.length := by have := HP.out; have := HM.out; omega
        have hat := unhGo_at out l m hj1
        have k1 : (m : Int) < (l.length : Int) := by omega
        have k0 : (0 : Int) ≤ (m : Int) := by omega
        have k2 : (m : Int) + 1 < (l.length : Int) := by omega
        have k3 : (0 : Int) ≤ (m : Int) + 1 := by omega
        obtain ⟨a, ha⟩ : ∃ a, l[m] = a := ⟨_, rfl⟩
        obtain ⟨b, hb⟩ : ∃ b, l[m + 1] = b := ⟨_, rfl⟩
        rw [ha, hb] at hat
        have Ha := Lib.hid ha
        have Hb := Lib.hid hb
        have HA := Lib.hid hat
        have HJ := Lib.hid hj1
        clear hat ha hb
        go_wp2
        refine region_known [(3, .exact Bel (.int .i64 (rdig a))), (8, .exact Bel (.int .i64 (rdig b)))] (by kernel_rfl) (by kernel_rfl) ?_
        (repeat (first | (refine wpG_skip (by kernel_rfl) (fun K hK => ?_); go_big_quiet_skip; refine wpQuiet_nil (hK _ ?_); clear hK K) | (refine wpG_quiet (by rfl) (by rfl) (fun K hK => ?_); go_big_quiet_want; go_big_quiet_op; go_big_quiet_on; refine wpQuiet_nil (hK _ ?_); clear hK K)))
        refine wpG_exact rfl (by kernel_rfl) (fun w' G hB hS hG => ?_) (fun K hK => ?_)
        · go_simp
          rw [Ha.out]
          exact calls_told hG (rdigit_any _ _)
        go_simp; refine hK _ ?_; clear hK K; (repeat (first | (refine wpG_skip (by kernel_rfl) (fun K hK => ?_); go_big_quiet_skip; refine wpQuiet_nil (hK _ ?_); clear hK K) | (refine wpG_quiet (by rfl) (by rfl) (fun K hK => ?_); go_big_quiet_want; go_big_quiet_op; go_big_quiet_on; refine wpQuiet_nil (hK _ ?_); clear hK K)))
        refine wpG_exact rfl (by kernel_rfl) (fun w' G hB hS hG => ?_) (fun K hK => ?_)
        · go_simp
          rw [Hb.out]
          exact calls_told hG (rdigit_any _ _)
        go_simp; refine hK _ ?_; clear hK K; (repeat (first | (refine wpG_skip (by kernel_rfl) (fun K hK => ?_); go_big_quiet_skip; refine wpQuiet_nil (hK _ ?_); clear hK K) | (refine wpG_quiet (by rfl) (by rfl) (fun K hK => ?_); go_big_quiet_want; go_big_quiet_op; go_big_quiet_on; refine wpQuiet_nil (hK _ ?_); clear hK K)))
        intro w' hB hA
        have HB' := Lib.hid (bt HW.out hB)
        have HR' := Lib.hid (ownsRow_below HR.out hB)
        have hsz : w.heap.size ≤ w'.heap.size := HB'.out.size
        clear hA hB
        cases hda : dig a with
        | none =>
          have HN := Lib.hid (uV_none (l := l) (by rw [HG.out, HA.out, hda]))
          have hra : rdig a = -1 := by rw [rdig, hda]
          rw [hra]
          clear hda
          go_wp2
          go_ret2
          rw [HN.out]
          exact ⟨rfl, HB'.out⟩
        | some x =>
          have hra : rdig a = (x : Int) := by rw [rdig, hda]
          have hx := dig_lt a x hda
          have hx0 : ¬ (x : Int) < 0 := by omega
          rw [hra]
          cases hdb : dig b with
          | none =>
            have HN := Lib.hid (uV_none (l := l) (by rw [HG.out, HA.out, hda, hdb]))
            have hrb : rdig b = -1 := by rw [rdig, hdb]
            rw [hrb]
            clear hda hdb hra hrb
            go_wp2
            go_ret2
            rw [HN.out]
            exact ⟨rfl, HB'.out⟩
          | some y =>
            have hrb : rdig b = (y : Int) := by rw [rdig, hdb]
            have hy := dig_lt b y hdb
            have hy0 : ¬ (y : Int) < 0 := by omega
            have HN := Lib.hid (show unhF l = unhGo (out ++ [UInt8.ofNat (16 * x + y)]) (l.drop (m + 2)) by rw [HG.out, HA.out, hda, hdb])
            have HE := Lib.hid (show 16 * (x : Int) + (y : Int) = ((UInt8.ofNat (16 * x + y)).toNat : Int) by rw [UInt8.toNat_ofNat_of_lt' (by show 16 * x + y < 256; omega)]; norm_cast)
            rw [hrb]
            clear hda hdb hra hrb
            go_wp2_with (at_builtin; refine append1 w' [_] 5 rfl _ _ 75 rfl w.heap.size (.int .u8 0) 1 1 Try.underlying75 infoU8 rfl (by decide) _ _ _ rfl HR'.out _ rfl rfl (by simp [Value.oneCell']) (by omega) (by decide) hsz ?_; intro v' w1 hown1 hB1)
            rw [HE.out, bcells_snoc] at hown1
            refine ⟨⟨_, _, _, _, ⟨m + 2, by have := HJ.out; omega, by have := HM.out; omega, by go_num, out ++ [UInt8.ofNat (16 * x + y)], ?_, HN, HB'.out.trans hB1⟩, rfl, rfl, rfl, rfl⟩, by simp [intOf]; omega⟩
            rw [show (m + 2) / 2 = m / 2 + 1 by have := HM.out; omega]
            exact hown1
      · have hk : m = l.length := by omega
        subst hk
        have HR2 := HR.out
        have HN := Lib.hid (uV_some (l := l) (o := out) (by rw [HG.out, List.drop_length]; rfl))
        have hcv := conv_own 75 9 5 Try.underlying75 Try.underlying5 Try.underlying9 _ _ _ _ _ HR2
        clear HR2
        go_wp2
        go_ret2
        rw [HN.out]
        exact ⟨rfl, HW.out⟩
  · have p1 : (l.length : Int) % 2 = 1 := by omega
    have HN := Lib.hid (uV_none (l := l) (by rw [unhF, if_pos hp]))
    clear hp
    go_enter Try.func19, Try.ntmps19
    go_wp2
    go_ret2
    rw [HN.out]
    exact ⟨rfl, Below.refl _ _⟩
end Go.Proofs.Ytdebgkjekcppmaa
