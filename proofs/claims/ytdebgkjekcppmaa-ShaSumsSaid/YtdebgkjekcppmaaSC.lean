/- Walks of package sha: the method Sum. -/
import Derived.Test.YtdebgkjekcppmaaSA
import Derived.Test.YtdebgkjekcppmaaB2
import Derived.Test.YtdebgkjekcppmaaE0
namespace Go.Proofs.Ytdebgkjekcppmaa
open Go.RowKit Oct
attribute [local go_sem] Oper.semAt_some

set_option maxRecDepth 100000 in
set_option maxHeartbeats 1000000 in
theorem MSum_nil (w : World) : Calls Try.prog 23 #[.pointer none] w fun e w' => e = .returned (.string (bs [])) ∧ Below w.heap.size w w' := by
  go_enter Try.func23, Try.ntmps23
  go_wp2
  go_ret
  exact ⟨rfl, b_refl _⟩

theorem hcells_one (h : List UInt32) (r : List UInt8) (n : Int) : (hcells h r n).toArray.all (·.oneCell') = true := by
  rw [List.all_toArray, List.all_eq_true]; intro v hv
  simp only [hcells, ucells, List.mem_append, List.mem_map, List.mem_cons, List.not_mem_nil, or_false] at hv
  rcases hv with ⟨x, _, rfl⟩ | rfl | rfl <;> rfl
theorem blk_storeK {P : Program} {ops : Array Oper} {rest : List Oper} {op : Oper} {a : Act} {w : World} {Q : Exit → Act → World → Prop} (b : Nat) (cs cs' : List Value) {t : TypeId} (h : Blk w b t cs) (hgd : op.guard = none) (ty : TypeId) (x y : Operand) (ho : op.op = .store ty x y) (hx : a.eval x = .pointer (some ⟨b, 0, none⟩))
    (hy : a.eval y = .agg cs'.toArray) (hi : (P.info? ty).map (·.size) = some cs'.length) (hl : cs.length = cs'.length) (h1 : cs'.toArray.all (·.oneCell') = true)
    (k : ∀ w', Hid (w.setRow b cs'.toArray = w') → wpList P ops Q rest (a.put op.dst undef) w') : wpList P ops Q (op :: rest) a w :=
  blk_store b cs cs' h hgd ty x y ho hx hy hi hl h1 (k _ rfl)
theorem msum_w1 {p : Nat} {h : List UInt32} {r : List UInt8} {n : Int} {w w1 : World} (hl : h.length = 8) (hp : Blk w p 89 (hcells h r n)) (hw : (w.alloc (.cells #[.int .u32 0, .int .u32 0, .int .u32 0, .int .u32 0, .int .u32 0, .int .u32 0, .int .u32 0, .int .u32 0, .string ⟨#[]⟩, .int .u64 0] 89)).setRow w.heap.size (hcells h r n).toArray = w1) :
    Below w.heap.size w w1 ∧ w1.heap.size = w.heap.size + 1 ∧ Blk w1 w.heap.size 89 (hcells h r n) ∧ w1.cell? ⟨p, 9, none⟩ = some (.int .u64 n) ∧ w1.cell? ⟨w.heap.size, 8, none⟩ = some (.string (bs r)) := by
  have hz : Blk (w.alloc (.cells #[.int .u32 0, .int .u32 0, .int .u32 0, .int .u32 0, .int .u32 0, .int .u32 0, .int .u32 0, .int .u32 0, .string ⟨#[]⟩, .int .u64 0] 89)) w.heap.size 89 (hcells (zrow 8) [] 0) := Blk.new w (hcells (zrow 8) [] 0) _
  have hB : Below w.heap.size w w1 := by rw [← hw]; exact below_setRow (b_alloc w _) (Nat.le_refl _) _
  have hb : Blk w1 w.heap.size 89 (hcells h r n) := by rw [← hw]; exact hz.row _
  exact ⟨hB, by rw [← hw, setRow_size]; simp, hb, (hp.below hB).cell (hcells_n h r n hl), hb.cell (hcells_rest h r n hl)⟩
theorem conv_E (w : World) (s : ByteArray) (l : List UInt8) (hs : s = bs l) (hl : l.length ≤ maxLen) : ∃ g cap w', (convert 9 75 (.string s)).run Try.prog w = .ok (.slice (some ⟨g, 0, none⟩) l.length cap) w' ∧ OwnE w' w.heap.size 5 (.slice (some ⟨g, 0, none⟩) l.length cap) l ∧ Below w.heap.size w w' := by
  subst hs
  have := Lib.run_convert_string_bytes (P := Try.prog) w 9 75 5 (bs l) Try.underlying9 Try.underlying75 Try.underlying5
  rw [bs_size] at this
  exact ⟨_, _, _, this, by have h := OwnE.new w 5 l hl; rw [bs_size] at h; exact h, below_bytes _ _ _⟩
def vlen : Value → Nat
  | .slice _ n _ => n
  | _ => 0
theorem zc_le (n : Nat) : zc n ≤ 63 := by unfold zc; omega
theorem zc_mod (n k : Nat) (h : k < zc n) : (n + 1 + k) % 64 ≠ 56 := by unfold zc at h; omega
theorem zc_end (n : Nat) : (n + 1 + zc n) % 64 = 56 := by unfold zc; omega
/-- the text with its mark and k zero bytes -/
def zpad (r : List UInt8) (k : Nat) : List UInt8 := r ++ [0x80] ++ List.replicate k 0
theorem zpad_length (r : List UInt8) (k : Nat) : (zpad r k).length = r.length + 1 + k := by simp [zpad]; omega
theorem zpad_succ (r : List UInt8) (k : Nat) : zpad r k ++ [0] = zpad r (k + 1) := by simp [zpad, List.replicate_succ']
theorem zpad_one (r : List UInt8) : bs r ++ ⟨#[128]⟩ = bs (zpad r 0) := by
  have e : (⟨#[128]⟩ : ByteArray) = bs [128] := rfl
  rw [e, bs_append]; simp [zpad]
theorem be8_step (n j : Nat) (hj : j < 8) : (be8 n).take (j + 1) = (be8 n).take j ++ [(be8 n).getD j 0] := by
  have hl : (be8 n).length = 8 := rfl
  rw [List.take_succ_eq_append_getElem (by omega), List.getD_eq_getElem?_getD, List.getElem?_eq_getElem (by omega), Option.getD_some]
def be8_num (n : Nat) : Nat → Nat
  | 0 => n / 72057594037927936 % 256
  | 1 => n / 281474976710656 % 256
  | 2 => n / 1099511627776 % 256
  | 3 => n / 4294967296 % 256
  | 4 => n / 16777216 % 256
  | 5 => n / 65536 % 256
  | 6 => n / 256 % 256
  | _ => n % 256
theorem be8_val (n j : Nat) (z : Int) (hj : j < 8) (hz : z = (be8_num (8 * n) j : Nat)) : Value.int .u8 z = .int .u8 (((be8 (8 * n)).getD j 0).toNat : Int) := by
  rw [hz]
  match j, hj with
  | 0, _ | 1, _ | 2, _ | 3, _ | 4, _ | 5, _ | 6, _ | 7, _ => exact v_int (congrArg Int.ofNat (UInt8.toNat_ofNat' ..).symm)
theorem bld_lt {B b : Nat} {l : List UInt8} {w : World} (h : Bld B b l w) : b < w.heap.size := h.2.elim (fun h => h.lt) (fun h => h.lt)
theorem outB_all (V : List UInt32) (h : V.length = 8) : outB (V.take 8) = outB V := by rw [List.take_of_length_le (by omega)]
theorem wb_blk (w : World) (x : UInt32) : Blk (w.alloc (.cells #[.int .u8 (U x / 16777216), .int .u8 (U x / 65536 % 256), .int .u8 (U x / 256 % 256), .int .u8 (U x % 256)] 5)) w.heap.size 5 (bcells (wb x)) := by
  have e : (#[.int .u8 (U x / 16777216), .int .u8 (U x / 65536 % 256), .int .u8 (U x / 256 % 256), .int .u8 (U x % 256)] : Array Value) = (bcells (wb x)).toArray := by
    have := U_lt x
    simp only [bcells, wb, List.map_cons, List.map_nil, U_nat]
    congr 1
    refine congr (congrArg _ (v_int ?_)) (congr (congrArg _ (v_int ?_)) (congr (congrArg _ (v_int ?_)) (congrArg (fun v => [v]) (v_int ?_))))
    all_goals
      rw [UInt8.toNat_ofNat']
      omega
  rw [e]
  exact Blk.new w _ _
theorem reads_blk {w : World} {g : Nat} {e : TypeId} {m : List UInt8} (h : Blk w g e (bcells m)) (c : Nat) : Reads w (.slice (some ⟨g, 0, none⟩) m.length c) m.length (bcells m) :=
  ⟨_, _, rfl, (by simp), fun j u hj => ⟨g, 0, rfl, by rw [Nat.zero_add]; exact h.cell hj⟩⟩
set_option maxRecDepth 100000 in
set_option maxHeartbeats 2000000 in
theorem MSum_any (p : Nat) (h : List UInt32) (hl : h.length = 8) (r : List UInt8) (n : Nat) (w : World) (hp : Blk w p 89 (hcells h r n)) (hn : n ≤ 140737488355328) (hr : r.length ≤ 64) :
    Calls Try.prog 23 #[.pointer (some ⟨p, 0, none⟩)] w fun e w' => e = .returned (.string (bs (outB (absorb h (padTail r n))))) ∧ Below w.heap.size w w' := by
  have c9 := hp.cell (hcells_n h r n hl)
  have hlt := hp.lt
  have HP := Lib.hid hp
  have HL := Lib.hid hl
  have HI := Lib.hid (show (Try.prog.info? 89).map (·.size) = some (hcells h r n).length by rw [hcells_length _ _ _ hl]; kernel_rfl)
  clear hp hl
  refine calls_of_wp_marks Try.func23 rfl ?_
  simp only [Try.ntmps23, List.size_toArray, List.length_cons, List.length_nil, Nat.reduceAdd, Nat.reduceSub, Array.replicate_succ, Array.replicate_zero, List.push_toArray, List.append_toArray, List.nil_append, List.cons_append]
  have hz : Blk (w.alloc (.cells #[.int .u32 0, .int .u32 0, .int .u32 0, .int .u32 0, .int .u32 0, .int .u32 0, .int .u32 0, .int .u32 0, .string ⟨#[]⟩, .int .u64 0] 89)) w.heap.size 89 (hcells (zrow 8) [] 0) := Blk.new w (hcells (zrow 8) [] 0) _
  have HZ := Lib.hid hz
  clear hz
  have HLL := Lib.hid (show (hcells (zrow 8) [] 0).length = (hcells h r n).length by rw [hcells_length _ _ _ HL.out]; rfl)
  go_wp2_with first | (refine blk_load p (hcells h r n) HP.out _ rfl _ _ rfl rfl Try.underlying89 rfl HI.out ?_) | (refine blk_storeK w.heap.size (hcells (zrow 8) [] 0) (hcells h r n) HZ.out rfl _ _ _ rfl rfl rfl HI.out HLL.out (hcells_one _ _ _) ?_)
  intro w1 hw1
  obtain ⟨hB1, hs1, hb1, c19, c18⟩ := msum_w1 HL.out HP.out hw1.out
  have HB1 := Lib.hid hB1
  have HC1 := Lib.hid hb1
  have HS1 := Lib.hid hs1
  have hs1' : w.heap.size < w1.heap.size := by omega
  clear hs1
  clear hw1 hB1 hb1 HZ HLL c9
  go_wp2
  obtain ⟨g2, cap2, w2, hcv, hO2, hB2⟩ := conv_E w1 _ _ (zpad_one r) (by rw [zpad_length]; unfold maxLen; omega)
  rw [zpad_length] at hcv hO2
  have HO2 := Lib.hid hO2
  have HB2 := Lib.hid hB2
  have hs2 := hB2.size
  rw [hcv]
  clear hcv hO2 hB2 c18 c19
  go_wp2
  go_loopw [5] (fun v wx => ∃ (k g cap : Nat), k ≤ zc r.length ∧ v = .slice (some ⟨g, 0, none⟩) (r.length + 1 + k) cap ∧ Hid (OwnE wx w1.heap.size 5 (.slice (some ⟨g, 0, none⟩) (r.length + 1 + k) cap) (zpad r k)) ∧ Hid (Below w1.heap.size w1 wx)) (fun v _ => 200 - vlen v)
  case atStart => exact ⟨0, g2, cap2, Nat.zero_le _, rfl, HO2, HB2⟩
  case round =>
    obtain ⟨k, g, cap, hk, rfl, HO, HB⟩ := hrel
    have hz := zc_le r.length
    have hsz := HB.out.size
    by_cases hkz : k < zc r.length
    · have m1 : ((r.length : Int) + 1 + (k : Int)) % 64 ≠ 56 := by have := zc_mod r.length k hkz; omega
      have m2 : (((r.length : Int) + 1 + (k : Int)) % 64 != 56) = true := by simpa using m1
      have HZ := Lib.hid hz
      have HK := Lib.hid hkz
      clear hz hkz hk
      go_wp2_with (at_builtin; go_loud (refine append1E wr 0 5 rfl _ _ 75 rfl w1.heap.size Try.underlying75 infoU8 (.slice (some ⟨g, 0, none⟩) (r.length + 1 + k) cap) (zpad r k) _ (zpad_length r k) _ (by rfl) HO.out rfl _ rfl (by have := HZ.out; have := HK.out; omega) (by omega) ?_))
      intro g3 cap3 w3 hO3 hB3
      rw [zpad_succ] at hO3
      go_wp2
      go_roundw
      case rel => exact ⟨k + 1, g3, cap3, HK.out, rfl, hO3, HB.out.trans hB3⟩
      case measure => simp [vlen]; have := HZ.out; have := HK.out; omega
    · obtain rfl : k = zc r.length := by omega
      have m1 : (r.length + 1 + zc r.length : Int) % 64 = 56 := by have := zc_end r.length; omega
      have HZ := Lib.hid hz
      obtain ⟨M, hM⟩ : ∃ M, M = r.length + 1 + zc r.length := ⟨_, rfl⟩
      have hMi : (M : Int) % 64 = 56 := by rw [hM]; push_cast; exact m1
      rw [← hM] at HO ⊢
      have HM := Lib.hid hM
      have HZP := Lib.hid (show (zpad r (zc r.length)).length = M by rw [zpad_length, hM])
      have hM2 : M ≤ 200 := by omega
      obtain ⟨Z, hZ⟩ : ∃ Z, Z = zpad r (zc r.length) := ⟨_, rfl⟩
      rw [← hZ] at HO HZP
      have HZD := Lib.hid hZ
      clear hk hkz m1 hM hz hZ HB2 HO2 hMi
      have hMi : (M : Int) % 64 = 56 := by have := HM.out; have := zc_end r.length; omega
      go_wp2
      clear hMi
      go_loopw [5, 6] (fun v i wx => ∃ (j g cap : Nat), j ≤ 8 ∧ i = .int .i64 (56 - 8 * (j : Int)) ∧ v = .slice (some ⟨g, 0, none⟩) (M + j) cap ∧ Hid (OwnE wx w1.heap.size 5 (.slice (some ⟨g, 0, none⟩) (M + j) cap) (Z ++ (be8 (8 * n)).take j)) ∧ Hid (Below w1.heap.size w1 wx)) (fun v _ _ => 300 - vlen v)
      case atStart => exact ⟨0, g, cap, by omega, rfl, rfl, by simpa using HO, HB⟩
      case round =>
        clear HO HB
        obtain ⟨j, g, cap, hj, rfl, rfl, HO, HB⟩ := hrel
        have hsz := HB.out.size
        have HL2 := Lib.hid (show (Z ++ (be8 (8 * n)).take j).length = M + j by rw [List.length_append, HZP.out, List.length_take]; simp [be8]; omega)
        by_cases hj8 : j < 8
        · have HBE := Lib.hid (be8_step (8 * n) j hj8)
          have HJ := Lib.hid hj8
          clear hj8 hj
          have hj := HJ.out
          obtain ⟨jn, hjn⟩ : ∃ jn, jn = j + 1 := ⟨_, rfl⟩
          have HJN := Lib.hid hjn
          clear hjn
          rcases (by omega : j = 0 ∨ j = 1 ∨ j = 2 ∨ j = 3 ∨ j = 4 ∨ j = 5 ∨ j = 6 ∨ j = 7) with rfl | rfl | rfl | rfl | rfl | rfl | rfl | rfl
          all_goals
            clear hj
            go_wp2_with (at_builtin; go_must (refine append1E wr _ 5 rfl _ _ 75 rfl w1.heap.size Try.underlying75 infoU8 _ _ _ HL2.out _ (be8_val n _ _ HJ.out (by simp only [be8_num]; omega)) HO.out rfl _ rfl (by omega) hsz ?_))
            intro g3 cap3 w3 hO3 hB3
            have HO3 := Lib.hid hO3
            clear hO3
            go_wp2
            have hjn := HJN.out
            refine ⟨⟨jn, g3, cap3, by omega, ?_, ?_, ?_, HB.out.trans hB3⟩, by simp [vlen]; omega⟩
            all_goals (subst hjn; first | rfl | exact HO3)
        · obtain rfl : j = 8 := by omega
          have hpt : Z ++ (be8 (8 * n)).take 8 = padTail r n := by rw [HZD.out]; rfl
          rw [hpt] at HO
          have hcv := conv_ownE 75 9 5 Try.underlying75 Try.underlying5 Try.underlying9 wr _ _ _ HO.out
          have HPM := Lib.hid (padTail_mod r n)
          have HPL := Lib.hid (show (padTail r n).length ≤ 300 by rw [← hpt]; have := HL2.out; omega)
          obtain ⟨T, hT⟩ : ∃ T, T = padTail r n := ⟨_, rfl⟩
          rw [← hT] at hcv HPM HPL
          have HT := Lib.hid hT
          have HC2 := Lib.hid (HC1.out.below HB.out)
          have HBB := Lib.hid (HB1.out.trans (HB.out.mono (by omega)))
          have c8 := HC2.out.cell (hcells_rest h r n HL.out)
          have f8 := HC2.out.free (k := 8) (by rw [hcells_length _ _ _ HL.out]; omega)
          clear hT hpt HO HL2 hj hj8 HB
          go_wp2_with fail
          obtain ⟨C, hC⟩ : ∃ C, C = w.heap.size := ⟨_, rfl⟩
          rw [← hC] at HC2 c8 f8 ⊢
          obtain ⟨w4, hw4⟩ : ∃ w4, w4 = wr.setCell ⟨C, 8, none⟩ (.string (bs T)) := ⟨_, rfl⟩
          rw [← hw4]
          have hB4 : Below w.heap.size w w4 := by rw [hw4]; exact HBB.out.setCell (p := ⟨C, 8, none⟩) (by show w.heap.size ≤ C; omega) _
          have hp4 : Blk w4 C 89 (hcells h T n) := by
            rw [hw4]
            have := HC2.out.set 8 (.string (bs T))
            rw [hcells_set8 _ _ _ _ HL.out] at this
            exact this
          have HP4 := Lib.hid hp4
          have HB4 := Lib.hid hB4
          have hlt4 := hp4.lt
          have HCE := Lib.hid hC
          clear hw4 hB4 hp4 hcv c8 f8 HC2 HBB hC
          refine (blocks_any C w4).mono ?_
          rintro e w5 ⟨b, rfl, hbs, hb5, hB5⟩
          have HP5 := Lib.hid (HP4.out.below hB5)
          have HB5 := Lib.hid (HB4.out.trans (hB5.mono HB4.out.size))
          have hs5 := hB5.size
          have hlt5 := hb5.lt
          have HX5 := Lib.hid hb5
          have hbp : b ≠ C := by omega
          obtain ⟨N, hN⟩ : ∃ N : Int, N = (n : Int) := ⟨_, rfl⟩
          rw [← hN] at HP5
          have HN := Lib.hid hN
          clear hb5 hB5 hN HP4
          go_wp2_with fail
          refine wp_rangeG (D := w5.heap.size) rfl (gf := 89) (lb := #[.pointer (some ⟨b, 0, none⟩)]) rfl (enters_of Try.func89 (by kernel_rfl) rfl)
            (Xr := XrP C) (Yr := YrP C b) (Fin := fun U => ∃ h', h'.length = 8 ∧ Blk U C 89 (hcells h' (tailB T) N)) (El := ElS) (out := chunks T) (XrP.keep (by omega)) (YrP.comp (by omega) (by omega)) (fun U U' h hc => fin_d (by omega) _ _ U U' h hc)
            (fun W hW => blocks_iter 2 C b h HL.out T N W (HX5.out.below hW) (HP5.out.below hW) hbp (by have := HPL.out; omega))
            (fun x vs U h => by rw [h.1]; rfl) (fun x vs U U' h _ => h)
            (WrI C C b (.pointer (some ⟨C, 0, none⟩)) 30 h N w) (fun _ _ _ => False) (fun pre U U' h hx => h.x HL.out (by omega) hx) (fun pre U U' h hx => h.d (by omega) (by omega) (by omega) hx) (fun _ _ _ _ h _ => h.elim) (fun _ _ _ _ h _ => h.elim)
            ⟨⟨_, HP5.out⟩, HX5.out, Chg.of_base HB5.out fun k hk => .inr (by have := HCE.out; omega)⟩ ?round ?done ?stop
          case round =>
            rintro l pre x vs U _ ⟨rfl, hx64⟩ hpre
            gi_wp2
            refine ⟨Below.refl _ _, ?_⟩
            rintro U2 h2 ⟨⟨rest, hB⟩, hbx, hcw⟩ _ hcU
            have HBx := Lib.hid hbx
            have HBp := Lib.hid hB
            have HCw := Lib.hid hcw
            clear hbx hB hcw hcU hpre
            gi_wp2
            refine ⟨trivial, CallsIn.inRound _ (callsIn_wide.2 ((block_any C _ (foldl_length h pre HL.out) rest N x (by omega) U2 HBp.out).mono ?_))⟩
            rintro e U3 ⟨rfl, hB3, hC3⟩
            gi_wp2
            refine ⟨KeepD.of_chg hC3 fun k hk e => by subst e; omega, YrP.of_block hbp (foldl_length h pre HL.out) (blockF_length _ _ (foldl_length h pre HL.out)) HBp.out hB3 hC3, WrI.step (by omega) HBx.out HCw.out hB3 hC3⟩
          case done =>
            rintro W h2 hI hF hK
            have hE := hI.fin HL.out hF
            have hC := Lib.hid hI.2.2
            have hV := absorb_length h T HL.out
            have hltC := hE.lt
            obtain ⟨V, hVV⟩ : ∃ V, V = absorb h T := ⟨_, rfl⟩
            rw [← hVV] at hE hV
            have HV := Lib.hid hVV
            have HVL := Lib.hid hV
            have HE := Lib.hid hE
            have HR := Lib.hid (show World.rangeAt W C 0 (ucells V) from fun j v hv => by rw [Nat.zero_add]; exact hE.cell (by rw [hcells, List.getElem?_append_left (by exact (List.getElem?_eq_some_iff.1 hv).1)]; exact hv))
            have HIV := Lib.hid (show (Try.prog.info? 86).map (·.size) = some (ucells V).length by rw [ucells_length, hV]; kernel_rfl)
            clear hI hF hE hV hVV
            go_wp2_with (refine wpList_load_mid rfl 86 _ rfl C 0 rfl (ucells V) (.array 8 85) (World.rangeAt_alloc HR.out _) (by kernel_rfl) rfl HIV.out ?_)
            obtain ⟨W1, hW1⟩ : ∃ W1, W1 = W.alloc (.cells #[.pointer none, .slice none 0 0] 77) := ⟨_, rfl⟩
            have hBld : Bld W.heap.size W.heap.size [] W1 := by rw [hW1]; exact Bld.fresh W
            have hBW : Below W.heap.size W W1 := by rw [hW1]; exact b_alloc _ _
            rw [← hW1]
            have HBld := Lib.hid hBld
            have HBW := Lib.hid hBW
            clear hW1 hBld hBW HR HE
            go_loopw [52] (fun t ux => ∃ k : Nat, k ≤ 8 ∧ t = .int .i64 k ∧ Hid (Bld W.heap.size W.heap.size (outB (V.take k)) ux) ∧ Hid (Below W.heap.size W ux)) (fun t _ => 8 - (intOf t).toNat)
            case atStart => exact ⟨0, by omega, rfl, HBld, HBW⟩
            case round =>
              clear HBld HBW
              obtain ⟨k, hk, rfl, HBl, HBx⟩ := hrel
              by_cases hk8 : k < 8
              · have k1 : (k : Int) < 8 := by omega
                have k0 : (0 : Int) ≤ (k : Int) := by omega
                have hix := index8 V HVL.out k hk8
                have HOT := Lib.hid (outB_take V k (by rw [HVL.out]; exact hk8))
                have HLen := Lib.hid (show (outB (V.take k)).length ≤ 40 by rw [outB_length, List.length_take]; omega)
                generalize V.getD k 0 = x at *
                have hx1 : U x < 4294967296 := by have := U_lt x; rw [U_nat]; omega
                have hx0 : 0 ≤ U x := by rw [U_nat]; omega
                go_wp2_with fail
                have hm := wb_blk wr x
                have hsz4 := HBx.out.size
                refine (Write_kept W.heap.size W.heap.size (outB (V.take k)) (wb x) (.slice (some ⟨wr.heap.size, 0, none⟩) 4 4) _ (HBl.out.below (b_alloc _ _)) (reads_blk hm 4) (fun w1 hc => reads_blk (hm.chg hc (by have := bld_lt HBl.out; omega)) 4) (by have := HLen.out; show _ + 4 ≤ _; omega)).mono ?_
                rintro e w7 ⟨rfl, hBl7, hB7, _⟩
                rw [← HOT.out] at hBl7
                have HB7 := Lib.hid hBl7
                have HBx7 := Lib.hid (HBx.out.trans ((b_alloc wr _).mono hsz4 |>.trans hB7))
                clear hm hB7 hBl7
                go_wp2_with fail
                exact ⟨⟨k + 1, by omega, by go_num, HB7.out, HBx7.out⟩, by simp [intOf]; omega⟩
              · obtain rfl : k = 8 := by omega
                have hout := outB_all V HVL.out
                have HO8 := Lib.hid hout
                clear hout
                go_wp2_with fail
                refine (BString_any W.heap.size W.heap.size _ wr HBl.out).mono ?_
                rintro e w7 ⟨rfl, hB7⟩
                have HB7 := Lib.hid (HBx.out.trans hB7)
                clear hB7
                go_wp2_with fail
                have hD : w7.heap[w5.heap.size]? = some (.deferred (some [])) := (HB7.out.block w5.heap.size (by omega)).trans hK
                refine marks_ret (D := w5.heap.size) rfl hD (results_tmp rfl _ _ _) ⟨?_, ?_⟩
                · show Ending.returned (.string (bs (outB (V.take 8)))) = _
                  rw [HO8.out, HV.out, HT.out]
                · have h1 := hC.out.trans ((Chg.of_base HB7.out (X := fun k => k = C ∨ C ≤ k) fun k hk => .inr (by omega)).trans (Chg.putObj (X := fun k => k = C ∨ C ≤ k) w7 w5.heap.size (.deferred none) (.inr (by omega))))
                  exact ⟨h1.os, h1.tape, h1.output, h1.size, fun k hk => h1.block k hk (by have := HCE.out; omega)⟩
          case stop => exact fun _ _ _ _ _ h _ => h.elim
end Go.Proofs.Ytdebgkjekcppmaa
