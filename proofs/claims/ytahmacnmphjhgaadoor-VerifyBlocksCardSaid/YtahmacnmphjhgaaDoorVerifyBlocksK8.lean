/- Lemmas for VerifyBlocks, part 8: walks of the functions that it reaches, and the plain laws behind them. -/
import Derived.Lay
import Derived.LaidMore
import Derived.Lib.LaidU8
import Derived.Test.YtahmacnmphjhgaaDoorVerifyBlocksK7
set_option linter.unusedSimpArgs false
set_option linter.unusedVariables false
namespace Go.Proofs.YtahmacnmphjhgaaDoor
open Go.ChangeShapes Go.WideShapes Go.ChangeAt Go.RowKit Oct

theorem u8_nat {a : Int} (h : (Lit.int .u8 a).wf = true) : ∃ r : UInt8, a = (r.toNat : Int) := by
  have h2 : 0 ≤ a ∧ a < 256 := by
    simp [Lit.wf, IntKind.min, IntKind.max, IntKind.signed, IntKind.bits] at h
    omega
  refine ⟨UInt8.ofNat a.toNat, ?_⟩
  rw [UInt8.toNat_ofNat']
  omega
section
variable {H : Type} {enc : TypeId × Value → H} {W : World}
theorem Opens.mapV {P : Program} {α β : Type} {t : TypeId} {mu : α → Nat} {mu' : β → Nat} {He : List Value → α → Prop} {He' : List Value → β → Prop} (h : Opens enc P W t mu He) (hi : ∀ cs x, He cs x → ∃ y, He' cs y ∧ mu' y ≤ mu x) : Opens enc P W t mu' He' := by
  intro n cs d ps hd hw
  obtain ⟨x, hx, hb⟩ := h n cs d ps hd hw
  obtain ⟨y, hy, hm⟩ := hi _ _ hx
  exact ⟨y, hy, Nat.le_trans hm hb⟩
theorem opens_ins : Opens enc Tryd.prog W 33 (fun _ : VI => 0) fun cs x => cs = recIns.cell x := by
  refine Opens.mapV (opens_struct2 (c0 := 1) (c1 := 1) Tryd.underlying33 (by kernel_rfl) (by kernel_rfl) (by kernel_rfl) rfl rfl (opens_int (k := .u8) Tryd.underlying5) (opens_int (k := .u8) Tryd.underlying5)) ?_
  rintro cs ⟨a, b⟩ ⟨cs0, cs1, rfl, _, _, ⟨rfl, h0⟩, rfl, h1⟩
  obtain ⟨r0, rfl⟩ := u8_nat h0
  obtain ⟨r1, rfl⟩ := u8_nat h1
  exact ⟨(r0, r1), rfl, Nat.zero_le _⟩
set_option maxRecDepth 100000 in
theorem open_prog {base j : Nat} {v : Value} {d : DataW H} {ps : List MemPlace} {ts : List TypeId} {ds : List (DataW H)}
    (hv : Value.okWide Tryd.prog W .any base 25 v) (h : DataW.Trod enc Tryd.prog W 0 (fun _ => true) true 25 v d ps) (hsz : (DataW.weightsEach Tryd.prog ts ds).all (· ≤ reachBytes) = true) (hj : ts[j]? = some 25) (hd : ds[j]? = some d) :
    ∃ (tv cv : Value) (texts : List (List UInt8)) (code : List VI), v = .agg #[tv, cv] ∧ ProgR W tv cv texts code := by
  have h3 := reachBytes_lt
  have o1 : Opens enc Tryd.prog W 22 _ _ := opens_slice (size := 1) Tryd.underlying22 (by kernel_rfl) (by decide) (opens_str Tryd.underlying9)
  have o2 : Opens enc Tryd.prog W 23 _ _ := opens_slice (size := 2) Tryd.underlying23 (by kernel_rfl) (by decide) opens_ins
  obtain ⟨⟨texts, code⟩, ⟨cs0, cs1, hcs, _, _, ⟨tv, rfl, h1, h2⟩, cv, rfl, h4, h5⟩, _⟩ := open_any (opens_struct2 (c0 := 1) (c1 := 1) Tryd.underlying25 (by kernel_rfl) (by kernel_rfl) (by kernel_rfl) rfl rfl o1 o2) h hsz hj hd
  have hb1 : Tryd.prog.bytesOf 9 = 16 := by kernel_rfl
  have hb2 : Tryd.prog.bytesOf 33 = 2 := by kernel_rfl
  rw [hb1] at h2
  rw [hb2] at h5
  obtain ⟨r1, r2⟩ := rec_of recS (fun cs x h => h.1) h1
  obtain ⟨r3, _⟩ := rec_of recIns (fun cs x h => h) h4
  obtain ⟨cs, rfl, hsize⟩ := okWide_struct Tryd.underlying25 hv
  refine ⟨tv, cv, texts, code, ?_, ⟨r1, r3, ?_, ?_, fun s hs => by obtain ⟨cs, _, h⟩ := r2 s hs; exact h⟩⟩
  · have e : cs.toList = [tv, cv] := by simpa [Value.cells] using hcs
    rw [show cs = #[tv, cv] from by rw [← Array.toArray_toList (xs := cs), e]]
  · have h2' : texts.length * 16 ≤ reachBytes := h2
    omega
  · have h5' : code.length * 2 ≤ reachBytes := h5
    omega
end

/-- what is listed of the package's variables -/
def laidV : List (String × DataW Unit) := [("unicode/utf8.acceptRanges", Rows.laid_unicode_utf8_acceptRanges), ("maslin/verify.effects", Rows.laid_maslin_verify_effects), ("unicode/utf8.first", Rows.laid_unicode_utf8_first)]
theorem laid_effs : Rows.laid_maslin_verify_effects (H := Unit) = .agg (effs.map fun e => .agg [.lit (.string e.1), .lit (.string e.2)]) := by kernel_rfl
theorem str_eqV {s : ByteArray} {l : List UInt8} (h : s.data.toList = l) : Value.string s = .string (bs l) := by subst h; rw [bs_of]
set_option maxRecDepth 100000 in
theorem eff_of_laid {W : World} (h : laidMetH Tryd.prog laidV W) : EffM W ∧ 0 < W.heap.size := by
  rw [MakeChecks.laidMetH_plain _ _ _ (by kernel_rfl)] at h
  obtain ⟨g, t, cs, fuel, p, hg, ht, hv, hd⟩ := Lib.laidMet.reads (n := "maslin/verify.effects") (d := Rows.laid_maslin_verify_effects) h (.tail _ (.head _))
  obtain rfl := Option.some.inj ((show Tryd.prog.globalNamed "maslin/verify.effects" = some 0 by kernel_rfl).symm.trans hg)
  obtain rfl := Option.some.inj ((show (Tryd.prog.globals[0]?).map (·.type) = some 86 by kernel_rfl).symm.trans ht)
  rw [laid_effs] at hd
  obtain ⟨xs, m, _, ex, _, hl, hel⟩ := DataW.trod_array Tryd.underlying86 hd
  have c2 : Tryd.prog.cellsOf 85 = 2 := by kernel_rfl
  have c1 : Tryd.prog.cellsOf 9 = 1 := by kernel_rfl
  have e3 : xs.map (·.1) = effs.map fun e => .agg [.lit (.string e.1), .lit (.string e.2)] := (DataW.agg.inj (Prod.mk.inj ex).1).symm
  have key : EffM W := by
    intro k hk
    have hE := hel k hk
    rw [c2, List.getElem?_eq_getElem (by omega)] at hE
    have hlen : effs.length = 24 := effs_len
    have e4 : (xs.map (·.1))[k]? = (effs.map fun e => (DataW.agg [.lit (.string e.1), .lit (.string e.2)] : DataW Unit))[k]? := by rw [e3]
    rw [List.getElem?_map, List.getElem?_map, List.getElem?_eq_getElem (by omega : k < xs.length), List.getElem?_eq_getElem (by omega : k < effs.length)] at e4
    obtain ⟨y0, y1, n, hx, _, t0, t1⟩ := trod_struct2 Tryd.underlying85 hE
    obtain ⟨s0, q0, hy0, _⟩ := DataW.trod_string Tryd.underlying9 t0
    obtain ⟨s1, q1, hy1, _⟩ := DataW.trod_string Tryd.underlying9 t1
    rw [hx, hy0, hy1] at e4
    simp only [Option.map_some, Option.some.injEq, DataW.agg.injEq, List.cons.injEq, DataW.lit.injEq, Lit.string.injEq, and_true] at e4
    have hd' : effs.getD k ([], []) = effs[k]'(by omega) := by rw [List.getD, List.getElem?_eq_getElem (by omega : k < effs.length)]; rfl
    rw [World.var?_cell hg hv, World.var?_cell hg hv, hd']
    rw [c1] at q0 q1
    have p0 : cs.toList[k * 2]? = some (.string s0) := by
      have : ((((cs.toList.drop (k * 2)).take 2).drop 0).take 1)[0]? = some (.string s0) := by rw [q0]; rfl
      simpa using this
    have p1 : cs.toList[k * 2 + 1]? = some (.string s1) := by
      have : ((((cs.toList.drop (k * 2)).take 2).drop 1).take 1)[0]? = some (.string s1) := by rw [q1]; rfl
      simpa using this
    refine ⟨?_, ?_⟩
    · rw [← str_eqV e4.1]; simpa using p0
    · rw [← str_eqV e4.2]; simpa using p1
  refine ⟨key, ?_⟩
  have := (key 0 (by decide)).1
  rcases Nat.lt_or_ge 0 W.heap.size with hn | hn
  · exact hn
  · exfalso
    rw [World.cell?, Array.getElem?_eq_none hn] at this
    cases this
end Go.Proofs.YtahmacnmphjhgaaDoor
