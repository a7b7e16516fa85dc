/- Lemmas for VerifyTells, part 8: walks of the functions that it reaches, and the plain laws behind them. -/
import Derived.ProofKit
import Derived.OpenShut
import Derived.ShutString
import Derived.ChangeOld
import Derived.SizedLaws
import Derived.SliceStrings
import Derived.Test.YtahmacnmphjhgaaDoorRows
import Derived.Deep.Slices
import Derived.ChangeSame
import Derived.Lay
import Derived.LaidMore
import Derived.Lib.LaidU8
import Derived.Test.YtahmacnmphjhgaaDoorVerifyTellsK7
set_option linter.unusedSimpArgs false
set_option linter.unusedVariables false
namespace Go.Proofs.YtahmacnmphjhgaaDoor
open Go.RowKit Oct
attribute [local irreducible] wpG
def WD (s : Vs) : Prop := ∀ b ∈ s.blocks, b.did = false → b.want = b.opn
theorem WD.one {nt inp : Nat} {role : UInt8} {i n : Nat} {x : VI} {s : Vs} (h : WD s) (hI : InvV n s) (h0 : (oneV nt inp role i x s).1 = 0) : WD (oneV nt inp role i x s).2 := by
  obtain ⟨hs, -, -⟩ := oneV_step hI.kl h0
  intro b hb hd
  rcases hs with ⟨_, k, _, hbl, _⟩ | ⟨_, r, c, hl, hbl, _⟩ | ⟨_, r, c, hl, _, hbl, _⟩ | ⟨_, hbl, _⟩ <;> rw [hbl] at hb
  · rcases List.mem_append.1 hb with hb | hb
    · exact h b hb hd
    · rw [List.mem_singleton] at hb; subst hb; rfl
  · rcases List.mem_append.1 hb with hb | hb
    · exact h b (by rw [hl]; exact List.mem_append.2 (.inl hb)) hd
    · rw [List.mem_singleton] at hb; subst hb; cases hd
  · exact h b (by rw [hl]; exact List.mem_append.2 (.inl hb)) hd
  · exact h b hb hd
section
variable {w w3 : World} {base G : Nat} {tv cv bv sv ev : Value} {role : UInt8} {s : Vs}
theorem RG.start (w : World) (tv cv : Value) (role : UInt8) (base : Nat) (hb : base ≤ w.heap.size) :
    RG (w.alloc (.cells #[tv, cv, .int .u8 (role.toNat : Int), .string ⟨#[]⟩, .slice none 0 0, .slice none 0 0, .slice none 0 0, .int .i64 0] 47)) base w.heap.size tv cv role ⟨[], [], [], [], 0⟩ (.slice none 0 0) (.slice none 0 0) (.slice none 0 0) :=
  ⟨Blk.new w ([tv, cv, .int .u8 (role.toNat : Int), .string ⟨#[]⟩, .slice none 0 0, .slice none 0 0, .slice none 0 0, .int .i64 0] : List Value) _, Rec.Own.nil _ _, Rec.Own.nil _ _, Rec.Own.nil _ _, hb, (fun b hb => by cases hb), (fun b hb => by cases hb), (fun b hb => by cases hb)⟩
/-- a row of ends, made anew -/
theorem RG.freshE {b0 : Nat} {ev' : Value} {l : List Int} (h : RG w base G tv cv role s bv sv ev) (hB : Below w.heap.size w w3) (hb0 : w.heap.size ≤ b0) (ho : recJ.Own w3 b0 ev' l) :
    RG (w3.setCell ⟨G, 6, none⟩ ev') base G tv cv role { s with ends := l } bv sv ev' ∧ Below base w (w3.setCell ⟨G, 6, none⟩ ev') := by
  have hGb := Nat.le_trans h.gb (Nat.le_of_lt h.blk.lt)
  have hlt := h.blk.lt
  have h3 := h.below hB
  have hs : Chg (fun k => k = G) w3 (w3.setCell ⟨G, 6, none⟩ ev') := Chg.setCell _ _ _ rfl
  have nb : ∀ b, ev'.ownBlock = some b → w.heap.size ≤ b := fun b hb => Nat.le_trans hb0 (Rec.Own.ltV ho b hb).1
  refine ⟨⟨h3.blk.set 6 ev', h3.ob.chgV hs (fun k hk => (h.a1 k hk).1), h3.os.chgV hs (fun k hk => (h.a2 k hk).1), (ho.chgV hs (fun k hk => by have := nb k hk; omega)).baseLe (Nat.le_trans hGb hb0), h.gb, ?_, ?_, ?_⟩, ?_⟩
  · intro b hb
    refine ⟨(h.a1 b hb).1, (h.a1 b hb).2.1, fun e => ?_⟩
    have := nb b e
    have := (h.ob.ltV b hb).2
    omega
  · intro b hb
    refine ⟨(h.a2 b hb).1, fun e => ?_⟩
    have := nb b e
    have := (h.os.ltV b hb).2
    omega
  · intro b hb
    have := nb b hb
    omega
  · exact (hB.mono hGb).trans (hs.below (fun k hk => by have := h.gb; omega) (Nat.le_trans hGb hB.size))
theorem InvV.mid {n : Nat} {x : VI} (h : InvV n s) : InvV (n + 1) { s with seen := s.seen ++ [s.kinds], kinds := (valuesV s.kinds x).2 } :=
  ⟨h.bl, (valuesV_len (x := x) h.kl).1, h.bs, h.el, by show (s.seen ++ [s.kinds]).length ≤ n + 1; have := h.sl; simp; omega, h.dl⟩
end
/-- what the reference's Go tells -/
def GoR (w' : World) (tv cv : Value) (role : UInt8) (T : Nat × Nat × Vs) (e : Ending) : Prop :=
  ∃ G base bv sv ev, e = .returned (.tuple #[.pointer (some ⟨G, 0, none⟩), .int .i64 (T.1 : Int), .int .i64 (T.2.1 : Int)]) ∧ (T.2.1 = 0 → RG w' base G tv cv role T.2.2 bv sv ev)
set_option maxRecDepth 100000 in
set_option maxHeartbeats 16000000 in
theorem rGo_any (tv cv : Value) (texts : List (List UInt8)) (code : List VI) (role : UInt8) (w : World) (ht : recS.Row w tv texts) (hc : recIns.Row w cv code) (hlt : texts.length ≤ 1000) (hlc : code.length ≤ 5000) (hm : ∀ s ∈ texts, s.length ≤ 140737488355328) :
    Calls Tryd.prog 15 #[.agg #[tv, cv], .int .u8 (role.toNat : Int)] w fun e w' => GoR w' tv cv role (throughV texts code role) e ∧ Below w.heap.size w w' := by
  have HMY := Lib.hid (fun w' (hB : Below w.heap.size w w') => rMay12_any tv cv texts code w' (ht.below hB) (hc.below hB) (by omega) (by omega) hm)
  obtain ⟨at_, ct, rfl, -, -⟩ := recS_open ht
  obtain ⟨ac, cc, rfl, -, hci⟩ := recIns_open hc
  have HCI := Lib.hid hci
  clear ht hc hci hm
  obtain ⟨W1, hW1⟩ : ∃ W1, W1 = w.alloc (.cells #[.slice at_ texts.length ct, .slice ac code.length cc] 25) := ⟨_, rfl⟩
  have hb1 : Below w.heap.size w W1 := by rw [hW1]; exact b_alloc _ _
  have hx : Blk W1 w.heap.size 25 [.slice at_ texts.length ct, .slice ac code.length cc] := by rw [hW1]; exact Blk.new w _ _
  obtain ⟨W2, hW2⟩ : ∃ W2, W2 = W1.alloc (.cells #[.slice at_ texts.length ct, .slice ac code.length cc, .int .u8 (role.toNat : Int), .string ⟨#[]⟩, .slice none 0 0, .slice none 0 0, .slice none 0 0, .int .i64 0] 47) := ⟨_, rfl⟩
  obtain ⟨G, hG⟩ : ∃ G, G = W1.heap.size := ⟨_, rfl⟩
  have hv2 : RG W2 W1.heap.size G (.slice at_ texts.length ct) (.slice ac code.length cc) role ⟨[], [], [], [], 0⟩ (.slice none 0 0) (.slice none 0 0) (.slice none 0 0) := by rw [hW2, hG]; exact RG.start W1 _ _ role _ (Nat.le_refl _)
  have hb2 : Below W1.heap.size W1 W2 := by rw [hW2]; exact b_alloc _ _
  have HX := Lib.hid hx
  have x0 := hx.cell (k := 0) rfl
  have x1 := hx.cell (k := 1) rfl
  have HB1 := Lib.hid hb1
  have HB2 := Lib.hid hb2
  have H2 := Lib.hid hv2
  have hGx : w.heap.size < G := by rw [hG]; exact lt_of_cell x0
  have hmk := mk_ends code.length (by omega)
  obtain ⟨E0, hE0⟩ : ∃ E0, E0 = (recJ.cells (List.replicate code.length 0)).toArray := ⟨_, rfl⟩
  rw [← hE0] at hmk
  have HE0 := Lib.hid hE0
  clear hE0
  clear hb1 hb2 hv2 hx
  obtain ⟨T, hT⟩ : ∃ T, T = throughV texts code role := ⟨_, rfl⟩
  rw [← hT]
  have HT := Lib.hid hT
  have HRO := Lib.hid (rRole_any role)
  clear hT
  go_enter Tryd.func15, Tryd.ntmps15
  go_upto_region 1 with fail
  rw [← hW1]
  clear hW1
  go_upto_region 2 with fail
  rw [← hW2, ← hG]
  have HGE := Lib.hid hG
  clear hW2 hG
  have x0 := Below.keeps HB2.out x0
  have x1 := Below.keeps HB2.out x1
  by_cases hmv : mayV texts code = true
  · rw [hmv] at HMY
    by_cases hro : roleOk role = true
    · rw [hro] at HRO
      have HOK := Lib.hid (show (mayV texts code && roleOk role) = true by rw [hmv, hro]; rfl)
      obtain ⟨h16, h256, hni⟩ := ins_24 hmv
      have HNI := Lib.hid hni
      clear hmv hro hni
      go_upto_region 4 with (first | (go_at_call 19; refine (HMY.out _ (bt HB1.out HB2.out)).mono ?_; rintro e w3 ⟨rfl, hB3⟩; have H3 := Lib.hid (H2.out.below hB3); have HX3 := Lib.hid ((HX.out.below HB2.out).below hB3); have HB3 := Lib.hid (bt HB2.out hB3); clear hB3) | (go_at_call 20; refine (HRO.out _).mono ?_; rintro e w4 ⟨rfl, rfl⟩))
      have hk4 := H3.out.below (b_alloc w4 (.cells E0 3))
      have c6 := hk4.cell (k := 6) rfl
      have f6 := hk4.free (k := 6) (by decide)
      have x1 := HX3.out.cell (k := 1) rfl
      have x4 := (HX3.out.below (b_alloc w4 (.cells E0 3))).cell (k := 1) rfl
      have hw5 := H3.out.freshE (b_alloc w4 (.cells E0 3)) (Nat.le_refl _) (by have := made_own w4 code.length w4.heap.size (by omega) (Nat.le_refl _); rw [← HE0.out] at this; exact this)
      have hc5 : Chg (fun x => x = G) w4 ((w4.alloc (.cells E0 3)).setCell ⟨G, 6, none⟩ (.slice (some ⟨w4.heap.size, 0, none⟩) code.length code.length)) := (Chg.alloc _ _ _).trans Chg.set1R
      have hx5 := HX3.out.chg hc5 (by show ¬ (w.heap.size = G); omega)
      go_upto_region 5 with fail
      obtain ⟨w5, hW5⟩ : ∃ w5, w5 = (w4.alloc (.cells E0 3)).setCell ⟨G, 6, none⟩ (.slice (some ⟨w4.heap.size, 0, none⟩) code.length code.length) := ⟨_, rfl⟩
      obtain ⟨ev, hev⟩ : ∃ ev : Value, ev = .slice (some ⟨w4.heap.size, 0, none⟩) code.length code.length := ⟨_, rfl⟩
      rw [← hW5] at hw5 hx5 ⊢
      rw [← hev] at hw5
      have H5 := Lib.hid hw5.1
      have HB5 := Lib.hid (HB3.out.trans hw5.2)
      have HX5 := Lib.hid hx5
      clear hk4 c6 f6 x0 x1 x4 hw5 hc5 hx5 hW5 hev hmk H3 HX3 HB3 H2 HB2 HMY HRO
      go_wp2_with fail
      go_loopw [8] (fun t wr => ∃ (i : Nat) (s : Vs) (bv sv : Value), t = .int .i64 (i : Int) ∧ i ≤ code.length ∧ Hid (runV texts.length (inputsV role) role i (code.drop i) s = runV texts.length (inputsV role) role 0 code (startV code.length)) ∧ Hid (RG wr W1.heap.size G (.slice at_ texts.length ct) (.slice ac code.length cc) role s bv sv ev) ∧ Hid (InvV i s) ∧ Hid (WD s) ∧ Hid (s.ends.length = code.length) ∧ Hid (Below W1.heap.size W1 wr)) (fun t _ => code.length - (intOf t).toNat)
      case atStart => exact ⟨0, startV _, _, _, rfl, Nat.zero_le _, rfl, H5.out, start_inv _ h256, (fun b hb => by simp [startV] at hb), by simp [startV, Hid], HB5.out⟩
      case round =>
        obtain ⟨i, s, bv, sv, rfl, hi, HR, HV, HIV, HWD, HEL, HB⟩ := hrel
        have x1 := (HX.out.below HB.out).cell (k := 1) rfl
        by_cases h0 : i < code.length
        · obtain ⟨⟨ab, cb, hbv⟩, ⟨a3, cs, hsv⟩, _⟩ := HV.out.slices
          subst hbv hsv
          obtain ⟨b, off, rfl, d0, d1⟩ := HCI.out i h0
          have kk0 : (0 : Int) ≤ (i : Int) := by omega
          have kk1 : (i : Int) < (code.length : Int) := by omega
          have HP := Lib.hid (HNI.out i h0)
          have HD0 := Lib.hid d0
          have HD1 := Lib.hid d1
          have HDR := Lib.hid (List.drop_eq_getElem_cons h0)
          have hvd := HV.out.below (b_drew wr)
          have hgb : W1.heap.size ≤ wr.drew.heap.size := Nat.le_trans HB.out.size (b_drew wr).size
          have hby : (s.seen.length + 1) * 16 ≤ 140737488355328 := by have := HIV.out.sl; omega
          have hod := hvd.os
          have hGw : G < wr.heap.size := HV.out.blk.lt
          have c5 := HV.out.cell (k := 5) rfl
          have c3 := HV.out.cell (k := 3) rfl
          have HVD := Lib.hid hvd
          clear hvd d0 d1
          go_upto_region 8 with fail
          go_cut [] (fun wx => ∃ sv', Hid (RG wx W1.heap.size G (.slice at_ texts.length ct) (.slice (some ⟨b, off, none⟩) code.length cc) role { s with seen := s.seen ++ [s.kinds] } (.slice ab s.blocks.length cb) sv' ev) ∧ Hid (Below W1.heap.size W1 wx))
          case first =>
            go_region_law (refine recS.step_append1V wr.drew s.kinds rfl _ _ 22 rfl Tryd.underlying22 W1.heap.size (.slice a3 s.seen.length cs) s.seen rfl hod _ rfl _ rfl _ rfl hby hgb ?_; intro g gc w3 hown3 hc3 hg3; have hn3 := HVD.out.newS (sv' := .slice (some ⟨g, 0, none⟩) (s.seen.length + 1) gc) hc3 (fun k hk => by cases hk; exact hg3) hown3; have hb3 : Blk w3 G 47 _ := HVD.out.blk.chg hc3 (fun e => (HVD.out.a2 G e).1 rfl); have f5 := hb3.free (k := 5) (by simp); have c5' := hb3.cell (k := 5) rfl; have HN := Lib.hid hn3; clear hn3 hb3 hown3 hc3 hg3)
            all_goals
              go_wp2_with fail
              go_meet
              case rel => exact ⟨_, HN.out.1, ((HB.out.trans ((b_drew wr).mono HB.out.size))).trans HN.out.2⟩
          case rest =>
            obtain ⟨sv', HG, HBA⟩ := hcut
            clear c5 c3 hod hgb hby
            have hbw := bt HB1.out HBA.out
            have e0 := Below.keeps hbw HD0.out
            have e1 := Below.keeps hbw HD1.out
            have x1 := (HX.out.below HBA.out).cell (k := 1) rfl
            have hbl8 := HIV.out.bl
            obtain ⟨q, hq⟩ : ∃ q, q = thereV texts.length (inputsV role) role s.blocks code[i] := ⟨_, rfl⟩
            have HAH := Lib.hid (rAhead_any code[i] texts.length ct at_ HG.out (by show s.blocks.length ≤ 1000; omega) (by omega))
            rw [show thereV texts.length (inputsV role) role ({ s with seen := s.seen ++ [s.kinds] } : Vs).blocks code[i] = q from hq.symm] at HAH
            have HQ := Lib.hid hq
            clear hq hbw
            go_wp2_with fail
            refine HAH.out.mono ?_
            rintro e w2 ⟨rfl, hB2⟩
            have e0 := Below.keeps hB2 e0
            have e1 := Below.keeps hB2 e1
            have x1 := Below.keeps hB2 x1
            have H2 := Lib.hid (HG.out.below hB2)
            have HB2 := Lib.hid (bt HBA.out hB2)
            clear hB2 HAH
            by_cases hq0 : q = 0
            · have q1 : ((q : Int) == 0) = true := by rw [hq0]; rfl
              have HT0 := Lib.hid (show thereV texts.length (inputsV role) role s.blocks code[i] = 0 by rw [← HQ.out, hq0])
              clear hq0
              obtain ⟨x, hx⟩ : ∃ x, x = valuesV s.kinds code[i] := ⟨_, rfl⟩
              have HVV := Lib.hid (rValues_any code[i] HP.out H2.out (by show s.kinds.length ≤ 1000; have := HIV.out.kl; omega))
              rw [show valuesV ({ s with seen := s.seen ++ [s.kinds] } : Vs).kinds code[i] = x from hx.symm] at HVV
              have HX2 := Lib.hid hx
              clear hx
              go_wp2_with fail
              refine HVV.out.mono ?_
              rintro e w3 ⟨rfl, hv3, hB3⟩
              have HB3 := Lib.hid (HB2.out.trans hB3)
              have hbw := HB1.out.trans (HB3.out.mono HB1.out.size)
              have e0 := Below.keeps hbw HD0.out
              have e1 := Below.keeps hbw HD1.out
              have x1 := (HX.out.below HB3.out).cell (k := 1) rfl
              have H3 := Lib.hid hv3
              clear hv3 hB3 hbw HVV
              by_cases hx0 : x.1 = 0
              · have q2 : ((x.1 : Int) == 0) = true := by rw [hx0]; rfl
                have HV0 := Lib.hid (show (valuesV s.kinds code[i]).1 = 0 by rw [← HX2.out, hx0])
                have HTB := Lib.hid (thereV_blocks HT0.out)
                have HMID := Lib.hid (HIV.out.mid (x := code[i]))
                rw [← HX2.out] at HMID
                obtain ⟨r, hr⟩ : ∃ r, r = turnsV i code[i] { s with seen := s.seen ++ [s.kinds], kinds := x.2 } := ⟨_, rfl⟩
                have HTU := Lib.hid (rEnds_any i code[i] (H3.out hx0) HMID.out (by omega) HWD.out HTB.out.1)
                rw [← hr] at HTU
                have HON := Lib.hid (show oneV texts.length (inputsV role) role i code[i] s = (r.1, { r.2 with deep := max s.deep r.2.kinds.length }) by
                  unfold oneV
                  rw [HT0.out, HV0.out, ← HX2.out, ← hr]
                  rfl)
                have HRD := Lib.hid (show r.2.deep = s.deep by rw [hr, turnsV_deep])
                have hkr : r.2.kinds.length ≤ 17 := by rw [hr]; exact turnsV_kinds (fun b hb => (HIV.out.bs b hb).2) (by show x.2.length ≤ 16; exact HMID.out.kl)
                clear hr hx0
                go_wp2_with fail
                refine HTU.out.mono ?_
                rintro e w4 ⟨rfl, hv4, hB4⟩
                have HB4 := Lib.hid (HB3.out.trans hB4)
                clear hB4 HTU e0 e1 x1
                by_cases hr0 : r.1 = 0
                · have q3 : ((r.1 : Int) != 0) = false := by rw [hr0]; rfl
                  obtain ⟨bv4, hv4⟩ := hv4 hr0
                  have c7 := hv4.cell (k := 7) rfl
                  have c3 := hv4.cell (k := 3) rfl
                  have H4 := Lib.hid hv4
                  have HONE := Lib.hid (InvV.one (nt := texts.length) (inp := inputsV role) (role := role) (x := code[i]) HIV.out (by rw [HEL.out]; exact h0) (by rw [HON.out]; exact hr0))
                  have HWD1 := Lib.hid (HWD.out.one (nt := texts.length) (inp := inputsV role) (role := role) (i := i) (x := code[i]) HIV.out (by rw [HON.out]; exact hr0))
                  rw [HON.out] at HONE HWD1
                  have HR1 := Lib.hid (show runV texts.length (inputsV role) role (i + 1) (code.drop (i + 1)) { r.2 with deep := max s.deep r.2.kinds.length } = runV texts.length (inputsV role) role 0 code (startV code.length) by rw [← HR.out, HDR.out, runV_ok (by rw [HON.out]; exact hr0), HON.out])
                  have d1 : (s.deep : Int) ≤ 16 := by have := HIV.out.dl; omega
                  have d2 : (r.2.kinds.length : Int) ≤ 17 := by omega
                  rw [HRD.out] at c7
                  clear hv4 hr0 hkr HR HDR
                  go_upto_region 16 with fail
                  refine region_tail 13 [(4, .exact _ (.int .i64 (s.deep : Int))), (8, .exact _ (.string (bs r.2.kinds)))] (by kernel_rfl) (by kernel_rfl) ?_
                  simp only [List.take_succ_cons, List.take_zero, List.drop_succ_cons, List.drop_zero]
                  (repeat (first | (refine wpG_skip (by kernel_rfl) (fun K hK => ?_); go_big_quiet_skip; refine wpQuiet_nil (hK _ ?_); clear hK K) | (refine wpG_quiet (by rfl) (by rfl) (fun K hK => ?_); go_big_quiet_want; go_big_quiet_op; go_big_quiet_on; refine wpQuiet_nil (hK _ ?_); clear hK K) | (refine wpG_nilOk rfl rfl rfl (by kernel_rfl) (fun K hK => ?_); go_simp; refine hK _ ?_; clear hK K)))
                  repeat (refine wpG_exact rfl (by kernel_rfl) (fun w' G hB hS hG => ?_) (fun K hK => ?_); (have v0 := Below.keeps hB c7; have v1 := Below.keeps hB c3; go_simp; exact hG _ (Bel.refl _)); go_simp; refine hK _ ?_; clear hK K; (repeat (first | (refine wpG_skip (by kernel_rfl) (fun K hK => ?_); go_big_quiet_skip; refine wpQuiet_nil (hK _ ?_); clear hK K) | (refine wpG_quiet (by rfl) (by rfl) (fun K hK => ?_); go_big_quiet_want; go_big_quiet_op; go_big_quiet_on; refine wpQuiet_nil (hK _ ?_); clear hK K) | (refine wpG_nilOk rfl rfl rfl (by kernel_rfl) (fun K hK => ?_); go_simp; refine hK _ ?_; clear hK K))))
                  refine wpG_nilVT ?_
                  intro w5 hB5 hA5
                  have h5 := H4.out.below hB5
                  have f7 := h5.free (k := 7) (by decide)
                  have c7' := h5.cell (k := 7) rfl
                  have hd5 := h5.deep (max s.deep r.2.kinds.length)
                  have HD5 := Lib.hid hd5
                  have HB5 := Lib.hid (HB4.out.trans (hB5.mono HB4.out.size))
                  clear h5 hd5 hB5 hA5 c7 c3
                  rw [show (max (s.deep : Int) (r.2.kinds.length : Int)) = ((max s.deep r.2.kinds.length : Nat) : Int) by omega]
                  go_wp2_with fail
                  go_roundw
                  case rel => exact ⟨i + 1, _, _, _, by go_num, by omega, HR1.out, HD5.out.1, HONE.out.1, HWD1.out, HONE.out.2.trans HEL.out, HB5.out.trans HD5.out.2⟩
                  case measure => simp [intOf]; omega
                · have q3 : ((r.1 : Int) != 0) = true := by rw [bne_iff_ne]; omega
                  have HE := Lib.hid (HT.out.trans (throughV_bad HOK.out (r := (i, r.1, { r.2 with deep := max s.deep r.2.kinds.length })) (by rw [← HR.out, HDR.out, runV_bad (by rw [HON.out]; exact hr0), HON.out]) hr0))
                  have HR0 := Lib.hid hr0
                  clear hr0 hv4 hkr HR HDR
                  go_wp2_with fail
                  go_ret3
                  exact ⟨⟨G, 0, .slice none 0 0, .slice none 0 0, .slice none 0 0, by rw [HE.out]; rfl, (fun e => by rw [HE.out] at e; exact absurd e HR0.out)⟩, HB1.out.trans (HB4.out.mono HB1.out.size)⟩
              · have q2 : ((x.1 : Int) == 0) = false := by rw [beq_eq_false_iff_ne]; omega
                have q3 : ((x.1 : Int) != 0) = true := by rw [bne_iff_ne]; omega
                have HON := Lib.hid (show oneV texts.length (inputsV role) role i code[i] s = (x.1, { s with seen := s.seen ++ [s.kinds] }) by unfold oneV; rw [HT0.out, ← HX2.out, if_neg (by simp), if_pos hx0])
                have HE := Lib.hid (HT.out.trans (throughV_bad HOK.out (r := (i, x.1, { s with seen := s.seen ++ [s.kinds] })) (by rw [← HR.out, HDR.out, runV_bad (by rw [HON.out]; exact hx0), HON.out]) hx0))
                have HR0 := Lib.hid hx0
                clear hx0 HR HDR
                go_wp2_with fail
                go_ret3
                exact ⟨⟨G, 0, .slice none 0 0, .slice none 0 0, .slice none 0 0, by rw [HE.out]; rfl, (fun e => by rw [HE.out] at e; exact absurd e HR0.out)⟩, HB1.out.trans (HB3.out.mono HB1.out.size)⟩
            · have q1 : ((q : Int) == 0) = false := by rw [beq_eq_false_iff_ne]; omega
              have q3 : ((q : Int) != 0) = true := by rw [bne_iff_ne]; omega
              have HON := Lib.hid (show oneV texts.length (inputsV role) role i code[i] s = (q, { s with seen := s.seen ++ [s.kinds] }) by unfold oneV; rw [← HQ.out, if_pos hq0])
              have HE := Lib.hid (HT.out.trans (throughV_bad HOK.out (r := (i, q, { s with seen := s.seen ++ [s.kinds] })) (by rw [← HR.out, HDR.out, runV_bad (by rw [HON.out]; exact hq0), HON.out]) hq0))
              have HR0 := Lib.hid hq0
              clear hq0 HR HDR
              go_wp2_with fail
              go_ret3
              exact ⟨⟨G, 0, .slice none 0 0, .slice none 0 0, .slice none 0 0, by rw [HE.out]; rfl, (fun e => by rw [HE.out] at e; exact absurd e HR0.out)⟩, HB1.out.trans (HB2.out.mono HB1.out.size)⟩
        · obtain rfl : i = code.length := by omega
          have HR1 := Lib.hid (show runV texts.length (inputsV role) role 0 code (startV code.length) = (code.length, overV role s, s) by rw [← HR.out, List.drop_length, runV_nil])
          obtain ⟨⟨ab, cb, hbv⟩, _, _⟩ := HV.out.slices
          subst hbv
          have c4 := HV.out.cell (k := 4) rfl
          have c3 := HV.out.cell (k := 3) rfl
          have k16 : (s.kinds.length : Int) ≤ 16 := by have := HIV.out.kl; omega
          have b8 : (s.blocks.length : Int) ≤ 8 := by have := HIV.out.bl; omega
          have n0 : ¬ (code.length : Int) < (code.length : Int) := by omega
          clear h0 HR
          by_cases hr : role = 1
          · have u1 : ((role.toNat : Int) == 1) = true := by rw [hr]; rfl
            by_cases hb : 0 < s.blocks.length
            · have v1 : (0 : Int) < (s.blocks.length : Int) := by omega
              have HO := Lib.hid (show overV role s = 132 by unfold overV; rw [if_pos hb])
              have HE := Lib.hid (HT.out.trans (throughV_bad HOK.out (r := (code.length, 132, s)) (by rw [HR1.out, HO.out]) (fun e => by cases e)))
              clear hr hb
              go_wp2_with fail
              go_ret3
              exact ⟨⟨G, 0, .slice none 0 0, .slice none 0 0, .slice none 0 0, by rw [HE.out]; rfl, (fun e => by rw [HE.out] at e; cases e)⟩, bt HB1.out HB.out⟩
            · have v1 : ¬ (0 : Int) < (s.blocks.length : Int) := by omega
              by_cases hk : s.kinds.length = 0
              · have v2 : ((s.kinds.length : Int) != 0) = false := by rw [hk]; rfl
                have hke : s.kinds = [] := List.eq_nil_of_length_eq_zero hk
                have HO := Lib.hid (show overV role s = 0 by unfold overV wantV; rw [if_neg hb, if_pos hr, hke]; simp)
                have HE := Lib.hid (HT.out.trans (throughV_good HOK.out (r := (code.length, 0, s)) (by rw [HR1.out, HO.out]) rfl))
                clear hr hb hk hke
                go_wp2_with fail
                go_ret3
                exact ⟨⟨G, _, _, _, _, by rw [HE.out]; rfl, (fun _ => by rw [HE.out]; exact HV.out)⟩, bt HB1.out HB.out⟩
              · have v2 : ((s.kinds.length : Int) != 0) = true := by rw [bne_iff_ne]; omega
                have HO := Lib.hid (show overV role s = 130 by unfold overV wantV; rw [if_neg hb, if_pos hr, if_pos (by simpa using hk)])
                have HE := Lib.hid (HT.out.trans (throughV_bad HOK.out (r := (code.length, 130, s)) (by rw [HR1.out, HO.out]) (fun e => by cases e)))
                clear hr hb hk
                go_wp2_with fail
                go_ret3
                exact ⟨⟨G, 0, .slice none 0 0, .slice none 0 0, .slice none 0 0, by rw [HE.out]; rfl, (fun e => by rw [HE.out] at e; cases e)⟩, bt HB1.out HB.out⟩
          · have u1 : ((role.toNat : Int) == 1) = false := u8_ne (by decide) hr
            by_cases hb : 0 < s.blocks.length
            · have v1 : (0 : Int) < (s.blocks.length : Int) := by omega
              have HO := Lib.hid (show overV role s = 132 by unfold overV; rw [if_pos hb])
              have HE := Lib.hid (HT.out.trans (throughV_bad HOK.out (r := (code.length, 132, s)) (by rw [HR1.out, HO.out]) (fun e => by cases e)))
              clear hr hb
              go_wp2_with fail
              go_ret3
              exact ⟨⟨G, 0, .slice none 0 0, .slice none 0 0, .slice none 0 0, by rw [HE.out]; rfl, (fun e => by rw [HE.out] at e; cases e)⟩, bt HB1.out HB.out⟩
            · have v1 : ¬ (0 : Int) < (s.blocks.length : Int) := by omega
              by_cases hk : s.kinds.length = 1
              · have v2 : ((s.kinds.length : Int) != 1) = false := by rw [hk]; rfl
                by_cases hke : s.kinds = [84]
                · have v3 : (s.kinds != [84]) = false := by rw [hke]; rfl
                  have v4 : (s.kinds == [84]) = true := by rw [hke]; rfl
                  have HO := Lib.hid (show overV role s = 0 by unfold overV wantV; rw [if_neg hb, if_neg hr, if_neg (by rw [hk]; decide), if_neg (by rw [hke]; simp)])
                  have HE := Lib.hid (HT.out.trans (throughV_good HOK.out (r := (code.length, 0, s)) (by rw [HR1.out, HO.out]) rfl))
                  clear hr hb hk hke
                  go_wp2_with fail
                  go_ret3
                  exact ⟨⟨G, _, _, _, _, by rw [HE.out]; rfl, (fun _ => by rw [HE.out]; exact HV.out)⟩, bt HB1.out HB.out⟩
                · have v3 : (s.kinds != [84]) = true := by simpa using hke
                  have v4 : (s.kinds == [84]) = false := by simpa using hke
                  have HO := Lib.hid (show overV role s = 131 by unfold overV wantV; rw [if_neg hb, if_neg hr, if_neg (by rw [hk]; decide), if_pos hke])
                  have HE := Lib.hid (HT.out.trans (throughV_bad HOK.out (r := (code.length, 131, s)) (by rw [HR1.out, HO.out]) (fun e => by cases e)))
                  clear hr hb hk hke
                  go_wp2_with fail
                  go_ret3
                  exact ⟨⟨G, 0, .slice none 0 0, .slice none 0 0, .slice none 0 0, by rw [HE.out]; rfl, (fun e => by rw [HE.out] at e; cases e)⟩, bt HB1.out HB.out⟩
              · have v2 : ((s.kinds.length : Int) != 1) = true := by rw [bne_iff_ne]; omega
                have HO := Lib.hid (show overV role s = 130 by unfold overV wantV; rw [if_neg hb, if_neg hr, if_pos (by simpa using hk)])
                have HE := Lib.hid (HT.out.trans (throughV_bad HOK.out (r := (code.length, 130, s)) (by rw [HR1.out, HO.out]) (fun e => by cases e)))
                clear hr hb hk
                go_wp2_with fail
                go_ret3
                exact ⟨⟨G, 0, .slice none 0 0, .slice none 0 0, .slice none 0 0, by rw [HE.out]; rfl, (fun e => by rw [HE.out] at e; cases e)⟩, bt HB1.out HB.out⟩
    · have HE := Lib.hid (HT.out.trans (throughV_no (texts := texts) (code := code) (role := role) (by simp [hro])))
      have hrf : roleOk role = false := by simpa using hro
      rw [hrf] at HRO
      clear hmv hro hrf
      go_wp2_with (first | (go_at_call 19; refine (HMY.out _ (bt HB1.out HB2.out)).mono ?_; rintro e w3 ⟨rfl, hB3⟩; have HB3 := Lib.hid (bt HB2.out hB3); clear hB3) | (go_at_call 20; refine (HRO.out _).mono ?_; rintro e w4 ⟨rfl, rfl⟩))
      go_ret3
      exact ⟨⟨G, 0, .slice none 0 0, .slice none 0 0, .slice none 0 0, by rw [HE.out]; rfl, (fun e => by rw [HE.out] at e; cases e)⟩, bt HB1.out HB3.out⟩
  · have HE := Lib.hid (HT.out.trans (throughV_no (texts := texts) (code := code) (role := role) (by simp [hmv])))
    have hmf : mayV texts code = false := by simpa using hmv
    rw [hmf] at HMY
    clear hmv hmf
    go_wp2_with (go_at_call 19; refine (HMY.out _ (bt HB1.out HB2.out)).mono ?_; rintro e w3 ⟨rfl, hB3⟩; have HB3 := Lib.hid (bt HB2.out hB3); clear hB3)
    go_ret3
    exact ⟨⟨G, 0, .slice none 0 0, .slice none 0 0, .slice none 0 0, by rw [HE.out]; rfl, (fun e => by rw [HE.out] at e; cases e)⟩, bt HB1.out HB3.out⟩
end Go.Proofs.YtahmacnmphjhgaaDoor
namespace Go.Proofs.YtahmacnmphjhgaaDoor

/-- the op of instruction j -/
def opV (code : List VI) (j : Nat) : UInt8 := (code.getD j (0, 0)).1
def shortK (k : List UInt8) : List UInt8 := k.take (k.length - min 1 k.length)
structure InvB (code : List VI) (i : Nat) (s : Vs) : Prop where
  sl : s.seen.length = i
  el : s.ends.length = code.length
  sk : ∀ k ∈ s.seen, k.length ≤ 16
  st : (s.blocks.map Vb.at_).Pairwise (· < ·)
  bl : ∀ b ∈ s.blocks, b.at_ < i ∧ opensV (opV code b.at_) = true ∧ (b.did = true ↔ opV code b.at_ = 20) ∧ b.want = (if b.did = true then s.seen.getD b.at_ [] else shortK (s.seen.getD b.at_ []))
  en : ∀ j, j < code.length → (s.ends.getD j 0 = 0 ∧ (j < i → opensV (opV code j) = true → j ∈ s.blocks.map Vb.at_)) ∨ (j < i ∧ opensV (opV code j) = true ∧ (j : Int) < s.ends.getD j 0 ∧ s.ends.getD j 0 < (i : Int) ∧ j ∉ s.blocks.map Vb.at_)
theorem getD_leftB {α : Type} {l r : List α} {j : Nat} {d : α} (h : j < l.length) : (l ++ r).getD j d = l.getD j d := by
  simp [List.getD, List.getElem?_append_left h]
theorem getD_midB {α : Type} {l : List α} {x d : α} : (l ++ [x]).getD l.length d = x := by simp [List.getD]
theorem getD_setNeB {l : List Int} {a j : Nat} {v : Int} (h : a ≠ j) : (l.set a v).getD j 0 = l.getD j 0 := by simp [List.getD, List.getElem?_set, h]
theorem getD_setEqB {l : List Int} {a : Nat} {v : Int} (h : a < l.length) : (l.set a v).getD a 0 = v := by simp [List.getD, h]
theorem InvB.old {code : List VI} {i : Nat} {s : Vs} (h : InvB code i s) {b : Vb} (hb : b ∈ s.blocks) {k : List UInt8} : b.at_ < i + 1 ∧ opensV (opV code b.at_) = true ∧ (b.did = true ↔ opV code b.at_ = 20) ∧ b.want = (if b.did = true then (s.seen ++ [k]).getD b.at_ [] else shortK ((s.seen ++ [k]).getD b.at_ [])) := by
  obtain ⟨h1, h2, h3, h4⟩ := h.bl b hb
  rw [getD_leftB (by rw [h.sl]; exact h1)]
  exact ⟨by omega, h2, h3, h4⟩
theorem st_split {r : List Vb} {b : Vb} (h : ((r ++ [b]).map Vb.at_).Pairwise (· < ·)) : (r.map Vb.at_).Pairwise (· < ·) ∧ ∀ a ∈ r.map Vb.at_, a < b.at_ := by
  rw [List.map_append, List.pairwise_append] at h
  exact ⟨h.1, fun a ha => h.2.2 a ha b.at_ (by simp)⟩
theorem InvB.step {code : List VI} {i : Nat} {s s' : Vs} (h : InvB code i s) (hi : i < code.length) (hk : s.kinds.length ≤ 16) (hs : StepB i (code.getD i (0, 0)) s s') (hseen : s'.seen = s.seen ++ [s.kinds]) : InvB code (i + 1) s' := by
  have hop : opV code i = (code.getD i (0, 0)).1 := rfl
  have hsl : s'.seen.length = i + 1 := by rw [hseen, List.length_append, h.sl]; rfl
  have hsk : ∀ k ∈ s'.seen, k.length ≤ 16 := by
    intro k hk'
    rw [hseen] at hk'
    rcases List.mem_append.1 hk' with h1 | h1
    · exact h.sk k h1
    · rw [List.mem_singleton] at h1; subst h1; exact hk
  have hmid : (s.seen ++ [s.kinds]).getD i [] = s.kinds := by rw [← h.sl]; exact getD_midB
  have hlt : ∀ a ∈ s.blocks.map Vb.at_, a < i := by
    intro a ha
    obtain ⟨b, hb, rfl⟩ := List.mem_map.1 ha
    exact (h.bl b hb).1
  rcases hs with ⟨hx, k, hkk, hb, he⟩ | ⟨hx, r, b, hl, hb, he⟩ | ⟨hx, r, b, hl, hkw, hb, he⟩ | ⟨hx, hb, he⟩
  · refine ⟨hsl, by rw [he]; exact h.el, hsk, ?_, ?_, ?_⟩
    · rw [hb, List.map_append, List.pairwise_append]
      exact ⟨h.st, by simp, fun a ha c hc => by simp at hc; subst hc; exact hlt a ha⟩
    · intro c hc
      rw [hb] at hc
      rw [hseen]
      rcases List.mem_append.1 hc with hc | hc
      · exact h.old hc
      · rw [List.mem_singleton] at hc; subst hc
        refine ⟨Nat.lt_succ_self i, ?_, ?_, ?_⟩
        · show opensV (opV code i) = true
          rw [hop]; unfold opensV; rcases hx with e | e <;> rw [e] <;> rfl
        · show false = true ↔ opV code i = 20
          rw [hop]; rcases hx with e | e <;> rw [e] <;> simp
        · show k = if false = true then _ else shortK ((s.seen ++ [s.kinds]).getD i [])
          rw [hmid, hkk]; rfl
    · intro j hj
      rw [he, hb, List.map_append]
      rcases h.en j hj with ⟨h1, h2⟩ | ⟨h1, h2, h3, h4, h5⟩
      · refine .inl ⟨h1, fun h3 h4 => List.mem_append.2 ?_⟩
        by_cases e : j = i
        · exact .inr (by simp [e])
        · exact .inl (h2 (by omega) h4)
      · refine .inr ⟨by omega, h2, h3, by omega, fun hm => ?_⟩
        rcases List.mem_append.1 hm with hm | hm
        · exact h5 hm
        · simp at hm; omega
  · have hbm : b ∈ s.blocks := by rw [hl]; simp
    obtain ⟨b1, b2, b3, b4⟩ := h.bl b hbm
    obtain ⟨st1, st2⟩ := st_split (by rw [← hl]; exact h.st)
    have hrm : ∀ a ∈ r.map Vb.at_, a ∈ s.blocks.map Vb.at_ := fun a ha => by rw [hl, List.map_append]; exact List.mem_append.2 (.inl ha)
    refine ⟨hsl, by rw [he, List.length_set]; exact h.el, hsk, ?_, ?_, ?_⟩
    · rw [hb, List.map_append, List.pairwise_append]
      exact ⟨st1, by simp, fun a ha c hc => by simp at hc; subst hc; exact hlt a (hrm a ha)⟩
    · intro c hc
      rw [hb] at hc
      rw [hseen]
      rcases List.mem_append.1 hc with hc | hc
      · exact h.old (by rw [hl]; exact List.mem_append.2 (.inl hc))
      · rw [List.mem_singleton] at hc; subst hc
        refine ⟨Nat.lt_succ_self i, ?_, ?_, ?_⟩
        · show opensV (opV code i) = true
          rw [hop, hx]; rfl
        · show true = true ↔ opV code i = 20
          rw [hop, hx]; simp
        · show s.kinds = if true = true then (s.seen ++ [s.kinds]).getD i [] else _
          rw [hmid]; rfl
    · intro j hj
      rw [he, hb, List.map_append]
      by_cases ej : b.at_ = j
      · subst ej
        rw [getD_setEqB (by rw [h.el]; exact hj)]
        refine .inr ⟨by omega, b2, by omega, by omega, fun hm => ?_⟩
        rcases List.mem_append.1 hm with hm | hm
        · have := st2 _ hm; omega
        · simp at hm; omega
      · rw [getD_setNeB ej]
        rcases h.en j hj with ⟨h1, h2⟩ | ⟨h1, h2, h3, h4, h5⟩
        · refine .inl ⟨h1, fun h3 h4 => List.mem_append.2 ?_⟩
          by_cases e : j = i
          · exact .inr (by simp [e])
          · have := h2 (by omega) h4
            rw [hl, List.map_append] at this
            rcases List.mem_append.1 this with hm | hm
            · exact .inl hm
            · simp at hm; exact absurd hm.symm ej
        · refine .inr ⟨by omega, h2, h3, by omega, fun hm => ?_⟩
          rcases List.mem_append.1 hm with hm | hm
          · exact h5 (hrm j hm)
          · simp at hm; omega
  · have hbm : b ∈ s.blocks := by rw [hl]; simp
    obtain ⟨b1, b2, b3, b4⟩ := h.bl b hbm
    obtain ⟨st1, st2⟩ := st_split (by rw [← hl]; exact h.st)
    have hrm : ∀ a ∈ r.map Vb.at_, a ∈ s.blocks.map Vb.at_ := fun a ha => by rw [hl, List.map_append]; exact List.mem_append.2 (.inl ha)
    refine ⟨hsl, by rw [he, List.length_set]; exact h.el, hsk, by rw [hb]; exact st1, ?_, ?_⟩
    · intro c hc
      rw [hb] at hc
      rw [hseen]
      exact h.old (by rw [hl]; exact List.mem_append.2 (.inl hc))
    · intro j hj
      rw [he, hb]
      by_cases ej : b.at_ = j
      · subst ej
        rw [getD_setEqB (by rw [h.el]; exact hj)]
        refine .inr ⟨by omega, b2, by omega, by omega, fun hm => ?_⟩
        have := st2 _ hm; omega
      · rw [getD_setNeB ej]
        rcases h.en j hj with ⟨h1, h2⟩ | ⟨h1, h2, h3, h4, h5⟩
        · refine .inl ⟨h1, fun h3 h4 => ?_⟩
          by_cases e : j = i
          · subst e
            rw [hop, hx] at h4; cases h4
          · have := h2 (by omega) h4
            rw [hl, List.map_append] at this
            rcases List.mem_append.1 this with hm | hm
            · exact hm
            · simp at hm; exact absurd hm.symm ej
        · exact .inr ⟨by omega, h2, h3, by omega, fun hm => h5 (hrm j hm)⟩
  · refine ⟨hsl, by rw [he]; exact h.el, hsk, by rw [hb]; exact h.st, ?_, ?_⟩
    · intro c hc
      rw [hb] at hc
      rw [hseen]
      exact h.old hc
    · intro j hj
      rw [he, hb]
      rcases h.en j hj with ⟨h1, h2⟩ | ⟨h1, h2, h3, h4, h5⟩
      · refine .inl ⟨h1, fun h3 h4 => ?_⟩
        by_cases e : j = i
        · subst e
          rw [hop, hx.1] at h4; cases h4
        · exact h2 (by omega) h4
      · exact .inr ⟨by omega, h2, h3, by omega, h5⟩
/-- what is shut stays as it is -/
theorem StepB.keep {i : Nat} {x : VI} {s s' : Vs} (hs : StepB i x s s') {j : Nat} (hj : j < i) (hn : j ∉ s.blocks.map Vb.at_) : s'.ends.getD j 0 = s.ends.getD j 0 ∧ j ∉ s'.blocks.map Vb.at_ := by
  rcases hs with ⟨_, k, _, hb, he⟩ | ⟨_, r, b, hl, hb, he⟩ | ⟨_, r, b, hl, _, hb, he⟩ | ⟨_, hb, he⟩
  · rw [he, hb, List.map_append]
    refine ⟨rfl, fun hm => ?_⟩
    rcases List.mem_append.1 hm with hm | hm
    · exact hn hm
    · simp at hm; omega
  · rw [hl, List.map_append] at hn
    rw [he, hb, List.map_append]
    refine ⟨getD_setNeB (fun e => hn (List.mem_append.2 (.inr (by simp [e])))), fun hm => ?_⟩
    rcases List.mem_append.1 hm with hm | hm
    · exact hn (List.mem_append.2 (.inl hm))
    · simp at hm; omega
  · rw [hl, List.map_append] at hn
    rw [he, hb]
    exact ⟨getD_setNeB (fun e => hn (List.mem_append.2 (.inr (by simp [e])))), fun hm => hn (List.mem_append.2 (.inl hm))⟩
  · rw [he, hb]
    exact ⟨rfl, hn⟩
end Go.Proofs.YtahmacnmphjhgaaDoor
namespace Go.Proofs.YtahmacnmphjhgaaDoor

theorem startV_inv (code : List VI) : InvB code 0 (startV code.length) := by
  refine ⟨rfl, by simp [startV], fun k hk => by simp [startV] at hk, by simp [startV], fun b hb => by simp [startV] at hb, fun j hj => .inl ⟨?_, fun h => by omega⟩⟩
  simp [startV, List.getD, List.getElem?_replicate, hj]
/-- the kinds behind an instruction that is let be are at most 16 -/
theorem oneV_kinds {nt inp : Nat} {role : UInt8} {i : Nat} {x : VI} {s : Vs} (hw : ∀ b ∈ s.blocks, b.opn.length ≤ 16) (h0 : (oneV nt inp role i x s).1 = 0) :
    (oneV nt inp role i x s).2.kinds.length ≤ 16 ∧ ∀ b ∈ (oneV nt inp role i x s).2.blocks, b.opn.length ≤ 16 := by
  have ht := oneV_there h0
  unfold oneV at h0 ⊢
  rw [if_neg (by rw [ht]; simp)] at h0 ⊢
  split at h0
  · rename_i hv; exact absurd h0 hv
  rename_i hv
  rw [if_neg hv]
  have hv0 : (valuesV s.kinds x).1 = 0 := by simpa using hv
  clear hv
  obtain ⟨hle, hlt⟩ := valuesV_le hv0
  obtain ⟨k', hk'⟩ : ∃ k', k' = (valuesV s.kinds x).2 := ⟨_, rfl⟩
  rw [← hk'] at hle hlt h0
  simp only [← hk']
  unfold turnsV at h0 ⊢
  by_cases h19 : x.1 = 19
  · simp only [h19, if_true] at h0 ⊢
    refine ⟨hle, fun b hb => ?_⟩
    rcases List.mem_append.1 hb with hb | hb
    · exact hw b hb
    · rw [List.mem_singleton] at hb; subst hb; exact hle
  by_cases h22 : x.1 = 22
  · rw [if_neg h19, if_pos h22]
    refine ⟨by have := hlt h22; simp; omega, fun b hb => ?_⟩
    rcases List.mem_append.1 hb with hb | hb
    · exact hw b hb
    · rw [List.mem_singleton] at hb; subst hb; exact hle
  rw [if_neg h19, if_neg h22] at h0 ⊢
  by_cases h20 : x.1 = 20
  · rw [if_pos h20] at h0 ⊢
    cases hb : s.blocks.getLast? with
    | none => exact ⟨hle, hw⟩
    | some b =>
      have hbm : b ∈ s.blocks := by rw [getLast_split hb]; simp
      refine ⟨hw b hbm, fun c hc => ?_⟩
      rcases List.mem_append.1 hc with hc | hc
      · exact hw c (List.dropLast_subset _ hc)
      · rw [List.mem_singleton] at hc; subst hc; exact hw b hbm
  rw [if_neg h20] at h0 ⊢
  by_cases h21 : x.1 = 21
  · rw [if_pos h21] at h0 ⊢
    cases hb : s.blocks.getLast? with
    | none => exact ⟨hle, hw⟩
    | some b =>
      simp only [hb] at h0 ⊢
      by_cases hwb : k' = b.want
      · rw [if_pos hwb]
        exact ⟨hle, fun c hc => hw c (List.dropLast_subset _ hc)⟩
      · rw [if_neg hwb] at h0; cases h0
  rw [if_neg h21]
  exact ⟨hle, hw⟩
structure RunB (nt inp : Nat) (role : UInt8) (code : List VI) (i : Nat) : Prop where
  inv : InvB code i (stV nt inp role code i)
  k : (stV nt inp role code i).kinds.length ≤ 16
  d : (stV nt inp role code i).deep ≤ 16
  w : ∀ b ∈ (stV nt inp role code i).blocks, b.opn.length ≤ 16
theorem stV_run {nt inp : Nat} {role : UInt8} {code : List VI} (hok : ∀ j, j < code.length → (oneV nt inp role j (code.getD j (0, 0)) (stV nt inp role code j)).1 = 0) :
    ∀ i, i ≤ code.length → RunB nt inp role code i
  | 0, _ => ⟨startV_inv code, by simp [stV, startV], by simp [stV, startV], fun b hb => by simp [stV, startV] at hb⟩
  | i + 1, hi => by
    obtain ⟨h1, h2, h3, h4⟩ := stV_run hok i (by omega)
    have h0 := hok i (by omega)
    obtain ⟨hs, hseen, hdeep⟩ := oneV_step h2 h0
    obtain ⟨hk, hw⟩ := oneV_kinds h4 h0
    refine ⟨h1.step (by omega) h2 hs hseen, hk, ?_, hw⟩
    show (oneV nt inp role i (code.getD i (0, 0)) (stV nt inp role code i)).2.deep ≤ 16
    rw [hdeep]
    omega
theorem stV_seen {nt inp : Nat} {role : UInt8} {code : List VI} (hok : ∀ j, j < code.length → (oneV nt inp role j (code.getD j (0, 0)) (stV nt inp role code j)).1 = 0) {i : Nat} (hi : i < code.length) :
    ∀ k, i + 1 + k ≤ code.length → (stV nt inp role code (i + 1 + k)).seen.getD i [] = (stV nt inp role code i).kinds
  | 0, _ => by
    obtain ⟨h1, h2, h3, h4⟩ := stV_run hok i (by omega)
    obtain ⟨hs, hseen, hdeep⟩ := oneV_step h2 (hok i hi)
    show (oneV nt inp role i (code.getD i (0, 0)) (stV nt inp role code i)).2.seen.getD i [] = _
    rw [hseen]
    have := @getD_midB _ (stV nt inp role code i).seen (stV nt inp role code i).kinds []
    rw [h1.sl] at this
    exact this
  | k + 1, hk => by
    have ih := stV_seen hok hi k (by omega)
    obtain ⟨h1, h2, h3, h4⟩ := stV_run hok (i + 1 + k) (by omega)
    obtain ⟨hs, hseen, hdeep⟩ := oneV_step h2 (hok (i + 1 + k) (by omega))
    show (oneV nt inp role (i + 1 + k) (code.getD (i + 1 + k) (0, 0)) (stV nt inp role code (i + 1 + k))).2.seen.getD i [] = _
    rw [hseen, getD_leftB (by rw [h1.sl]; omega), ih]
theorem stV_ends {nt inp : Nat} {role : UInt8} {code : List VI} (hok : ∀ j, j < code.length → (oneV nt inp role j (code.getD j (0, 0)) (stV nt inp role code j)).1 = 0) {i j : Nat} (hj : j < i) (hn : j ∉ (stV nt inp role code i).blocks.map Vb.at_) :
    ∀ k, i + k ≤ code.length → (stV nt inp role code (i + k)).ends.getD j 0 = (stV nt inp role code i).ends.getD j 0 ∧ j ∉ (stV nt inp role code (i + k)).blocks.map Vb.at_
  | 0, _ => ⟨rfl, hn⟩
  | k + 1, hk => by
    obtain ⟨ih1, ih2⟩ := stV_ends hok hj hn k (by omega)
    obtain ⟨h1, h2, h3, h4⟩ := stV_run hok (i + k) (by omega)
    obtain ⟨hs, hseen, hdeep⟩ := oneV_step h2 (hok (i + k) (by omega))
    obtain ⟨g1, g2⟩ := hs.keep (j := j) (by omega) ih2
    exact ⟨g1.trans ih1, g2⟩
/-- what the law of blocks says -/
structure LawB (code : List VI) (K : List (List UInt8)) (L : List Int) (O : Nat → List Nat) : Prop where
  o0 : O 0 = []
  on : O code.length = []
  ol : ∀ i, i ≤ code.length → (O i).length ≤ i
  kl : K.length = code.length
  ll : L.length = code.length
  lk : ∀ i, i < code.length → (K.getD i []).length ≤ 16
  op : ∀ i, i < code.length → opensV (opV code i) = true → (i : Int) < L.getD i 0 ∧ L.getD i 0 < (code.length : Int)
  no : ∀ i, i < code.length → opensV (opV code i) = false → L.getD i 0 = 0
  cl : ∀ i, i < code.length → opV code i = 20 ∨ opV code i = 21 → ∃ r b, O i = r ++ [b] ∧ b < i ∧ L.getD b 0 = (i : Int) ∧ O (i + 1) = r ++ (if opV code i = 20 then [i] else []) ∧
    (opV code i = 21 → K.getD i [] = if opV code b = 20 then K.getD b [] else shortK (K.getD b []))
  st : ∀ i, i < code.length → opV code i ≠ 20 → opV code i ≠ 21 → O (i + 1) = O i ++ (if opensV (opV code i) = true then [i] else [])
theorem throughV_blocks {texts : List (List UInt8)} {code : List VI} {role : UInt8} (h : (throughV texts code role).2.1 = 0) :
    (throughV texts code role).2.2.deep ≤ 16 ∧ ∃ O, LawB code (throughV texts code role).2.2.seen (throughV texts code role).2.2.ends O := by
  obtain ⟨-, -, n, hr⟩ := throughV_ok h
  obtain ⟨t, ht⟩ : ∃ t, t = (throughV texts code role).2.2 := ⟨_, rfl⟩
  rw [← ht] at hr ⊢
  obtain ⟨hok', hst, hov⟩ := runV_st code 0 rfl (Nat.zero_le _) hr
  have hok := fun j hj => hok' j (Nat.zero_le _) hj
  clear hok'
  obtain ⟨f1, f2, f3, f4⟩ := stV_run hok code.length (Nat.le_refl _)
  rw [hst] at f1 f2 f3 f4
  have hbl : t.blocks = [] := by
    unfold overV at hov
    split at hov
    · cases hov
    rename_i hb
    exact List.eq_nil_of_length_eq_zero (by omega)
  have hse : ∀ i, i < code.length → t.seen.getD i [] = (stV texts.length (inputsV role) role code i).kinds := by
    intro i hi
    have := stV_seen hok hi (code.length - (i + 1)) (by omega)
    rw [show i + 1 + (code.length - (i + 1)) = code.length by omega, hst] at this
    exact this
  refine ⟨f3, fun i => (stV texts.length (inputsV role) role code i).blocks.map Vb.at_, rfl, ?_, ?_, f1.sl, f1.el, ?_, ?_, ?_, ?_, ?_⟩
  · show (stV texts.length (inputsV role) role code code.length).blocks.map Vb.at_ = []
    rw [hst, hbl]; rfl
  · intro i hi
    induction i with
    | zero => exact Nat.zero_le _
    | succ i ih =>
      have ih := ih (by omega)
      obtain ⟨h1, h2, h3, h4⟩ := stV_run hok i (by omega)
      obtain ⟨hs, hseen, hdeep⟩ := oneV_step h2 (hok i (by omega))
      rw [List.length_map] at ih ⊢
      show (oneV _ _ role i (code.getD i (0, 0)) (stV _ _ role code i)).2.blocks.length ≤ i + 1
      rcases hs with ⟨_, k, _, hb, he⟩ | ⟨_, r, b, hl, hb, he⟩ | ⟨_, r, b, hl, _, hb, he⟩ | ⟨_, hb, he⟩ <;> rw [hb]
      · simp; omega
      · rw [hl] at ih; simp at ih ⊢; omega
      · rw [hl] at ih; simp at ih ⊢; omega
      · omega
  · intro i hi
    rw [hse i hi]
    exact (stV_run hok i (by omega)).k
  · intro i hi ho
    rcases f1.en i hi with ⟨g1, g2⟩ | ⟨g1, g2, g3, g4, g5⟩
    · have := g2 hi ho
      rw [hbl] at this; simp at this
    · exact ⟨g3, g4⟩
  · intro i hi ho
    rcases f1.en i hi with ⟨g1, g2⟩ | ⟨g1, g2, g3, g4, g5⟩
    · exact g1
    · rw [ho] at g2; cases g2
  · intro i hi hx
    obtain ⟨h1, h2, h3, h4⟩ := stV_run hok i (by omega)
    obtain ⟨hs, hseen, hdeep⟩ := oneV_step h2 (hok i hi)
    have hop : opV code i = (code.getD i (0, 0)).1 := rfl
    have hnx : stV texts.length (inputsV role) role code (i + 1) = (oneV texts.length (inputsV role) role i (code.getD i (0, 0)) (stV texts.length (inputsV role) role code i)).2 := rfl
    rw [← hnx] at hs hseen
    have hend : ∀ b, b < i → b < code.length → b ∉ (stV texts.length (inputsV role) role code (i + 1)).blocks.map Vb.at_ → (stV texts.length (inputsV role) role code (i + 1)).ends.getD b 0 = (i : Int) → t.ends.getD b 0 = (i : Int) := by
      intro b hb _ hn he
      have := (stV_ends hok (i := i + 1) (j := b) (by omega) hn (code.length - (i + 1)) (by omega)).1
      rw [show i + 1 + (code.length - (i + 1)) = code.length by omega, hst] at this
      rw [this, he]
    have hsk : ∀ b, b < i → (stV texts.length (inputsV role) role code i).seen.getD b [] = t.seen.getD b [] := by
      intro b hb
      have := stV_seen hok (i := b) (by omega) (i - (b + 1)) (by omega)
      rw [show b + 1 + (i - (b + 1)) = i by omega] at this
      rw [this, hse b (by omega)]
    rcases hs with ⟨hy, k, hkk, hb, he⟩ | ⟨hy, r, b, hl, hb, he⟩ | ⟨hy, r, b, hl, hkw, hb, he⟩ | ⟨hy, hb, he⟩
    · rw [hop] at hx
      rcases hx with e | e <;> rcases hy with e' | e' <;> rw [e] at e' <;> cases e'
    · have hbm : b ∈ (stV texts.length (inputsV role) role code i).blocks := by rw [hl]; simp
      obtain ⟨b1, b2, b3, b4⟩ := h1.bl b hbm
      obtain ⟨st1, st2⟩ := st_split (by rw [← hl]; exact h1.st)
      refine ⟨r.map Vb.at_, b.at_, by simp only [hl, List.map_append]; rfl, b1, ?_, ?_, ?_⟩
      · refine hend _ b1 (by omega) ?_ ?_
        · rw [hb, List.map_append]
          intro hm
          rcases List.mem_append.1 hm with hm | hm
          · have := st2 _ hm; omega
          · simp at hm; omega
        · rw [he, getD_setEqB (by rw [h1.el]; omega)]
      · show (stV texts.length (inputsV role) role code (i + 1)).blocks.map Vb.at_ = _
        rw [hb, List.map_append, if_pos (by rw [hop]; exact hy)]; rfl
      · intro e
        rw [hop, hy] at e; cases e
    · have hbm : b ∈ (stV texts.length (inputsV role) role code i).blocks := by rw [hl]; simp
      obtain ⟨b1, b2, b3, b4⟩ := h1.bl b hbm
      obtain ⟨st1, st2⟩ := st_split (by rw [← hl]; exact h1.st)
      refine ⟨r.map Vb.at_, b.at_, by simp only [hl, List.map_append]; rfl, b1, ?_, ?_, ?_⟩
      · refine hend _ b1 (by omega) ?_ ?_
        · rw [hb]
          intro hm
          have := st2 _ hm; omega
        · rw [he, getD_setEqB (by rw [h1.el]; omega)]
      · show (stV texts.length (inputsV role) role code (i + 1)).blocks.map Vb.at_ = _
        rw [hb, if_neg (by rw [hop, hy]; decide), List.append_nil]
      · intro _
        rw [hse i hi, hkw, b4, hsk _ b1]
        by_cases hd : b.did = true
        · rw [if_pos hd, if_pos (b3.1 hd)]
        · rw [if_neg hd, if_neg (fun e => hd (b3.2 e))]
    · rw [hop] at hx
      rcases hx with e | e
      · have := hy.1; rw [e] at this; cases this
      · exact absurd e hy.2
  · intro i hi h20 h21
    obtain ⟨h1, h2, h3, h4⟩ := stV_run hok i (by omega)
    obtain ⟨hs, hseen, hdeep⟩ := oneV_step h2 (hok i hi)
    have hop : opV code i = (code.getD i (0, 0)).1 := rfl
    rw [hop] at h20 h21
    show (oneV texts.length (inputsV role) role i (code.getD i (0, 0)) (stV texts.length (inputsV role) role code i)).2.blocks.map Vb.at_ = _
    rcases hs with ⟨hy, k, hkk, hb, he⟩ | ⟨hy, r, b, hl, hb, he⟩ | ⟨hy, r, b, hl, hkw, hb, he⟩ | ⟨hy, hb, he⟩
    · rw [hb, List.map_append, if_pos (by rw [hop]; unfold opensV; rcases hy with e | e <;> rw [e] <;> rfl)]; rfl
    · exact absurd hy h20
    · exact absurd hy h21
    · rw [hb, if_neg (by rw [hop, hy.1]; decide), List.append_nil]
end Go.Proofs.YtahmacnmphjhgaaDoor
namespace Go.Proofs.YtahmacnmphjhgaaDoor
open Go.RowKit Oct
attribute [local irreducible] wpG
set_option maxRecDepth 100000 in
set_option maxHeartbeats 16000000 in
theorem VerifyTells_any (tpv cpv : Value) (tp : List (List UInt8)) (cp : List VI) (role : UInt8) (w : World) (hp : ProgR w tpv cpv tp cp) (hE : EffM w) (hg : 0 < w.heap.size) :
    Calls Tryd.prog 5 #[.agg #[tpv, cpv], .int .u8 (role.toNat : Int)] w fun e w' => e = .returned (.bool true) ∧ Below w.heap.size w w' := by
  obtain ⟨p1, p2, p3, p4, rfl, rfl⟩ := hp.sl
  have HP := Lib.hid (fun w' (hB : Below w.heap.size w w') => hp.below hB)
  have HAL := Lib.hid (fun w' (hB : Below w.heap.size w w') => alive13_any w' (hE.below hB hg) (Nat.lt_of_lt_of_le hg hB.size))
  have HEF := Lib.hid (fun w' (hB : Below w.heap.size w w') => And.intro (hE.below hB hg) (Nat.lt_of_lt_of_le hg hB.size))
  obtain ⟨W1, hW1⟩ : ∃ W1, W1 = w.alloc (.cells #[.slice p1 tp.length p2, .slice p3 cp.length p4] 25) := ⟨_, rfl⟩
  have hb1 : Below w.heap.size w W1 := by rw [hW1]; exact b_alloc _ _
  have hx : Blk W1 w.heap.size 25 [.slice p1 tp.length p2, .slice p3 cp.length p4] := by rw [hW1]; exact Blk.new w _ _
  have HX := Lib.hid hx
  have HB1 := Lib.hid hb1
  have x0 := hx.cell (k := 0) rfl
  have x1 := hx.cell (k := 1) rfl
  clear hp hE hg hb1 hx
  by_cases hlp : largeV tp cp = true
  · have HLP := Lib.hid hlp
    clear hlp
    go_enter Tryd.func5, Tryd.ntmps5
    go_upto_region 1 with fail
    rw [← hW1]
    clear hW1
    go_wp2_with fail
    refine (HP.out _ HB1.out).large.mono ?_
    rintro e w2 ⟨rfl, hB⟩
    have HB2 := Lib.hid (bt HB1.out hB)
    clear hB
    rw [HLP.out]
    go_wp2_with fail
    refine (HAL.out _ HB2.out).mono ?_
    rintro e wz ⟨rfl, hB⟩
    have HZ := Lib.hid (bt HB2.out hB)
    clear hB
    go_wp2_with fail
    go_ret
    exact ⟨rfl, HZ.out⟩
  · have hlp : largeV tp cp = false := by simpa using hlp
    obtain ⟨b1, b2, b3⟩ := largeV_no hlp
    have HLP := Lib.hid hlp
    have HSZ := Lib.hid (And.intro b1 (And.intro b2 b3))
    clear hlp b1 b2 b3
    go_enter Tryd.func5, Tryd.ntmps5
    go_upto_region 1 with fail
    rw [← hW1]
    clear hW1
    go_wp2_with fail
    refine (HP.out _ HB1.out).large.mono ?_
    rintro e w2 ⟨rfl, hB⟩
    have HB2 := Lib.hid (bt HB1.out hB)
    have x0 := Below.keeps hB x0
    have x1 := Below.keeps hB x1
    have HC2 := Lib.hid hB
    clear hB
    rw [HLP.out]
    go_wp2_with fail
    refine (Copy_any _ _ tp cp w2 (HP.out _ HB2.out).t (HP.out _ HB2.out).c (by have := HSZ.out.1; omega) (by have := HSZ.out.2.1; omega)).mono ?_
    rintro e w3 ⟨⟨tv3, cv3, rfl, ho1, ho2⟩, hB⟩
    obtain ⟨a6, c6, rfl⟩ := owns_slice ho1
    obtain ⟨a7, c7, rfl⟩ := owns_slice ho2
    have HB3 := Lib.hid (bt HB2.out hB)
    have HC3 := Lib.hid (bt HC2.out hB)
    have HRT := Lib.hid ho1.row
    have HRC := Lib.hid ho2.row
    clear hB ho1 ho2 HB2 HC2 x0 x1
    go_upto_region 4 with fail
    obtain ⟨w4, hw4⟩ : ∃ w4, w4 = w3.alloc (.cells #[.slice a6 tp.length c6, .slice a7 cp.length c7] 25) := ⟨_, rfl⟩
    have hb4 : Below w3.heap.size w3 w4 := by rw [hw4]; exact b_alloc _ _
    have hy : Blk w4 w3.heap.size 25 [.slice a6 tp.length c6, .slice a7 cp.length c7] := by rw [hw4]; exact Blk.new w3 _ _
    rw [← hw4]
    obtain ⟨C, hC⟩ : ∃ C, C = w3.heap.size := ⟨_, rfl⟩
    rw [← hC] at hy ⊢
    have HY := Lib.hid hy
    have HX4 := Lib.hid (HX.out.below (bt HC3.out hb4))
    have HB4 := Lib.hid (bt HB3.out hb4)
    have HASK := Lib.hid (fun w' (hB : Below w4.heap.size w4 w') => show AskV w' (.slice a6 tp.length c6) (.slice a7 cp.length c7) tp cp from
      ⟨HRT.out.below (bt hb4 hB), HRC.out.below (bt hb4 hB), (by have := HSZ.out.1; omega), (by have := HSZ.out.2.1; omega), (fun s hs => by have := HSZ.out.2.2 s hs; omega), (HEF.out _ (bt HB4.out hB)).1, (HEF.out _ (bt HB4.out hB)).2⟩)
    have HCK := Lib.hid (fun w' (hB : Below w4.heap.size w4 w') => Check13_any _ _ tp cp role w' (HASK.out w' hB))
    have HKN := Lib.hid (fun w' (hB : Below w4.heap.size w4 w') => Kinds_any _ _ tp cp role w' (HASK.out w' hB))
    have HEN := Lib.hid (fun w' (hB : Below w4.heap.size w4 w') => Ends_any _ _ tp cp role w' (HASK.out w' hB))
    have HDP := Lib.hid (fun w' (hB : Below w4.heap.size w4 w') => Deep_any _ _ tp cp role w' (HASK.out w' hB))
    have HGO := Lib.hid (fun w' (hB : Below w.heap.size w w') => rGo_any _ _ tp cp role w' (HP.out w' hB).t (HP.out w' hB).c (by have := HSZ.out.1; omega) (by have := HSZ.out.2.1; omega) (fun s hs => by have := HSZ.out.2.2 s hs; omega))
    have HSM := Lib.hid (fun w' (hB : Below w4.heap.size w4 w') => rSame12_any _ _ _ _ tp cp w' (HRT.out.below (bt hb4 hB)) (HRC.out.below (bt hb4 hB)) (HP.out w' (bt HB4.out hB)).t (HP.out w' (bt HB4.out hB)).c (by have := HSZ.out.1; omega) (by have := HSZ.out.2.1; omega))
    have HKL := Lib.hid (fun (h : (throughV tp cp role).2.1 = 0) => show (throughV tp cp role).2.2.seen.length ≤ 140737488355328 ∧ (throughV tp cp role).2.2.ends.length ≤ 140737488355328 by
      obtain ⟨-, O, hO⟩ := throughV_blocks h
      rw [hO.kl, hO.ll]
      have := HSZ.out.2.1
      omega)
    obtain ⟨T, hT⟩ : ∃ T, T = throughV tp cp role := ⟨_, rfl⟩
    rw [← hT] at HCK HKN HEN HDP HGO HKL
    clear hT hw4 hb4 hy hC
    have t0 : ((T.1 : Int) != (T.1 : Int)) = false := by simp
    have t1 : ((T.2.1 : Int) != (T.2.1 : Int)) = false := by simp
    have y0 := HY.out.cell (k := 0) rfl
    have y1 := HY.out.cell (k := 1) rfl
    go_wp2_with fail
    refine (HCK.out _ (Below.refl _ _)).mono ?_
    rintro e w5 ⟨rfl, hB⟩
    have HC5 := Lib.hid hB
    have y0 := (HY.out.below hB).cell (k := 0) rfl
    have y1 := (HY.out.below hB).cell (k := 1) rfl
    clear hB
    go_wp2_with fail
    refine (HKN.out _ HC5.out).mono ?_
    rintro e w6 ⟨⟨vk, rfl, hvk⟩, hB⟩
    have HVK := Lib.hid hvk
    have HC6 := Lib.hid (bt HC5.out hB)
    have y0 := (HY.out.below HC6.out).cell (k := 0) rfl
    have y1 := (HY.out.below HC6.out).cell (k := 1) rfl
    clear hB hvk
    go_wp2_with fail
    refine (HDP.out _ HC6.out).mono ?_
    rintro e w7 ⟨rfl, hB⟩
    have HVK := Lib.hid (HVK.out.below hB)
    have HC7 := Lib.hid (bt HC6.out hB)
    have y0 := (HY.out.below HC7.out).cell (k := 0) rfl
    have y1 := (HY.out.below HC7.out).cell (k := 1) rfl
    clear hB
    obtain ⟨dd, hdd⟩ : ∃ dd : Int, dd = if T.2.1 = 0 then (T.2.2.deep : Int) else 0 := ⟨_, rfl⟩
    rw [← hdd]
    have HDD := Lib.hid hdd
    clear hdd
    go_wp2_with fail
    refine (HEN.out _ HC7.out).mono ?_
    rintro e w8 ⟨⟨vl, rfl, hvl⟩, hB⟩
    have HVL := Lib.hid hvl
    have HVK := Lib.hid (HVK.out.below hB)
    have HC8 := Lib.hid (bt HC7.out hB)
    have x0 := (HX4.out.below HC8.out).cell (k := 0) rfl
    have x1 := (HX4.out.below HC8.out).cell (k := 1) rfl
    clear hB hvl y0 y1
    go_wp2_with fail
    refine (HGO.out _ (bt HB4.out HC8.out)).mono ?_
    rintro e w9 ⟨⟨G, base, bv, sv, ev, rfl, hrg⟩, hB⟩
    have HRG := Lib.hid hrg
    have HVK := Lib.hid (HVK.out.below hB)
    have HVL := Lib.hid (HVL.out.below hB)
    have HC9 := Lib.hid (bt HC8.out hB)
    have x0 := (HX4.out.below HC9.out).cell (k := 0) rfl
    have x1 := (HX4.out.below HC9.out).cell (k := 1) rfl
    have y0 := (HY.out.below HC9.out).cell (k := 0) rfl
    have y1 := (HY.out.below HC9.out).cell (k := 1) rfl
    clear hB hrg
    go_wp2_with fail
    refine (HSM.out _ HC9.out).mono ?_
    rintro e wa ⟨rfl, hB⟩
    have HRG := Lib.hid (fun h => (HRG.out h).below hB)
    have HVK := Lib.hid (HVK.out.below hB)
    have HVL := Lib.hid (HVL.out.below hB)
    have HCa := Lib.hid (bt HC9.out hB)
    have HBa := Lib.hid (bt HB4.out HCa.out)
    clear hB x0 x1 y0 y1
    by_cases hz : T.2.1 = 0
    · have t2 : ((T.2.1 : Int) != 0) = false := by rw [hz]; rfl
      obtain ⟨hk1, hk2⟩ := HKL.out hz
      have hvk := HVK.out
      have hvl := HVL.out
      rw [if_pos hz] at hvk hvl
      have hde := HDD.out
      rw [if_pos hz] at hde
      have hrg := HRG.out hz
      obtain ⟨_, ⟨a3, cs, rfl⟩, ⟨ae, ce, rfl⟩⟩ := hrg.slices
      have c5 := hrg.cell (k := 5) rfl
      have HK1 := Lib.hid hk1
      have HK2 := Lib.hid hk2
      have HVK := Lib.hid hvk
      have HVL := Lib.hid hvl
      have HRG := Lib.hid hrg
      have HDE := Lib.hid hde
      have t3 : (dd == (T.2.2.deep : Int)) = true := by rw [hde]; simp
      have hs := same13_any _ _ _ _ wa hvk hrg.os.row hk1 hk1
      rw [decide_eq_true rfl] at hs
      have HS := Lib.hid hs
      clear hs
      clear hz hvk hvl hde hrg hk1 hk2
      go_wp2_with fail
      refine HS.out.mono ?_
      rintro e wb ⟨rfl, hB⟩
      have hrg := HRG.out.below hB
      have c7 := hrg.cell (k := 7) rfl
      have c6 := hrg.cell (k := 6) rfl
      have hs := ints13_any _ _ _ _ wb (HVL.out.below hB) hrg.oe.row HK2.out HK2.out
      rw [decide_eq_true rfl] at hs
      have HI := Lib.hid hs
      clear hs
      have HBb := Lib.hid (bt HBa.out hB)
      clear hB hrg
      go_wp2_with fail
      refine HI.out.mono ?_
      rintro e wc ⟨rfl, hB⟩
      have HBc := Lib.hid (bt HBb.out hB)
      clear hB c5 c6 c7
      go_wp2_with fail
      refine (HAL.out _ HBc.out).mono ?_
      rintro e wz ⟨rfl, hB⟩
      have HZ := Lib.hid (bt HBc.out hB)
      clear hB
      go_wp2_with fail
      go_ret
      exact ⟨rfl, HZ.out⟩
    · have t2 : ((T.2.1 : Int) != 0) = true := by rw [bne_iff_ne]; omega
      have hvk := HVK.out
      have hvl := HVL.out
      rw [if_neg hz] at hvk hvl
      have hde := HDD.out
      rw [if_neg hz] at hde
      obtain ⟨ka, kc, rfl, -, -⟩ := recS_open hvk
      obtain ⟨la, lc, rfl, -, -⟩ := Rec.Row.open hvl
      subst hde
      clear hz hvk hvl
      go_wp2_with fail
      refine (HAL.out _ HBa.out).mono ?_
      rintro e wz ⟨rfl, hB⟩
      have HZ := Lib.hid (bt HBa.out hB)
      clear hB
      go_wp2_with fail
      go_ret
      exact ⟨rfl, HZ.out⟩
end Go.Proofs.YtahmacnmphjhgaaDoor
namespace Go.Proofs.YtahmacnmphjhgaaDoor
open Go.ChangeShapes Go.WideShapes Go.ChangeAt Go.RowKit Oct
open Go.ChangeMaps (open_string shut_string)

theorem u64_nat {a : Int} (h : (Lit.int .u64 a).wf = true) : ∃ n : Nat, a = (n : Int) ∧ n < 18446744073709551616 := by
  have h2 : 0 ≤ a ∧ a < 18446744073709551616 := by
    have := bounds_u64 h; omega
  exact ⟨a.toNat, by omega, by omega⟩

section
variable {P : Program} {H : Type} {enc : TypeId × Value → H} {W : World} {base : Nat}
theorem open_str {t j : Nat} {v : Value} {d : DataW H} {ps : List MemPlace} {ts : List TypeId} {ds : List (DataW H)} (ht : P.underlying t = some .string) (hv : Value.okWide P W .any base t v)
    (h : DataW.Trod enc P W 0 (fun _ => true) true t v d ps) (hsz : (DataW.weightsEach P ts ds).all (· ≤ reachBytes) = true) (hj : ts[j]? = some t) (hd : ds[j]? = some d) :
    ∃ l : List UInt8, v = .string (bs l) ∧ l.length ≤ 140737488355328 := by
  obtain ⟨s, rfl, rfl, _, _⟩ := open_string ht hv h
  refine ⟨s.data.toList, by rw [bs_of], ?_⟩
  have := sized_string hsz hj hd
  have h2 := reachBytes_lt
  omega

theorem weights_strs (e : TypeId) : ∀ (ss : List ByteArray) (s : ByteArray), s ∈ ss → s.data.toList.length ∈ DataW.weightsAll (H := H) P e (strs ss)
  | [], _, h => by simp at h
  | x :: ss, s, h => by
    have hx : strs (H := H) (x :: ss) = DataW.lit (.string x.data.toList) :: strs ss := rfl
    rw [hx, DataW.weightsAll]
    rcases List.mem_cons.1 h with rfl | h
    · simp [DataW.weights]
    · exact List.mem_append.2 (.inr (weights_strs e ss s h))
theorem add_cell {w : World} {a : Addr} {i : Nat} {u : Value} (h : w.cell? (a.add i) = some u) : a.add i = ⟨a.block, a.off + i, none⟩ := by
  unfold Addr.add at h ⊢
  split
  · rename_i hi
    rw [if_pos hi] at h
    subst hi
    cases a with
    | mk b o sp =>
      cases sp with
      | none => rfl
      | some x => exfalso; revert h; simp only [World.cell?]; split <;> simp
  · rfl
theorem open_texts {t e j : Nat} {v : Value} {d : DataW H} {ps : List MemPlace} {ts : List TypeId} {ds : List (DataW H)} (ht : P.underlying t = some (.slice e)) (he : P.underlying e = some .string) (hc : P.cellsOf e = 1) (hby : P.bytesOf e = 16)
    (hv : Value.okWide P W .any base t v) (h : DataW.Trod enc P W 0 (fun _ => true) true t v d ps) (hsz : (DataW.weightsEach P ts ds).all (· ≤ reachBytes) = true) (hj : ts[j]? = some t) (hd : ds[j]? = some d) :
    ∃ r : List (List UInt8), Reads W v r.length (tcells r) ∧ r.length ≤ 140737488355328 ∧ ∀ l ∈ r, l.length ≤ 140737488355328 := by
  have h47 := reachBytes_lt
  obtain ⟨a0, len, cap, rfl⟩ := okWide_slice ht hv
  obtain ⟨fuel, hf⟩ := h
  rcases open_strings ht he hc hf with ⟨hcs, hx⟩ | ⟨a, len', cap', ss, hcs, _, hl, hm, hz, hx, hcell, hws⟩
  · simp [Value.cells] at hcs
    obtain ⟨rfl, rfl, rfl⟩ := hcs
    exact ⟨[], Reads.nil _, by simp, by simp⟩
  · simp [Value.cells] at hcs
    obtain ⟨rfl, rfl, rfl⟩ := hcs
    simp at hz
    simp only [Prod.mk.injEq] at hx
    have hd2 := hx.1
    subst hd2
    have s1 := sized_slice hsz hj hd ht
    rw [hby] at s1
    simp only [strs, List.length_map, List.length_take, List.length_drop] at s1
    have hlen : (ss.take len).length = len := by simp; omega
    refine ⟨(ss.take len).map fun s => s.data.toList, ?_, ?_, ?_⟩
    · refine ⟨some a, cap, by rw [List.length_map, hlen], by simp, fun i u hu => ?_⟩
      have hi : i < len := by
        rcases Nat.lt_or_ge i len with h | h
        · exact h
        · rw [List.getElem?_eq_none (by simp [tcells]; omega)] at hu; simp at hu
      have hcl := hcell i (by omega)
      have e1 := add_cell hcl
      have e2 : a = ⟨a.block, a.off, none⟩ := by
        have h0 := add_cell (hcell 0 (by omega))
        simpa [Addr.add] using h0
      rw [e1] at hcl
      refine ⟨a.block, a.off, by rw [← e2], ?_⟩
      rw [hcl, ← hu]
      have hss : i < ss.length := by omega
      simp [tcells, List.getElem?_take, hi, hss, bs_of, List.getD]
    · simp; omega
    · intro l hl
      obtain ⟨s, hs, rfl⟩ := List.mem_map.1 hl
      have hin : s.data.toList.length ∈ DataW.weightsEach P ts ds := by
        refine DataW.weights_mem_each hj hd _ ?_
        simp only [DataW.weights, ht]
        exact List.mem_cons.2 (.inr (List.mem_append.2 (.inl (weights_strs e _ s hs))))
      have := List.all_eq_true.1 hsz _ hin
      simp at this
      simp
      omega
end
end Go.Proofs.YtahmacnmphjhgaaDoor
namespace Go.Proofs.YtahmacnmphjhgaaDoor
open Go.ChangeShapes Go.WideShapes Go.ChangeAt Go.RowKit Oct
open Go.ChangeMaps (open_string shut_string)

section
variable {P : Program} {H : Type} {enc : TypeId × Value → H} {W : World} {α β γ : Type}

/-- whatever the cells of a type read as, they hold an x; its measure is at most the datum's bulk -/
def Opens (enc : TypeId × Value → H) (P : Program) (W : World) (t : TypeId) (mu : α → Nat) (He : List Value → α → Prop) : Prop :=
  ∀ n cs d ps, DataW.trod enc P W 0 (fun _ => true) true n t cs = some (d, ps) → (∀ x ∈ d.weights P t, x ≤ reachBytes) → ∃ x, He cs x ∧ mu x ≤ Rows.uptoBulk d
theorem bulk_range (D : Nat → DataW H) (f : Nat → α) (mu : α → Nat) : ∀ n, (∀ i, i < n → mu (f i) ≤ Rows.uptoBulk (D i)) → (((List.range n).map f).map mu).sum ≤ Rows.uptoBulkAll ((List.range n).map D)
  | 0, _ => by simp
  | n + 1, h => by
    have ih := bulk_range D f mu n (fun i hi => h i (by omega))
    have app : ∀ (l r : List (DataW H)), Rows.uptoBulkAll (l ++ r) = Rows.uptoBulkAll l + Rows.uptoBulkAll r := by
      intro l r
      induction l with
      | nil => simp [Rows.uptoBulkAll]
      | cons x l ih => simp only [List.cons_append, Rows.uptoBulkAll, ih]; omega
    have := h n (by omega)
    simp only [List.range_succ, List.map_append, List.sum_append, app, List.map_cons, List.map_nil, List.sum_cons, List.sum_nil, Rows.uptoBulkAll]
    omega

theorem Opens.imp {t : TypeId} {mu : α → Nat} {He He' : List Value → α → Prop} (h : Opens enc P W t mu He) (hi : ∀ cs x, He cs x → He' cs x) : Opens enc P W t mu He' := by
  intro n cs d ps hd hw
  obtain ⟨x, hx, hb⟩ := h n cs d ps hd hw
  exact ⟨x, hi _ _ hx, hb⟩
/-- v is a row of elements of 'size' cells -/
def SliceOf (W : World) (size : Nat) (He : List Value → α → Prop) (v : Value) (xs : List α) : Prop :=
  ∃ a cap, v = .slice a xs.length cap ∧ xs.length ≤ cap ∧ (a = none → xs.length = 0 ∧ cap = 0) ∧
    ∀ k (h : k < xs.length), ∃ b off cs, a = some ⟨b, off, none⟩ ∧ cs.length = size ∧ (∀ j u, cs[j]? = some u → W.cell? ⟨b, off + k * size + j, none⟩ = some u) ∧ He cs xs[k]

theorem weights_all_mem (e : TypeId) : ∀ (ds : List (DataW H)) (d : DataW H), d ∈ ds → ∀ x ∈ d.weights P e, x ∈ DataW.weightsAll P e ds
  | [], _, h => by simp at h
  | d0 :: ds, d, h => by
    intro x hx
    rw [DataW.weightsAll]
    rcases List.mem_cons.1 h with rfl | h
    · exact List.mem_append.2 (.inl hx)
    · exact List.mem_append.2 (.inr (weights_all_mem e ds d h x hx))

theorem opens_str {t : TypeId} (ht : P.underlying t = some .string) : Opens enc P W t (fun l : List UInt8 => l.length + 1) fun cs (l : List UInt8) => cs = [.string (bs l)] ∧ l.length ≤ 140737488355328 := by
  intro n cs d ps h hw
  obtain ⟨s, rfl, hx, _⟩ := DataW.trod_string ht h
  simp only [Prod.mk.injEq] at hx
  obtain ⟨rfl, rfl⟩ := hx
  have := hw s.data.toList.length (by simp [DataW.weights])
  have h2 := reachBytes_lt
  exact ⟨s.data.toList, ⟨by rw [bs_of], by omega⟩, by simp [Rows.uptoBulk]⟩
theorem opens_int {t : TypeId} {k : IntKind} (ht : P.underlying t = some (.int k)) : Opens enc P W t (fun _ => 1) fun cs (a : Int) => cs = [.int k a] ∧ (Lit.int k a).wf = true := by
  intro n cs d ps h hw
  obtain ⟨a, rfl, hx, hwf⟩ := DataW.trod_int ht h
  simp only [Prod.mk.injEq] at hx
  obtain ⟨rfl, rfl⟩ := hx
  exact ⟨a, ⟨rfl, hwf⟩, by simp [Rows.uptoBulk]⟩
theorem opens_struct2 {t : TypeId} {f0 f1 : Field} {c0 c1 : Nat} {m0 : α → Nat} {m1 : β → Nat} {H0 : List Value → α → Prop} {H1 : List Value → β → Prop} (ht : P.underlying t = some (.struct #[f0, f1])) (hc : P.cellsOf t = c0 + c1)
    (hc0 : P.cellsOf f0.type = c0) (hc1 : P.cellsOf f1.type = c1) (o0 : f0.offset = 0) (o1 : f1.offset = c0)
    (h0 : Opens enc P W f0.type m0 H0) (h1 : Opens enc P W f1.type m1 H1) : Opens enc P W t (fun p => m0 p.1 + m1 p.2 + 1) fun cs (p : α × β) => ∃ cs0 cs1, cs = cs0 ++ cs1 ∧ cs0.length = c0 ∧ cs1.length = c1 ∧ H0 cs0 p.1 ∧ H1 cs1 p.2 := by
  intro n cs d ps h hw
  obtain ⟨y0, y1, m, hx, hl, e0, e1⟩ := trod_struct2 ht h
  simp only [Prod.mk.injEq] at hx
  obtain ⟨rfl, rfl⟩ := hx
  have hw' : ∀ x, x ∈ y0.1.weights P f0.type ∨ x ∈ y1.1.weights P f1.type → x ≤ reachBytes := by
    intro x hx
    refine hw x ?_
    simp only [DataW.weights, ht, DataW.weightsEach, List.map_cons, List.mem_append]
    rcases hx with hx | hx
    · exact .inl hx
    · exact .inr (.inl hx)
  obtain ⟨x0, k0, b0⟩ := h0 _ _ _ _ e0 (fun x hx => hw' x (.inl hx))
  obtain ⟨x1, k1, b1⟩ := h1 _ _ _ _ e1 (fun x hx => hw' x (.inr hx))
  rw [o0, hc0, List.drop_zero] at k0
  rw [o1, hc1] at k1
  refine ⟨(x0, x1), ⟨cs.take c0, (cs.drop c0).take c1, ?_, ?_, ?_, k0, k1⟩, by simp only [Rows.uptoBulk, Rows.uptoBulkAll]; omega⟩
  · have : (cs.drop c0).take c1 = cs.drop c0 := List.take_of_length_le (by simp; omega)
    rw [this, List.take_append_drop]
  · simp; omega
  · simp; omega
theorem opens_slice {t e : TypeId} {size : Nat} {mu : α → Nat} {He : List Value → α → Prop} (ht : P.underlying t = some (.slice e)) (hc : P.cellsOf e = size) (hpos : 0 < size) (he : Opens enc P W e mu He) :
    Opens enc P W t (fun xs => (xs.map mu).sum + 1) fun cs (xs : List α) => ∃ v, cs = [v] ∧ SliceOf W size He v xs ∧ xs.length * P.bytesOf e ≤ reachBytes := by
  intro n cs d ps h hw
  rcases Deep.open_slice ht h with ⟨rfl, hx⟩ | ⟨a, len, cap, m, n', D, Pl, rfl, _, hl, hm, hmm, hx, hcell⟩
  · simp only [Prod.mk.injEq] at hx
    obtain ⟨rfl, _⟩ := hx
    exact ⟨[], ⟨_, rfl, ⟨none, 0, rfl, Nat.le_refl _, fun _ => ⟨rfl, rfl⟩, fun k hk => by simp at hk⟩, by simp⟩, by simp [Rows.uptoBulk]⟩
  · simp only [Prod.mk.injEq] at hx
    obtain ⟨rfl, _⟩ := hx
    simp only [if_true] at hmm
    subst hmm
    have hin : ∀ i, i < len → ∀ x ∈ (D i).weights P e, x ≤ reachBytes := by
      intro i hi x hx
      refine hw x ?_
      simp only [DataW.weights, ht]
      exact List.mem_cons.2 (.inr (List.mem_append.2 (.inl (weights_all_mem e _ (D i) (List.mem_map.2 ⟨i, by simpa using hi, rfl⟩) x hx))))
    have each : ∀ i, i < len → ∃ x : α, (∃ cs', W.cells? 0 (a.add (i * size)) size = some cs' ∧ He cs' x) ∧ mu x ≤ Rows.uptoBulk (D i) := by
      intro i hi
      obtain ⟨cs', h1, h2⟩ := hcell i (by omega)
      rw [hc] at h1
      obtain ⟨x, hx, hb⟩ := he _ _ _ _ h2 (hin i hi)
      exact ⟨x, ⟨cs', h1, hx⟩, hb⟩
    have hlen := hw ((len + (m - len)) * P.bytesOf e) (by simp [DataW.weights, ht])
    have hlb : len * P.bytesOf e ≤ (len + (m - len)) * P.bytesOf e := Nat.mul_le_mul_right _ (by omega)
    by_cases h0 : len = 0
    · subst h0
      exact ⟨[], ⟨_, rfl, ⟨some a, m, rfl, Nat.zero_le _, by simp, fun k hk => by simp at hk⟩, by simp⟩, by simp [Rows.uptoBulk]⟩
    obtain ⟨x0, _⟩ := each 0 (by omega)
    haveI : Inhabited α := ⟨x0⟩
    obtain ⟨f, hf⟩ := Deep.choose_lt each
    have haddr : a = ⟨a.block, a.off, none⟩ := by
      obtain ⟨⟨cs', h1, _⟩, _⟩ := hf 0 (by omega)
      obtain ⟨_, hl', hcs⟩ := World.cells?_some h1
      have h2 := hcs 0 (by omega)
      rw [Nat.zero_mul] at h2
      have h3 : ∃ u, cs'[0]? = some u := ⟨cs'[0]'(by omega), List.getElem?_eq_getElem _⟩
      obtain ⟨u, hu⟩ := h3
      rw [hu] at h2
      have := add_cell (a := a.add 0) (i := 0) h2
      simpa [Addr.add] using this
    have hbulk := bulk_range D f mu len (fun i hi => (hf i hi).2)
    refine ⟨(List.range len).map f, ⟨_, rfl, ⟨some a, m, by simp, by simpa using hl, by simp, ?_⟩, ?_⟩, by simp only [Rows.uptoBulk]; omega⟩
    · intro k hk
      have hk' : k < len := by simpa using hk
      obtain ⟨⟨cs', h1, hHe⟩, _⟩ := hf k hk'
      obtain ⟨_, hl', hcs⟩ := World.cells?_some h1
      refine ⟨a.block, a.off, cs', by rw [← haddr], hl', ?_, by simpa using hHe⟩
      intro j u hj
      have hjl : j < size := by
        rcases Nat.lt_or_ge j size with h | h
        · exact h
        · rw [List.getElem?_eq_none (by omega)] at hj; cases hj
      have h2 := hcs j hjl
      rw [haddr, hj, Addr.add_lit, Addr.add_lit] at h2
      rw [← h2]
    · simp only [List.length_map, List.length_range]; omega

theorem open_any {t j : Nat} {v : Value} {d : DataW H} {ps : List MemPlace} {ts : List TypeId} {ds : List (DataW H)} {mu : α → Nat} {He : List Value → α → Prop} (ho : Opens enc P W t mu He)
    (h : DataW.Trod enc P W 0 (fun _ => true) true t v d ps) (hsz : (DataW.weightsEach P ts ds).all (· ≤ reachBytes) = true) (hj : ts[j]? = some t) (hd : ds[j]? = some d) : ∃ x, He v.cells.toList x ∧ mu x ≤ Rows.uptoBulk d := by
  obtain ⟨fuel, hf⟩ := h
  refine ho _ _ _ _ hf fun x hx => ?_
  simpa using List.all_eq_true.1 hsz x (DataW.weights_mem_each hj hd x hx)
theorem cells_slice {base : Nat} {t e : TypeId} {v v' : Value} (ht : P.underlying t = some (.slice e)) (hv : Value.okWide P W .any base t v) (h : v.cells.toList = [v']) : v = v' := by
  obtain ⟨a0, len, cap, rfl⟩ := okWide_slice ht hv
  simpa [Value.cells] using h
end
end Go.Proofs.YtahmacnmphjhgaaDoor
namespace Go.Proofs.YtahmacnmphjhgaaDoor
open Go.ChangeShapes Go.WideShapes Go.ChangeAt Go.RowKit Oct

section
variable {H : Type} {enc : TypeId × Value → H} {W : World}
theorem rec_of {α : Type} (R : Rec α) {He : List Value → α → Prop} (hcs0 : ∀ cs x, He cs x → cs = R.cell x) {v : Value} {xs : List α} (h : SliceOf W R.n He v xs) : R.Row W v xs ∧ ∀ x ∈ xs, ∃ cs, He cs x := by
  obtain ⟨a, cap, rfl, hle, hn, hc⟩ := h
  have hpos := R.pos
  refine ⟨⟨⟨a, cap, rfl, hn, ?_⟩, a, cap, rfl, hle⟩, ?_⟩
  · intro j u hj
    have hjl : j < xs.length * R.n := by
      rcases Nat.lt_or_ge j (xs.length * R.n) with h | h
      · exact h
      · rw [List.getElem?_eq_none (by rw [Rec.cells_length]; exact h)] at hj; cases hj
    have hk : j / R.n < xs.length := Nat.div_lt_of_lt_mul (by rw [Nat.mul_comm]; exact hjl)
    obtain ⟨b, off, cs, ha, hl, hcell, hcs⟩ := hc (j / R.n) hk
    obtain rfl := hcs0 _ _ hcs
    refine ⟨b, off, ha, ?_⟩
    have hm : j % R.n < R.n := Nat.mod_lt _ hpos
    have hu : (R.cell xs[j / R.n])[j % R.n]? = some ((R.cell xs[j / R.n])[j % R.n]'(by rw [R.len]; exact hm)) := List.getElem?_eq_getElem _
    have h1 := R.cells_at xs (j / R.n) hk (j % R.n) _ hu
    have e : j / R.n * R.n + j % R.n = j := Nat.div_add_mod' j R.n
    rw [e, hj] at h1
    have h2 := hcell (j % R.n) _ hu
    rw [← Option.some.inj h1, Nat.add_assoc, e] at h2
    exact h2
  · intro p hp
    obtain ⟨k, hk, rfl⟩ := List.getElem_of_mem hp
    obtain ⟨_, _, cs, _, _, _, h⟩ := hc k hk
    exact ⟨cs, h⟩
set_option maxRecDepth 100000 in
theorem open_strs {base j : Nat} {v : Value} {d : DataW H} {ps : List MemPlace} {ts : List TypeId} {ds : List (DataW H)}
    (hv : Value.okWide Tryd.prog W .any base 22 v) (h : DataW.Trod enc Tryd.prog W 0 (fun _ => true) true 22 v d ps) (hsz : (DataW.weightsEach Tryd.prog ts ds).all (· ≤ reachBytes) = true) (hj : ts[j]? = some 22) (hd : ds[j]? = some d) :
    ∃ l : List (List UInt8), recS.Row W v l ∧ l.length ≤ 140737488355328 ∧ ∀ s ∈ l, s.length ≤ 140737488355328 := by
  have ho : Opens enc Tryd.prog W 22 _ _ := opens_slice (size := 1) Tryd.underlying22 (by kernel_rfl) (by decide) (opens_str Tryd.underlying9)
  obtain ⟨l, ⟨v', hcs, h1, h2⟩, _⟩ := open_any ho h hsz hj hd
  obtain rfl := cells_slice Tryd.underlying22 hv hcs
  have hby : Tryd.prog.bytesOf 9 = 16 := by kernel_rfl
  rw [hby] at h2
  have h3 := reachBytes_lt
  obtain ⟨h4, h5⟩ := rec_of recS (fun cs x h => h.1) h1
  exact ⟨l, h4, by omega, fun s hs => by obtain ⟨cs, _, h⟩ := h5 s hs; exact h⟩
end
end Go.Proofs.YtahmacnmphjhgaaDoor
namespace Go.Proofs.YtahmacnmphjhgaaDoor
open Go.ChangeShapes Go.WideShapes Go.ChangeAt Go.RowKit Oct

theorem u8_nat {a : Int} (h : (Lit.int .u8 a).wf = true) : ∃ r : UInt8, a = (r.toNat : Int) := by
  have h2 : 0 ≤ a ∧ a < 256 := by
    simp [Lit.wf, IntKind.min, IntKind.max, IntKind.signed, IntKind.bits] at h
    omega
  refine ⟨UInt8.ofNat a.toNat, ?_⟩
  rw [UInt8.toNat_ofNat']
  omega
section
variable {H : Type} {enc : TypeId × Value → H} {W : World}
theorem Opens.mapV {P : Program} {α β : Type} {t : TypeId} {mu : α → Nat} {mu' : β → Nat} {He : List Value → α → Prop} {He' : List Value → β → Prop} (h : Opens enc P W t mu He) (hi : ∀ cs x, He cs x → ∃ y, He' cs y ∧ mu' y ≤ mu x) : Opens enc P W t mu' He' := by
  intro n cs d ps hd hw
  obtain ⟨x, hx, hb⟩ := h n cs d ps hd hw
  obtain ⟨y, hy, hm⟩ := hi _ _ hx
  exact ⟨y, hy, Nat.le_trans hm hb⟩
theorem opens_ins : Opens enc Tryd.prog W 33 (fun _ : VI => 0) fun cs x => cs = recIns.cell x := by
  refine Opens.mapV (opens_struct2 (c0 := 1) (c1 := 1) Tryd.underlying33 (by kernel_rfl) (by kernel_rfl) (by kernel_rfl) rfl rfl (opens_int (k := .u8) Tryd.underlying5) (opens_int (k := .u8) Tryd.underlying5)) ?_
  rintro cs ⟨a, b⟩ ⟨cs0, cs1, rfl, _, _, ⟨rfl, h0⟩, rfl, h1⟩
  obtain ⟨r0, rfl⟩ := u8_nat h0
  obtain ⟨r1, rfl⟩ := u8_nat h1
  exact ⟨(r0, r1), rfl, Nat.zero_le _⟩
set_option maxRecDepth 100000 in
theorem open_prog {base j : Nat} {v : Value} {d : DataW H} {ps : List MemPlace} {ts : List TypeId} {ds : List (DataW H)}
    (hv : Value.okWide Tryd.prog W .any base 25 v) (h : DataW.Trod enc Tryd.prog W 0 (fun _ => true) true 25 v d ps) (hsz : (DataW.weightsEach Tryd.prog ts ds).all (· ≤ reachBytes) = true) (hj : ts[j]? = some 25) (hd : ds[j]? = some d) :
    ∃ (tv cv : Value) (texts : List (List UInt8)) (code : List VI), v = .agg #[tv, cv] ∧ ProgR W tv cv texts code := by
  have h3 := reachBytes_lt
  have o1 : Opens enc Tryd.prog W 22 _ _ := opens_slice (size := 1) Tryd.underlying22 (by kernel_rfl) (by decide) (opens_str Tryd.underlying9)
  have o2 : Opens enc Tryd.prog W 23 _ _ := opens_slice (size := 2) Tryd.underlying23 (by kernel_rfl) (by decide) opens_ins
  obtain ⟨⟨texts, code⟩, ⟨cs0, cs1, hcs, _, _, ⟨tv, rfl, h1, h2⟩, cv, rfl, h4, h5⟩, _⟩ := open_any (opens_struct2 (c0 := 1) (c1 := 1) Tryd.underlying25 (by kernel_rfl) (by kernel_rfl) (by kernel_rfl) rfl rfl o1 o2) h hsz hj hd
  have hb1 : Tryd.prog.bytesOf 9 = 16 := by kernel_rfl
  have hb2 : Tryd.prog.bytesOf 33 = 2 := by kernel_rfl
  rw [hb1] at h2
  rw [hb2] at h5
  obtain ⟨r1, r2⟩ := rec_of recS (fun cs x h => h.1) h1
  obtain ⟨r3, _⟩ := rec_of recIns (fun cs x h => h) h4
  obtain ⟨cs, rfl, hsize⟩ := okWide_struct Tryd.underlying25 hv
  refine ⟨tv, cv, texts, code, ?_, ⟨r1, r3, ?_, ?_, fun s hs => by obtain ⟨cs, _, h⟩ := r2 s hs; exact h⟩⟩
  · have e : cs.toList = [tv, cv] := by simpa [Value.cells] using hcs
    rw [show cs = #[tv, cv] from by rw [← Array.toArray_toList (xs := cs), e]]
  · have h2' : texts.length * 16 ≤ reachBytes := h2
    omega
  · have h5' : code.length * 2 ≤ reachBytes := h5
    omega
end

/-- what is listed of the package's variables -/
def laidV : List (String × DataW Unit) := [("unicode/utf8.acceptRanges", Rows.laid_unicode_utf8_acceptRanges), ("maslin/verify.effects", Rows.laid_maslin_verify_effects), ("unicode/utf8.first", Rows.laid_unicode_utf8_first)]
theorem laid_effs : Rows.laid_maslin_verify_effects (H := Unit) = .agg (effs.map fun e => .agg [.lit (.string e.1), .lit (.string e.2)]) := by kernel_rfl
theorem str_eqV {s : ByteArray} {l : List UInt8} (h : s.data.toList = l) : Value.string s = .string (bs l) := by subst h; rw [bs_of]
set_option maxRecDepth 100000 in
theorem eff_of_laid {W : World} (h : laidMetH Tryd.prog laidV W) : EffM W ∧ 0 < W.heap.size := by
  rw [MakeChecks.laidMetH_plain _ _ _ (by kernel_rfl)] at h
  obtain ⟨g, t, cs, fuel, p, hg, ht, hv, hd⟩ := Lib.laidMet.reads (n := "maslin/verify.effects") (d := Rows.laid_maslin_verify_effects) h (.tail _ (.head _))
  obtain rfl := Option.some.inj ((show Tryd.prog.globalNamed "maslin/verify.effects" = some 0 by kernel_rfl).symm.trans hg)
  obtain rfl := Option.some.inj ((show (Tryd.prog.globals[0]?).map (·.type) = some 86 by kernel_rfl).symm.trans ht)
  rw [laid_effs] at hd
  obtain ⟨xs, m, _, ex, _, hl, hel⟩ := DataW.trod_array Tryd.underlying86 hd
  have c2 : Tryd.prog.cellsOf 85 = 2 := by kernel_rfl
  have c1 : Tryd.prog.cellsOf 9 = 1 := by kernel_rfl
  have e3 : xs.map (·.1) = effs.map fun e => .agg [.lit (.string e.1), .lit (.string e.2)] := (DataW.agg.inj (Prod.mk.inj ex).1).symm
  have key : EffM W := by
    intro k hk
    have hE := hel k hk
    rw [c2, List.getElem?_eq_getElem (by omega)] at hE
    have hlen : effs.length = 24 := effs_len
    have e4 : (xs.map (·.1))[k]? = (effs.map fun e => (DataW.agg [.lit (.string e.1), .lit (.string e.2)] : DataW Unit))[k]? := by rw [e3]
    rw [List.getElem?_map, List.getElem?_map, List.getElem?_eq_getElem (by omega : k < xs.length), List.getElem?_eq_getElem (by omega : k < effs.length)] at e4
    obtain ⟨y0, y1, n, hx, _, t0, t1⟩ := trod_struct2 Tryd.underlying85 hE
    obtain ⟨s0, q0, hy0, _⟩ := DataW.trod_string Tryd.underlying9 t0
    obtain ⟨s1, q1, hy1, _⟩ := DataW.trod_string Tryd.underlying9 t1
    rw [hx, hy0, hy1] at e4
    simp only [Option.map_some, Option.some.injEq, DataW.agg.injEq, List.cons.injEq, DataW.lit.injEq, Lit.string.injEq, and_true] at e4
    have hd' : effs.getD k ([], []) = effs[k]'(by omega) := by rw [List.getD, List.getElem?_eq_getElem (by omega : k < effs.length)]; rfl
    rw [World.var?_cell hg hv, World.var?_cell hg hv, hd']
    rw [c1] at q0 q1
    have p0 : cs.toList[k * 2]? = some (.string s0) := by
      have : ((((cs.toList.drop (k * 2)).take 2).drop 0).take 1)[0]? = some (.string s0) := by rw [q0]; rfl
      simpa using this
    have p1 : cs.toList[k * 2 + 1]? = some (.string s1) := by
      have : ((((cs.toList.drop (k * 2)).take 2).drop 1).take 1)[0]? = some (.string s1) := by rw [q1]; rfl
      simpa using this
    refine ⟨?_, ?_⟩
    · rw [← str_eqV e4.1]; simpa using p0
    · rw [← str_eqV e4.2]; simpa using p1
  refine ⟨key, ?_⟩
  have := (key 0 (by decide)).1
  rcases Nat.lt_or_ge 0 W.heap.size with hn | hn
  · exact hn
  · exfalso
    rw [World.cell?, Array.getElem?_eq_none hn] at this
    cases this
end Go.Proofs.YtahmacnmphjhgaaDoor
