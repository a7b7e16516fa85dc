/- Lemmas for FoldTells, part 20: walks of the functions that it reaches, and the plain laws behind them. -/
import Derived.Test.YtehllcbnheicoaaGreatDoorFoldTellsK7
import Derived.Test.YtehllcbnheicoaaGreatDoorFoldTellsK19
set_option linter.unusedSimpArgs false
set_option linter.unusedVariables false
set_option maxRecDepth 100000
set_option maxHeartbeats 16000000
namespace Go.Proofs.YtehllcbnheicoaaGreatDoor
open Go.RowKit
theorem mayV_textsM {t : List (List UInt8)} {c : List VI} (h : mayV t c = true) : ∀ s ∈ t,s.length ≤ 64:=by
 unfold mayV at h
 simp only [Bool.and_eq_true,List.all_eq_true,decide_eq_true_eq] at h
 exact h.1.2
section
variable {nt inp : Nat} {role : UInt8} {E : Me}
theorem runM_end (f : Nat) (m : Mc) (h : ¬ m.pc < E.code.length) : runM E f m = (0,m):=by cases f <;> simp [runM,h]
theorem runM_fuel (m : Mc) (h : m.pc < E.code.length) : runM E 0 m = (140,m):=by simp [runM,h]
theorem runM_bad {f : Nat} {m : Mc} (h : m.pc < E.code.length) (h0 : (doM E (xM E m) m).1 ≠ 0) : runM E (f + 1) m = doM E (xM E m) m:=by rw [runM,if_pos h,if_neg h0]
theorem runM_on {f : Nat} {m : Mc} (h : m.pc < E.code.length) (h0 : (doM E (xM E m) m).1 = 0) : runM E (f + 1) m = runM E f (doM E (xM E m) m).2:=by rw [runM,if_pos h,if_pos h0]
theorem runM_ok (G : GoodM nt inp role E) : ∀ (f : Nat) (m : Mc),OkM (sM nt inp role E) E m → (runM E f m).1 = 0 → OkM (sM nt inp role E) E (runM E f m).2 ∧ (runM E f m).2.pc = E.code.length
 | f,m,h,h0 => by
  by_cases hpc : m.pc < E.code.length
  ·cases f with
   | zero => rw [runM_fuel m hpc] at h0; cases h0
   | succ f =>
    by_cases hd : (doM E (xM E m) m).1 = 0
    ·rw [runM_on hpc hd] at h0 ⊢
     exact runM_ok G f _ ((doM_ok G h hpc).2 hd) h0
    ·rw [runM_bad hpc hd] at h0
     exact absurd h0 hd
  ·rw [runM_end f m hpc]
   exact ⟨h,by show m.pc = _; have:=h.pc; omega⟩
theorem startM_ok : OkM (sM nt inp role E) E startM:=by
 refine ⟨Nat.zero_le _,rfl,rfl,by simp [startM],fun v hv => by simp [startM] at hv,fun v hv => ?_,fun v hv => by simp [startM] at hv,by simp [startM],fun v hv => by simp [startM] at hv⟩
 have : v = (0,[]):=by
  have hv : v ∈ List.replicate 8 ((0,[]) : MV):=hv
  exact (List.mem_replicate.1 hv).2
 subst this
 exact ⟨by decide,by decide,by decide⟩
def ranV (E : Me) (role : UInt8) (fuel : Nat) : Nat × List (List UInt8 × List UInt8) × List UInt8 :=
 if (runM E fuel startM).1 = 0 then (0,(runM E fuel startM).2.pr,if role = 1 then [] else ((runM E fuel startM).2.st.headD (0,[])).2) else ((runM E fuel startM).1,[],[])
theorem goodM_of {texts : List (List UInt8)} {code : List VI} {role : UInt8} (h : (throughV texts code role).2.1 = 0) {ins : List (List UInt8)} (hl : ins.length = inputsV role) (hi : ∀ s ∈ ins,s.length ≤ 1024) :
  GoodM texts.length (inputsV role) role ⟨texts,code,ins,(throughV texts code role).2.2.ends⟩ ∧ (sM texts.length (inputsV role) role ⟨texts,code,ins,(throughV texts code role).2.2.ends⟩ code.length).kinds = wantV role:=by
 obtain ⟨hm,-,n,hr⟩:=throughV_ok h
 obtain ⟨t,ht⟩ : ∃ t,t = (throughV texts code role).2.2:=⟨_,rfl⟩
 rw [← ht] at hr ⊢
 obtain ⟨hok,hst,hov⟩:=runV_st code 0 rfl (Nat.zero_le _) hr
 have hbl : t.blocks = [] ∧ t.kinds = wantV role:=by
  unfold overV at hov
  split at hov
  ·cases hov
  rename_i hb
  split at hov
  ·cases hov
  split at hov
  ·cases hov
  rename_i hk
  exact ⟨List.eq_nil_of_length_eq_zero (by omega),Decidable.byContradiction hk⟩
 have hmi : ∀ x ∈ code,insOk x = true:=by
  unfold mayV at hm
  simp only [Bool.and_eq_true,List.all_eq_true] at hm
  exact hm.2
 refine ⟨⟨hmi,fun j hj => hok j (Nat.zero_le _) hj,by show (stV _ _ role code code.length).blocks = []; rw [hst]; exact hbl.1,by show t.ends = (stV _ _ role code code.length).ends; rw [hst],rfl,fun s hs => by have:=(mayV_textsM hm) s hs; omega,hl,hi⟩,?_⟩
 show (stV _ _ role code code.length).kinds = _
 rw [hst]
 exact hbl.2
end
end Go.Proofs.YtehllcbnheicoaaGreatDoor
namespace Go.Proofs.YtehllcbnheicoaaGreatDoor
open Go.RowKit Oct
theorem wpG_nilM7 {P : Program} {ops : Array Oper} {C : World → Prop} {R : World → World → Prop} {F : Nat → Option (Known R)} {Q : Facts → Act → Prop} {k : Nat} {S : Facts} {a : Act} (h : Q S a) : wpG P ops C R F Q k [] S a:=h
attribute [local irreducible] wpG
def recMV : Rec MV where
 cell v:=[.int .i64 v.1,.string (bs v.2)]
 e:=223
 n:=2
 bytes:=24
 z:=.agg #[.int .i64 0,.string ByteArray.empty]
 len:=fun _ => rfl
 one:=by intro x u h; simp at h; rcases h with rfl | rfl <;> rfl
 info:=by kernel_rfl
 zs:=rfl
 pos:=by decide
 bpos:=by decide
structure Eo where
 at_ : Nat
 bm : Nat
 bt : Nat
 bc : Nat
 more : Bool
 rest : List UInt8
 by_ : UInt8
def eoF (e : Eo) : Value:=.func (.func 297) #[] #[.pointer (some ⟨e.bm,0,none⟩),.pointer (some ⟨e.bt,0,none⟩),.pointer (some ⟨e.bc,0,none⟩)]
def recEa : Rec Eo where
 cell e:=[.int .i64 (e.at_ : Int),eoF e]
 e:=351
 n:=2
 bytes:=16
 z:=.agg #[.int .i64 0,.nilFunc]
 len:=fun _ => rfl
 one:=by intro x u h; simp at h; rcases h with rfl | rfl <;> rfl
 info:=by kernel_rfl
 zs:=rfl
 pos:=by decide
 bpos:=by decide
def recKv : Rec (List UInt8 × List UInt8) where
 cell v:=[.string (bs v.1),.string (bs v.2)]
 e:=62
 n:=2
 bytes:=32
 z:=.agg #[.string ByteArray.empty,.string ByteArray.empty]
 len:=fun _ => rfl
 one:=by intro x u h; simp at h; rcases h with rfl | rfl <;> rfl
 info:=by kernel_rfl
 zs:=rfl
 pos:=by decide
 bpos:=by decide
def eoIn (k : Nat) (e : Eo) : Prop:=k = e.bm ∨ k = e.bt ∨ k = e.bc
def boxOk (base : Nat) (w : World) (e : Eo) : Prop:=Blk w e.bm 4 [.bool e.more] ∧ Blk w e.bt 9 [.string (bs e.rest)] ∧ Blk w e.bc 5 [.int .u8 (e.by_.toNat : Int)] ∧ base ≤ e.bm ∧ base ≤ e.bt ∧ base ≤ e.bc ∧ e.bm ≠ e.bt ∧ e.bm ≠ e.bc ∧ e.bt ≠ e.bc
def boxPt {base : Nat} (l : List Eo) : Pt base where
 fp k:=∃ e ∈ l,eoIn k e
 P w:=(∀ e ∈ l,boxOk base w e) ∧ l.Pairwise fun e f => ∀ k,eoIn k e → ¬ eoIn k f
 frame:=fun h hc hX => ⟨fun e he => by
  obtain ⟨h1,h2,h3,h4⟩:=h.1 e he
  exact ⟨h1.chg hc (hX _ ⟨e,he,.inl rfl⟩),h2.chg hc (hX _ ⟨e,he,.inr (.inl rfl)⟩),h3.chg hc (hX _ ⟨e,he,.inr (.inr rfl)⟩),h4⟩,h.2⟩
 lt:=fun h k hk => by
  obtain ⟨e,he,hk⟩:=hk
  obtain ⟨h1,h2,h3,b1,b2,b3,-⟩:=h.1 e he
  rcases hk with rfl | rfl | rfl
  ·exact ⟨b1,h1.lt⟩
  ·exact ⟨b2,h2.lt⟩
  ·exact ⟨b3,h3.lt⟩
structure Mf where
 tv : Value
 cv : Value
 iv : Value
 ev : Value
 lv : Value
 tx : List UInt8
 sn : Int
def mCells (f : Mf) (at_ : Int) (stv : Value) (rg : List MV) (opv prv : Value) (txt : List UInt8) (steps : Int) (trv : Value) : List Value :=
 [f.tv,f.cv,f.iv,f.ev,f.lv,.int .i64 at_,stv] ++ (recMV.cells rg ++ [opv,prv,.string (bs txt),.int .i64 steps,trv])
structure MR (base : Nat) (w : World) (G : Nat) (f : Mf) (at_ : Int) (st rg : List MV) (eos : List Eo) (pr : List (List UInt8 × List UInt8)) (tr : List Int) (stv opv prv trv : Value) (X : List (Pt base)) : Prop where
 gb : base ≤ G
 rl : rg.length = 8
 sep : Sep base w (blkPt G gb 227 (mCells f at_ stv rg opv prv f.tx f.sn trv) :: ownPt recMV stv st.reverse :: ownPt recEa opv eos :: boxPt eos :: ownPt recKv prv pr :: ownPt recJ trv tr :: X)
section
variable {base G : Nat} {w w' w3 : World} {f : Mf} {at_ : Int} {st rg : List MV} {eos : List Eo} {pr : List (List UInt8 × List UInt8)} {tr : List Int} {stv stv' opv opv' prv prv' trv trv' : Value} {X : List (Pt base)}
theorem eightM {α : Type} {l : List α} (h : l.length = 8) : ∃ a b c d e f g i,l = [a,b,c,d,e,f,g,i]:=by
 match l,h with
 | [a,b,c,d,e,f,g,i],_ => exact ⟨a,b,c,d,e,f,g,i,rfl⟩
theorem MR.blk (h : MR base w G f at_ st rg eos pr tr stv opv prv trv X) : Blk w G 227 (mCells f at_ stv rg opv prv f.tx f.sn trv):=h.sep.get (i:=0) rfl
theorem MR.os (h : MR base w G f at_ st rg eos pr tr stv opv prv trv X) : recMV.Own w base stv st.reverse:=h.sep.get (i:=1) rfl
theorem MR.oo (h : MR base w G f at_ st rg eos pr tr stv opv prv trv X) : recEa.Own w base opv eos:=h.sep.get (i:=2) rfl
theorem MR.ob (h : MR base w G f at_ st rg eos pr tr stv opv prv trv X) : (∀ e ∈ eos,boxOk base w e) ∧ eos.Pairwise fun e f => ∀ k,eoIn k e → ¬ eoIn k f:=h.sep.get (i:=3) rfl
theorem MR.op (h : MR base w G f at_ st rg eos pr tr stv opv prv trv X) : recKv.Own w base prv pr:=h.sep.get (i:=4) rfl
theorem MR.ot (h : MR base w G f at_ st rg eos pr tr stv opv prv trv X) : recJ.Own w base trv tr:=h.sep.get (i:=5) rfl
theorem MR.size (h : MR base w G f at_ st rg eos pr tr stv opv prv trv X) : base ≤ w.heap.size:=Nat.le_trans h.gb (Nat.le_of_lt h.blk.lt)
theorem MR.below (h : MR base w G f at_ st rg eos pr tr stv opv prv trv X) (hB : Below w.heap.size w w') : MR base w' G f at_ st rg eos pr tr stv opv prv trv X:=⟨h.gb,h.rl,h.sep.below hB⟩
theorem MR.add (h : MR base w G f at_ st rg eos pr tr stv opv prv trv X) (cs : List Value) (t : TypeId) : MR base (w.alloc (.cells cs.toArray t)) G f at_ st rg eos pr tr stv opv prv trv (X ++ [blkPt w.heap.size h.size t cs]) :=
 ⟨h.gb,h.rl,h.sep.snoc (b_alloc _ _) (blkPt w.heap.size h.size t cs) (Blk.new w cs t) (fun k hk => by rw [show k = w.heap.size from hk]; exact Nat.le_refl _)⟩
theorem MR.drop {Y : List (Pt base)} (h : MR base w G f at_ st rg eos pr tr stv opv prv trv (X ++ Y)) : MR base w G f at_ st rg eos pr tr stv opv prv trv X:=⟨h.gb,h.rl,Sep.init (p:=Y) h.sep⟩
theorem MR.loc {p : Pt base} (h : MR base w G f at_ st rg eos pr tr stv opv prv trv X) (hp : p ∈ X) : p.P w:=h.sep.1 p (by simp [hp])
theorem MR.updX (h : MR base w G f at_ st rg eos pr tr stv opv prv trv X) {Y : Nat → Prop} {i : Nat} {p : Pt base} (hi : X[i]? = some p) (hc : Chg Y w w') (hY : ∀ k,Y k → p.fp k) (q : Pt base) (hq : q.P w') (hf : ∀ k,q.fp k → p.fp k) :
  MR base w' G f at_ st rg eos pr tr stv opv prv trv (X.set i q) ∧ Below base w w' :=
 ⟨⟨h.gb,h.rl,h.sep.upd (i:=i + 6) hi hc hY q hq (fun k hk => .inl (hf k hk))⟩,h.sep.updB (i:=i + 6) hi hc hY h.size⟩
theorem MR.cell (h : MR base w G f at_ st rg eos pr tr stv opv prv trv X) {k : Nat} {v : Value} (hv : [f.tv,f.cv,f.iv,f.ev,f.lv,.int .i64 at_,stv][k]? = some v) : w.cell? ⟨G,k,none⟩ = some v:=by
 refine h.blk.cell (k:=k) ?_
 unfold mCells
 rw [List.getElem?_append_left (List.getElem?_eq_some_iff.1 hv).1]
 exact hv
theorem MR.cellR (h : MR base w G f at_ st rg eos pr tr stv opv prv trv X) {k : Nat} {v : Value} (hv : [opv,prv,.string (bs f.tx),.int .i64 f.sn,trv][k]? = some v) : w.cell? ⟨G,23 + k,none⟩ = some v:=by
 refine h.blk.cell (k:=23 + k) ?_
 obtain ⟨a,b,c,d,e,f',g,i,rfl⟩:=eightM h.rl
 unfold mCells
 rw [List.getElem?_append_right (by simp; omega),List.getElem?_append_right (by simp [Rec.cells,recMV]; omega)]
 rw [← hv]
 congr 1
 simp [Rec.cells,recMV]
 omega
theorem MR.reg (h : MR base w G f at_ st rg eos pr tr stv opv prv trv X) {i : Nat} (hi : i < 8) : w.cell? ⟨G,7 + i * 2,none⟩ = some (.int .i64 (rg.getD i (0,[])).1) ∧ w.cell? ⟨G,7 + i * 2 + 1,none⟩ = some (.string (bs (rg.getD i (0,[])).2)):=by
 obtain ⟨a,b,c,d,e,f',g,j,hr⟩:=eightM h.rl
 have hb:=h.blk
 rw [hr] at hb ⊢
 rcases (by omega : i = 0 ∨ i = 1 ∨ i = 2 ∨ i = 3 ∨ i = 4 ∨ i = 5 ∨ i = 6 ∨ i = 7) with rfl | rfl | rfl | rfl | rfl | rfl | rfl | rfl <;> exact ⟨hb.cell (by rfl),hb.cell (by rfl)⟩
theorem MR.free (h : MR base w G f at_ st rg eos pr tr stv opv prv trv X) {k : Nat} (hk : k < 28) : w.frozen? ⟨G,k,none⟩ = false:=by
 refine h.blk.free ?_
 obtain ⟨a,b,c,d,e,f',g,j,hr⟩:=eightM h.rl
 rw [hr]
 exact hk
theorem MR.slices (h : MR base w G f at_ st rg eos pr tr stv opv prv trv X) : (∃ a c,stv = .slice a st.length c) ∧ (∃ a c,opv = .slice a eos.length c) ∧ (∃ a c,prv = .slice a pr.length c) ∧ ∃ a c,trv = .slice a tr.length c:=by
 obtain ⟨a,c,e⟩:=owns_slice h.os
 rw [List.length_reverse] at e
 exact ⟨⟨a,c,e⟩,owns_slice h.oo,owns_slice h.op,owns_slice h.ot⟩
theorem MR.newS (h : MR base w G f at_ st rg eos pr tr stv opv prv trv X) {l : List MV} (hc : Chg (fun k => stv.ownBlock = some k) w w3) (hg : ∀ k,stv'.ownBlock = some k → stv.ownBlock = some k ∨ w.heap.size ≤ k) (ho : recMV.Own w3 base stv' l.reverse) :
  MR base (w3.setCell ⟨G,6,none⟩ stv') G f at_ l rg eos pr tr stv' opv prv trv X ∧ Below base w (w3.setCell ⟨G,6,none⟩ stv') ∧ Blk w3 G 227 (mCells f at_ stv rg opv prv f.tx f.sn trv):=by
 have s1:=h.sep.upd (i:=1) rfl hc (fun k hk => hk) (ownPt recMV stv' l.reverse) ho hg
 have hs : Chg (fun k => k = G) w3 (w3.setCell ⟨G,6,none⟩ stv'):=Chg.setCell _ _ _ rfl
 have b3 : Blk w3 G 227 (mCells f at_ stv rg opv prv f.tx f.sn trv):=s1.get (i:=0) rfl
 have s2:=s1.upd (i:=0) rfl hs (fun k hk => hk) (blkPt G h.gb 227 (mCells f at_ stv' rg opv prv f.tx f.sn trv)) (b3.set 6 stv') (fun k hk => .inl hk)
 exact ⟨⟨h.gb,h.rl,s2⟩,(h.sep.updB (i:=1) rfl hc (fun k hk => hk) h.size).trans (hs.below (fun k hk => by have:=h.gb; omega) (Nat.le_trans h.size hc.size)),b3⟩
theorem MR.setAt (h : MR base w G f at_ st rg eos pr tr stv opv prv trv X) (n : Int) : MR base (w.setCell ⟨G,5,none⟩ (.int .i64 n)) G f n st rg eos pr tr stv opv prv trv X ∧ Below base w (w.setCell ⟨G,5,none⟩ (.int .i64 n)):=by
 have hs : Chg (fun k => k = G) w (w.setCell ⟨G,5,none⟩ (.int .i64 n)):=Chg.setCell _ _ _ rfl
 have s2:=h.sep.upd (i:=0) rfl hs (fun k hk => hk) (blkPt G h.gb 227 (mCells f n stv rg opv prv f.tx f.sn trv)) (h.blk.set 5 (.int .i64 n)) (fun k hk => .inl hk)
 exact ⟨⟨h.gb,h.rl,s2⟩,h.sep.updB (i:=0) rfl hs (fun k hk => hk) h.size⟩
def mvV (v : MV) : Value:=.agg #[.int .i64 v.1,.string (bs v.2)]
theorem push_any (v : MV) (h : MR base w G f at_ st rg eos pr tr stv opv prv trv X) (hl : st.length ≤ 1000) :
  Calls Tryz.prog 293 #[.pointer (some ⟨G,0,none⟩),mvV v] w fun e w' => e = .returned (.int .i64 0) ∧ (∃ stv',MR base w' G f at_ (v :: st) rg eos pr tr stv' opv prv trv X) ∧ Below base w w':=by
 obtain ⟨⟨ab,cb,rfl⟩,_,_,_⟩:=h.slices
 have HH:=Lib.hid h
 obtain ⟨W1,hW1⟩ : ∃ W1,W1 = w.alloc (.cells #[.int .i64 v.1,.string (bs v.2)] 223):=⟨_,rfl⟩
 have hb1 : Below w.heap.size w W1:=by rw [hW1]; exact b_alloc _ _
 have hx : Blk W1 w.heap.size 223 [.int .i64 v.1,.string (bs v.2)]:=by rw [hW1]; exact Blk.new w _ _
 have h1:=h.below hb1
 have c6:=h1.cell (k:=6) rfl
 have x0:=hx.cell (k:=0) rfl
 have x1:=hx.cell (k:=1) rfl
 have H1:=Lib.hid h1
 have HB1:=Lib.hid hb1
 clear h h1 hx hb1
 unfold mvV
 go_enter Tryz.func293,Tryz.ntmps293
 go_upto_region 1 with fail
 rw [← hW1]
 clear hW1
 have h1d:=H1.out.below (b_drew W1)
 have hgb : base ≤ W1.drew.heap.size:=h1d.size
 have hby : (st.reverse.length + 1) * 24 ≤ 140737488355328:=by rw [List.length_reverse]; omega
 have H1D:=Lib.hid h1d
 have hod:=h1d.os
 have hGl : G < W1.heap.size:=H1.out.blk.lt
 have hwl : w.heap.size < W1.heap.size:=lt_of_cell x0
 clear h1d
 go_region_law (refine recMV.step_append1V W1.drew v rfl _ _ 221 rfl Tryz.underlying221 base (.slice ab st.length cb) st.reverse rfl hod _ rfl _ rfl _ rfl hby hgb ?_; intro g gc w3 hown3 hc3 hg3; rw [← List.reverse_cons] at hown3; rw [List.length_reverse] at hown3; have hn:=H1D.out.newS (stv':=.slice (some ⟨g,0,none⟩) (st.length + 1) gc) (l:=v :: st) hc3 (fun k hk => by cases hk; exact hg3) hown3; have f6 : w3.frozen? ⟨G,6,none⟩ = false:=hn.2.2.free (k:=6) (by simp [mCells]); have c6' : w3.cell? ⟨G,6,none⟩ = some (.slice ab st.length cb):=hn.2.2.cell (k:=6) rfl; rw [List.length_reverse]; have HN:=Lib.hid hn; clear hn hown3 hc3 hg3)
 all_goals
  (try dsimp only)
  (try go_frame)
  go_wp2
  go_ret
  exact ⟨rfl,⟨_,HN.out.1⟩,((bt HB1.out (b_drew W1)).mono HH.out.size).trans HN.out.2.1⟩
theorem MR.top {v : MV} {ab : Option Addr} {n cb : Nat} (h : MR base w G f at_ (v :: st) rg eos pr tr (.slice ab n cb) opv prv trv X) : ∃ g,ab = some ⟨g,0,none⟩ ∧ n = st.length + 1 ∧ w.cell? ⟨g,st.length * 2,none⟩ = some (.int .i64 v.1) ∧ w.cell? ⟨g,st.length * 2 + 1,none⟩ = some (.string (bs v.2)):=by
 obtain ⟨⟨a,c,e⟩,_,_,_⟩:=h.slices
 injection e with e1 e2 e3
 subst e1 e2 e3
 obtain ⟨g,rfl⟩:=h.os.at0 (by simp)
 obtain ⟨a',cap,hv,hle,hc⟩:=Rec.Row.open h.os.row
 injection hv with e1 e2 e3
 subst e1
 obtain ⟨b,off,ha,hu⟩:=hc st.length (by simp)
 injection ha with ha
 injection ha with ha1 ha2 _
 subst ha1 ha2
 have hg : (v :: st).reverse[st.length]'(by simp) = v:=by simp [List.reverse_cons]
 rw [hg] at hu
 have h0:=hu 0 _ rfl
 have h1:=hu 1 _ rfl
 rw [Nat.zero_add] at h0 h1
 exact ⟨g,rfl,rfl,h0,h1⟩
theorem results_cellM {P : Program} {fn : Func} {p : Tmp} {ty : TypeId} {tmps : Array Value} {w : World} {v : Value} {b : Nat} (hr : fn.results = #[.cell p ty]) (hp : tmps.getD p undef = .pointer (some ⟨b,0,none⟩))
  (hl : (loadVar ty ⟨b,0,none⟩).run P w = .ok v w) : (results fn tmps).run P w = .ok v w:=by
 simp only [Array.getD_eq_getD_getElem?] at hp ⊢
 simp [results,hr,Sem.run_bind,Result.andThen,hp,asAddr,hl]
theorem load_mv {w : World} {b : Nat} {v0 v1 : Value} (h0 : w.cell? ⟨b,0,none⟩ = some v0) (h1 : w.cell? ⟨b,1,none⟩ = some v1) : (loadVar 223 ⟨b,0,none⟩).run Tryz.prog w = .ok (.agg #[v0,v1]) w:=by
 go_simp
theorem pre_set {α : Type} (X Y Z : List α) (q : α) : X <+: (X ++ Y ++ Z).set X.length q:=by
 rw [List.append_assoc,List.set_append_right _ _ (Nat.le_refl _)]
 exact List.prefix_append _ _
theorem MR.pre {Y : List (Pt base)} (h : MR base w G f at_ st rg eos pr tr stv opv prv trv Y) (hX : X <+: Y) : MR base w G f at_ st rg eos pr tr stv opv prv trv X:=by
 obtain ⟨Z,rfl⟩:=hX
 exact h.drop
theorem mv_store {w : World} {b : Nat} {t : TypeId} {a0 a1 : Value} (hx : Blk w b t [a0,a1]) (v0 v1 : Value) :
  Blk ((w.setCell ⟨b,0,none⟩ v0).setCell ⟨b,1,none⟩ v1) b t [v0,v1] ∧ Chg (fun x => x = b) w ((w.setCell ⟨b,0,none⟩ v0).setCell ⟨b,1,none⟩ v1) :=
 ⟨(hx.set 0 v0).set 1 v1,Chg.trans (Chg.setCell w ⟨b,0,none⟩ v0 rfl) (Chg.setCell _ ⟨b,1,none⟩ v1 rfl)⟩
theorem pop_any (v : MV) (h : MR base w G f at_ (v :: st) rg eos pr tr stv opv prv trv X) (hl : st.length ≤ 1000) :
  Calls Tryz.prog 150 #[.pointer (some ⟨G,0,none⟩)] w fun e w' => e = .returned (mvV v) ∧ (∃ stv',MR base w' G f at_ st rg eos pr tr stv' opv prv trv X) ∧ Below base w w':=by
 obtain ⟨⟨ab,cb,hsv⟩,_,_,_⟩:=h.slices
 rw [List.length_cons] at hsv
 subst hsv
 have HH:=Lib.hid h
 obtain ⟨R,hR⟩ : ∃ R,R = w.heap.size:=⟨_,rfl⟩
 obtain ⟨W1,hW1⟩ : ∃ W1,W1 = w.alloc (.cells #[.int .i64 0,.string ⟨#[]⟩] 223):=⟨_,rfl⟩
 have hRb : base ≤ R:=by rw [hR]; exact HH.out.size
 have hm1 : MR base W1 G f at_ (v :: st) rg eos pr tr (.slice ab (st.length + 1) cb) opv prv trv (X ++ [blkPt R hRb 223 [.int .i64 0,.string ⟨#[]⟩]]):=by subst hR; rw [hW1]; exact HH.out.add _ _
 have HB1:=Lib.hid (show Below w.heap.size w W1 by rw [hW1]; exact b_alloc _ _)
 clear h
 go_enter Tryz.func150,Tryz.ntmps150
 go_upto_region 1 with fail
 rw [← hW1,← hR]
 clear hW1 hR
 obtain ⟨g,rfl,-,e0,e1⟩:=hm1.top
 have c6 : W1.cell? ⟨G,6,none⟩ = some (.slice (some ⟨g,0,none⟩) (st.length + 1) cb):=hm1.cell (k:=6) rfl
 have hGl : G < W1.heap.size:=hm1.blk.lt
 have hgl : g < W1.heap.size:=lt_of_cell e0
 have hl1 : ((st.length : Int) + 1) - 1 = (st.length : Int):=by omega
 have hl2 : (0 : Int) ≤ (st.length : Int):=by omega
 have hl3 : (st.length : Int) < (st.length : Int) + 1:=by omega
 have hl4 : (st.length : Int) ≤ 1000:=by omega
 have HM1:=Lib.hid hm1
 clear hm1
 go_region
 obtain ⟨T,hT⟩ : ∃ T,T = W1.heap.size:=⟨_,rfl⟩
 have hTb : base ≤ T:=by rw [hT]; exact HM1.out.size
 obtain ⟨W2,hW2⟩ : ∃ W2,W2 = (W1.alloc (.cells #[.int .i64 v.1,.string (bs v.2)] 223)).drew:=⟨_,rfl⟩
 have hm2 : MR base W2 G f at_ (v :: st) rg eos pr tr (.slice (some ⟨g,0,none⟩) (st.length + 1) cb) opv prv trv (X ++ [blkPt R hRb 223 [.int .i64 0,.string ⟨#[]⟩]] ++ [blkPt T hTb 223 [.int .i64 v.1,.string (bs v.2)]]):=by
  subst hT; rw [hW2]; exact (HM1.out.add [.int .i64 v.1,.string (bs v.2)] 223).below (b_drew _)
 have HB2:=Lib.hid (show Below w.heap.size w W2 by rw [hW2]; exact bt HB1.out (bt (b_alloc _ _) (b_drew _)))
 rw [← hW2,← hT]
 clear hW2 hT e0 e1 c6 hGl hgl HM1
 have c6 : W2.cell? ⟨G,6,none⟩ = some (.slice (some ⟨g,0,none⟩) (st.length + 1) cb):=hm2.cell (k:=6) rfl
 have f6:=hm2.free (k:=6) (by decide)
 have hGl : G < W2.heap.size:=hm2.blk.lt
 have ho : recMV.Own W2 base (.slice (some ⟨g,0,none⟩) (v :: st).reverse.length cb) (v :: st).reverse:=by rw [List.length_reverse]; exact hm2.os
 have hrun:=ho.shortRun 221 Tryz.underlying221 (by intro wx; kernel_rfl) st.length (by simp)
 rw [List.length_reverse,List.length_cons] at hrun
 have hsh : recMV.Own W2.drew base (.slice (some ⟨g,0,none⟩) st.length cb) st.reverse:=by
  have:=(ho.below (b_drew W2)).short st.length (by simp)
  rwa [List.reverse_cons,List.take_append_of_le_length (by simp),List.take_of_length_le (by simp)] at this
 have hn:=(hm2.below (b_drew W2)).newS (stv':=.slice (some ⟨g,0,none⟩) st.length cb) (l:=st) (Chg.refl _ _) (fun k hk => by cases hk; exact .inl rfl) hsh
 have HN:=Lib.hid hn
 clear ho hsh hn hm2
 go_wp2_with fail
 go_region
 obtain ⟨W3,hW3⟩ : ∃ W3,W3 = (W2.setCell ⟨G,6,none⟩ (.slice (some ⟨g,0,none⟩) st.length cb)).drew:=⟨_,rfl⟩
 have hm3 : MR base W3 G f at_ st rg eos pr tr (.slice (some ⟨g,0,none⟩) st.length cb) opv prv trv (X ++ [blkPt R hRb 223 [.int .i64 0,.string ⟨#[]⟩]] ++ [blkPt T hTb 223 [.int .i64 v.1,.string (bs v.2)]]):=by rw [hW3]; exact HN.out.1
 have hb3 : Below base w W3:=by rw [hW3]; exact ((bt HB2.out (b_drew W2)).mono HH.out.size).trans HN.out.2.1
 rw [← hW3]
 clear hW3 HN c6 f6 hGl hrun HB2
 have hTk : Blk W3 T 223 [.int .i64 v.1,.string (bs v.2)]:=hm3.loc (p:=blkPt T hTb 223 [.int .i64 v.1,.string (bs v.2)]) (by simp)
 have hRk : Blk W3 R 223 [.int .i64 0,.string ⟨#[]⟩]:=hm3.loc (p:=blkPt R hRb 223 [.int .i64 0,.string ⟨#[]⟩]) (by simp)
 have t0:=hTk.cell (k:=0) rfl
 have t1:=hTk.cell (k:=1) rfl
 have r0:=hRk.cell (k:=0) rfl
 have r1:=hRk.cell (k:=1) rfl
 have k0:=hRk.free (k:=0) (by simp)
 have k1:=hRk.free (k:=1) (by simp)
 have HM3:=Lib.hid hm3
 have HB3:=Lib.hid hb3
 have HRK:=Lib.hid hRk
 clear hm3 hb3 hRk hTk
 go_wp2_with fail
 obtain ⟨hy,hc⟩:=mv_store HRK.out (.int .i64 v.1) (.string (bs v.2))
 refine bodyPost_ret (results_cellM rfl rfl (load_mv (hy.cell (k:=0) rfl) (hy.cell (k:=1) rfl))) rfl ?_
 obtain ⟨hm4,hb4⟩:=HM3.out.updX (i:=X.length) (p:=blkPt R hRb 223 [.int .i64 0,.string ⟨#[]⟩]) (by simp) hc (fun k hk => hk) (blkPt R hRb 223 [.int .i64 v.1,.string (bs v.2)]) hy (fun k hk => hk)
 exact ⟨rfl,⟨_,hm4.pre (pre_set X _ _ _)⟩,HB3.out.trans hb4⟩
end
end Go.Proofs.YtehllcbnheicoaaGreatDoor
namespace Go.Proofs.YtehllcbnheicoaaGreatDoor
open Go.RowKit Oct
attribute [local irreducible] wpG
section
variable {base G : Nat} {w w' : World} {f : Mf} {at_ : Int} {st rg : List MV} {eos : List Eo} {pr : List (List UInt8 × List UInt8)} {tr : List Int} {stv opv prv trv : Value} {X : List (Pt base)}
theorem results_ccM {P : Program} {fn : Func} {p q : Tmp} {ty tz : TypeId} {tmps : Array Value} {w : World} {v u : Value} {b c : Nat} (hr : fn.results = #[.cell p ty,.cell q tz]) (hp : tmps.getD p undef = .pointer (some ⟨b,0,none⟩)) (hq : tmps.getD q undef = .pointer (some ⟨c,0,none⟩))
  (hl : (loadVar ty ⟨b,0,none⟩).run P w = .ok v w) (hk : (loadVar tz ⟨c,0,none⟩).run P w = .ok u w) : (results fn tmps).run P w = .ok (.tuple #[v,u]) w:=by
 simp only [Array.getD_eq_getD_getElem?] at hp hq ⊢
 simp [results,hr,Sem.run_bind,Result.andThen,hp,hq,asAddr,hl,hk]
@[go_sem] theorem field_mv0 (v0 v1 : Value) (w : World) : (Instr.field 223 (.agg #[v0,v1]) 0).run Tryz.prog w = .ok v0 w:=by kernel_rfl
@[go_sem] theorem field_mv1 (v0 v1 : Value) (w : World) : (Instr.field 223 (.agg #[v0,v1]) 1).run Tryz.prog w = .ok v1 w:=by kernel_rfl
theorem size_alM (w : World) (o : Obj) : (w.alloc o).heap.size = w.heap.size + 1:=Array.size_push ..
theorem pre_setP {α : Type} {X L : List α} (h : X <+: L) (k : Nat) (q : α) : X <+: L.set (X.length + k) q:=by
 obtain ⟨Z,rfl⟩:=h
 rw [List.set_append_right _ _ (by omega)]
 exact List.prefix_append _ _
theorem two_any (a b : MV) (h : MR base w G f at_ (b :: a :: st) rg eos pr tr stv opv prv trv X) (hl : st.length ≤ 900) :
  Calls Tryz.prog 294 #[.pointer (some ⟨G,0,none⟩)] w fun e w' => e = .returned (.tuple #[mvV a,mvV b]) ∧ (∃ stv',MR base w' G f at_ st rg eos pr tr stv' opv prv trv X) ∧ Below base w w':=by
 have HH:=Lib.hid h
 obtain ⟨R,hR⟩ : ∃ R,R = w.heap.size:=⟨_,rfl⟩
 obtain ⟨W1,hW1⟩ : ∃ W1,W1 = (w.alloc (.cells #[.int .i64 0,.string ⟨#[]⟩] 223)).alloc (.cells #[.int .i64 0,.string ⟨#[]⟩] 223):=⟨_,rfl⟩
 have hRb : base ≤ R:=by rw [hR]; exact HH.out.size
 have hRb1 : base ≤ R + 1:=by omega
 have hm1 : MR base W1 G f at_ (b :: a :: st) rg eos pr tr stv opv prv trv (X ++ [blkPt R hRb 223 [.int .i64 0,.string ⟨#[]⟩]] ++ [blkPt (R + 1) hRb1 223 [.int .i64 0,.string ⟨#[]⟩]]):=by
  have h2:=(HH.out.add [.int .i64 0,.string ⟨#[]⟩] 223).add [.int .i64 0,.string ⟨#[]⟩] 223
  have hsz : (w.alloc (.cells [Value.int .i64 0,.string ⟨#[]⟩].toArray 223)).heap.size = R + 1:=by rw [hR]; exact size_alM _ _
  simp only [hsz] at h2
  subst hR
  rw [hW1]
  exact h2
 have HB1:=Lib.hid (show Below w.heap.size w W1 by rw [hW1]; exact bt (b_alloc _ _) (b_alloc _ _))
 have HM1:=Lib.hid hm1
 have HP1:=Lib.hid (pop_any b hm1 (by simp; omega))
 clear h hm1
 go_enter Tryz.func294,Tryz.ntmps294
 go_upto_region 1 with fail
 rw [← hW1,← hR]
 clear hW1 hR
 go_upto_region 2 with (go_at_call 150; refine HP1.out.mono ?_; rintro e w2 ⟨rfl,⟨sv2,hm⟩,hB⟩; unfold mvV; have HM2:=Lib.hid hm; have HB2:=Lib.hid hB; have hR1 : Blk w2 (R + 1) 223 [.int .i64 0,.string ⟨#[]⟩]:=hm.loc (p:=blkPt (R + 1) hRb1 223 [.int .i64 0,.string ⟨#[]⟩]) (by simp); have r0:=hR1.cell (k:=0) rfl; have r1:=hR1.cell (k:=1) rfl; have k0:=hR1.free (k:=0) (by simp); have k1:=hR1.free (k:=1) (by simp); have HR1:=Lib.hid hR1; clear hR1 hm hB)
 obtain ⟨hy3,hc3⟩:=mv_store HR1.out (.int .i64 b.1) (.string (bs b.2))
 obtain ⟨W3,hW3⟩ : ∃ W3,W3 = (w2.setCell ⟨R + 1,0,none⟩ (.int .i64 b.1)).setCell ⟨R + 1,1,none⟩ (.string (bs b.2)):=⟨_,rfl⟩
 rw [← hW3] at hy3 hc3 ⊢
 obtain ⟨hm3,hb3⟩:=HM2.out.updX (i:=X.length + 1) (p:=blkPt (R + 1) hRb1 223 [.int .i64 0,.string ⟨#[]⟩]) (by rw [List.append_assoc,List.getElem?_append_right (by omega)]; simp) hc3 (fun k hk => hk) (blkPt (R + 1) hRb1 223 [.int .i64 b.1,.string (bs b.2)]) hy3 (fun k hk => hk)
 rw [show (X ++ [blkPt R hRb 223 [.int .i64 0,.string ⟨#[]⟩]] ++ [blkPt (R + 1) hRb1 223 [.int .i64 0,.string ⟨#[]⟩]]).set (X.length + 1) (blkPt (R + 1) hRb1 223 [.int .i64 b.1,.string (bs b.2)]) = X ++ [blkPt R hRb 223 [.int .i64 0,.string ⟨#[]⟩]] ++ [blkPt (R + 1) hRb1 223 [.int .i64 b.1,.string (bs b.2)]] from by
  rw [List.append_assoc,List.append_assoc,List.set_append_right _ _ (by omega),Nat.add_sub_cancel_left]; rfl] at hm3
 have HB3:=Lib.hid (((HB1.out.mono HH.out.size).trans HB2.out).trans hb3)
 have hmd:=hm3.below (b_drew W3)
 have HP2:=Lib.hid (pop_any a hmd (by omega))
 have y0 : W3.cell? ⟨R + 1,0,none⟩ = some (.int .i64 b.1):=hy3.cell (k:=0) rfl
 have y1 : W3.cell? ⟨R + 1,1,none⟩ = some (.string (bs b.2)):=hy3.cell (k:=1) rfl
 have HMD:=Lib.hid hmd
 have hs3 : base ≤ W3.heap.size:=hm3.size
 clear hW3 r0 r1 k0 k1 HR1 HM2 HB2 HP1 HM1 HB1 hy3 hc3 hm3 hb3 hmd
 go_region_with (go_at_call 150; refine HP2.out.mono ?_; rintro e w4 ⟨rfl,⟨sv4,hm⟩,hB⟩; unfold mvV; have HM4:=Lib.hid hm; have HB4:=Lib.hid ((HB3.out.trans ((b_drew W3).mono hs3)).trans hB); have hR1 : Blk w4 (R + 1) 223 [.int .i64 b.1,.string (bs b.2)]:=hm.loc (p:=blkPt (R + 1) hRb1 223 [.int .i64 b.1,.string (bs b.2)]) (by simp); have hR0 : Blk w4 R 223 [.int .i64 0,.string ⟨#[]⟩]:=hm.loc (p:=blkPt R hRb 223 [.int .i64 0,.string ⟨#[]⟩]) (by simp); have s0:=hR1.cell (k:=0) rfl; have s1:=hR1.cell (k:=1) rfl; have k0:=hR1.free (k:=0) (by simp); have k1:=hR1.free (k:=1) (by simp); have r0:=hR0.cell (k:=0) rfl; have r1:=hR0.cell (k:=1) rfl; have j0:=hR0.free (k:=0) (by simp); have j1:=hR0.free (k:=1) (by simp); have HR0:=Lib.hid hR0; have HR1:=Lib.hid hR1; clear hR0 hR1 hm hB)
 all_goals
  (try dsimp only)
  (try go_frame)
  go_wp2_with fail
  obtain ⟨h5,c5⟩:=mv_store HR0.out (.int .i64 a.1) (.string (bs a.2))
  obtain ⟨m5,b5⟩:=HM4.out.updX (i:=X.length) (p:=blkPt R hRb 223 [.int .i64 0,.string ⟨#[]⟩]) (by simp) c5 (fun k hk => hk) (blkPt R hRb 223 [.int .i64 a.1,.string (bs a.2)]) h5 (fun k hk => hk)
  obtain ⟨h6,c6⟩:=mv_store (HR1.out.chg c5 (by show ¬ (R + 1 = R); omega)) (.int .i64 b.1) (.string (bs b.2))
  obtain ⟨m6,b6⟩:=m5.updX (i:=X.length + 1) (p:=blkPt (R + 1) hRb1 223 [.int .i64 b.1,.string (bs b.2)]) (by rw [List.getElem?_set_ne (by omega),List.append_assoc,List.getElem?_append_right (by omega)]; simp) c6 (fun k hk => hk) (blkPt (R + 1) hRb1 223 [.int .i64 b.1,.string (bs b.2)]) h6 (fun k hk => hk)
  have h7:=h5.chg c6 (by show ¬ (R = R + 1); omega)
  refine bodyPost_ret (results_ccM rfl rfl rfl (load_mv (h7.cell (k:=0) rfl) (h7.cell (k:=1) rfl)) (load_mv (h6.cell (k:=0) rfl) (h6.cell (k:=1) rfl))) rfl ?_
  exact ⟨rfl,⟨_,m6.pre (pre_setP (pre_setP (k:=0) (by rw [List.append_assoc]; exact List.prefix_append _ _) _) 1 _)⟩,(HB4.out.trans b5).trans b6⟩
theorem bit_any (q : Bool) (h : MR base w G f at_ st rg eos pr tr stv opv prv trv X) (hl : st.length ≤ 1000) :
  Calls Tryz.prog 295 #[.pointer (some ⟨G,0,none⟩),.bool q] w fun e w' => e = .returned (.int .i64 0) ∧ (∃ stv',MR base w' G f at_ (bitM q :: st) rg eos pr tr stv' opv prv trv X) ∧ Below base w w':=by
 have HP:=Lib.hid (push_any (bitM q) h hl)
 clear h
 cases q with
 | true =>
  go_enter Tryz.func295,Tryz.ntmps295
  go_wp2_with (go_at_call 293; refine HP.out.mono ?_; rintro e w2 ⟨rfl,⟨sv,hm⟩,hB⟩; have HM:=Lib.hid hm; have HB:=Lib.hid hB; clear hm hB)
  go_ret
  exact ⟨rfl,⟨_,HM.out⟩,HB.out⟩
 | false =>
  go_enter Tryz.func295,Tryz.ntmps295
  go_wp2_with (go_at_call 293; refine HP.out.mono ?_; rintro e w2 ⟨rfl,⟨sv,hm⟩,hB⟩; have HM:=Lib.hid hm; have HB:=Lib.hid hB; clear hm hB)
  go_ret
  exact ⟨rfl,⟨_,HM.out⟩,HB.out⟩
theorem vnum_any (y : UInt8) (h : MR base w G f at_ st rg eos pr tr stv opv prv trv X) (hl : st.length ≤ 1000) :
  Calls Tryz.prog 271 #[.pointer (some ⟨G,0,none⟩),.int .u8 (y.toNat : Int)] w fun e w' => e = .returned (.int .i64 0) ∧ (∃ stv',MR base w' G f at_ (((y.toNat : Int),[]) :: st) rg eos pr tr stv' opv prv trv X) ∧ Below base w w':=by
 have HP:=Lib.hid (push_any ((y.toNat : Int),[]) h hl)
 have cw : wrap64 (y.toNat : Int) = (y.toNat : Int):=by have:=y.toNat_lt; unfold wrap64; omega
 have cv : IntKind.i64.wrap (y.toNat : Int) = (y.toNat : Int):=by have:=y.toNat_lt; simp [IntKind.wrap,IntKind.bits,IntKind.signed]; omega
 clear h
 go_enter Tryz.func271,Tryz.ntmps271
 go_wp2_with (go_at_call 293; refine HP.out.mono ?_; rintro e w2 ⟨rfl,⟨sv,hm⟩,hB⟩; have HM:=Lib.hid hm; have HB:=Lib.hid hB; clear hm hB)
 go_ret
 exact ⟨rfl,⟨_,HM.out⟩,HB.out⟩
theorem vdrop_any (y : UInt8) (a : MV) (h : MR base w G f at_ (a :: st) rg eos pr tr stv opv prv trv X) (hl : st.length ≤ 900) :
  Calls Tryz.prog 283 #[.pointer (some ⟨G,0,none⟩),.int .u8 (y.toNat : Int)] w fun e w' => e = .returned (.int .i64 0) ∧ (∃ stv',MR base w' G f at_ st rg eos pr tr stv' opv prv trv X) ∧ Below base w w':=by
 have HP:=Lib.hid (pop_any a h (by omega))
 clear h
 go_enter Tryz.func283,Tryz.ntmps283
 go_wp2_with (go_at_call 150; refine HP.out.mono ?_; rintro e w2 ⟨rfl,⟨sv,hm⟩,hB⟩; have HM:=Lib.hid hm; have HB:=Lib.hid hB; clear hm hB)
 go_ret
 exact ⟨rfl,⟨_,HM.out⟩,HB.out⟩
theorem vsize_any (y : UInt8) (a : MV) (h : MR base w G f at_ (a :: st) rg eos pr tr stv opv prv trv X) (hl : st.length ≤ 900) (ha : a.2.length ≤ 1024) :
  Calls Tryz.prog 274 #[.pointer (some ⟨G,0,none⟩),.int .u8 (y.toNat : Int)] w fun e w' => e = .returned (.int .i64 0) ∧ (∃ stv',MR base w' G f at_ (((a.2.length : Int),[]) :: st) rg eos pr tr stv' opv prv trv X) ∧ Below base w w':=by
 have HP:=Lib.hid (pop_any a h (by omega))
 have hc : (a.2.length : Int) ≤ 1024:=by omega
 clear h
 go_enter Tryz.func274,Tryz.ntmps274
 go_wp2_with (first | (go_at_call 293; refine (push_any ((a.2.length : Int),[]) HM.out (by omega)).mono ?_; rintro e w3 ⟨rfl,⟨sv3,hm⟩,hB⟩; have HM3:=Lib.hid hm; have HB3:=Lib.hid (HB.out.trans hB); clear hm hB) | (go_at_call 150; refine HP.out.mono ?_; rintro e w2 ⟨rfl,⟨sv,hm⟩,hB⟩; have HM:=Lib.hid hm; have HB:=Lib.hid hB; unfold mvV; clear hm hB))
 go_ret
 exact ⟨rfl,⟨_,HM3.out⟩,HB3.out⟩
theorem vnot_any (y : UInt8) (a : MV) (h : MR base w G f at_ (a :: st) rg eos pr tr stv opv prv trv X) (hl : st.length ≤ 900) :
  Calls Tryz.prog 282 #[.pointer (some ⟨G,0,none⟩),.int .u8 (y.toNat : Int)] w fun e w' => e = .returned (.int .i64 0) ∧ (∃ stv',MR base w' G f at_ (bitM (a.1 == 0) :: st) rg eos pr tr stv' opv prv trv X) ∧ Below base w w':=by
 have HP:=Lib.hid (pop_any a h (by omega))
 clear h
 go_enter Tryz.func282,Tryz.ntmps282
 go_wp2_with (first | (go_at_call 295; refine (bit_any (a.1 == 0) HM.out (by omega)).mono ?_; rintro e w3 ⟨rfl,⟨sv3,hm⟩,hB⟩; have HM3:=Lib.hid hm; have HB3:=Lib.hid (HB.out.trans hB); clear hm hB) | (go_at_call 150; refine HP.out.mono ?_; rintro e w2 ⟨rfl,⟨sv,hm⟩,hB⟩; have HM:=Lib.hid hm; have HB:=Lib.hid hB; unfold mvV; clear hm hB))
 go_ret
 exact ⟨rfl,⟨_,HM3.out⟩,HB3.out⟩
theorem vget_any (y : UInt8) (hy : y.toNat < 8) (h : MR base w G f at_ st rg eos pr tr stv opv prv trv X) (hl : st.length ≤ 1000) :
  Calls Tryz.prog 286 #[.pointer (some ⟨G,0,none⟩),.int .u8 (y.toNat : Int)] w fun e w' => e = .returned (.int .i64 0) ∧ (∃ stv',MR base w' G f at_ (rg.getD y.toNat (0,[]) :: st) rg eos pr tr stv' opv prv trv X) ∧ Below base w w':=by
 have HP:=Lib.hid (push_any (rg.getD y.toNat (0,[])) h hl)
 obtain ⟨q0,q1⟩:=h.reg hy
 have i0 : (0 : Int) ≤ (y.toNat : Int):=by omega
 have i1 : (y.toNat : Int) < 8:=by omega
 obtain ⟨u,hu⟩ : ∃ u,u = rg.getD y.toNat (0,[]):=⟨_,rfl⟩
 rw [← hu] at HP q0 q1 ⊢
 clear h hu
 go_enter Tryz.func286,Tryz.ntmps286
 go_wp2_with (go_at_call 293; refine HP.out.mono ?_; rintro e w2 ⟨rfl,⟨sv,hm⟩,hB⟩; have HM:=Lib.hid hm; have HB:=Lib.hid hB; clear hm hB)
 go_ret
 exact ⟨rfl,⟨_,HM.out⟩,HB.out⟩
end
end Go.Proofs.YtehllcbnheicoaaGreatDoor
