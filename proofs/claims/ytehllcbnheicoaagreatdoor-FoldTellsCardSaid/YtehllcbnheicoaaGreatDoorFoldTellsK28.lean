/- Lemmas for FoldTells, part 28: walks of the functions that it reaches, and the plain laws behind them. -/
import Derived.Test.YtehllcbnheicoaaGreatDoorFoldTellsK5
import Derived.Test.YtehllcbnheicoaaGreatDoorFoldTellsK27
set_option linter.unusedSimpArgs false
set_option linter.unusedVariables false
set_option maxRecDepth 100000
set_option maxHeartbeats 16000000
namespace Go.Proofs.YtehllcbnheicoaaGreatDoor
open Go.RowKit
def lexDeps (md : Region.Mode) (ops : Array Oper) : Bool :=
 (List.range ops.size).all fun i => match ops[i]? with
  | some o => o.after.all fun e => !Region.binds md e || decide (e.on < i)
  | none => true
def invSteps (P : Program) (md : Region.Mode) (ops : Array Oper) (I : Array Bool → Act → World → Prop) (Q : Exit → Act → World → Prop) : Nat → List Oper → Prop
 | _,[] => True
 | k,o :: rest => (∀ listed a w,I listed a w → listed.getD k true = false → (∀ e ∈ o.after,Region.binds md e = true → listed.getD e.on false = true) →
   (if Region.wanted o (yielded ops a.tmps) = true then o.wp P a w (fun a' w' => I (listed.setIfInBounds k true) a' w') Q else I (listed.setIfInBounds k true) (a.put o.dst undef) w)) ∧ invSteps P md ops I Q (k + 1) rest
section
variable {P : Program} {md : Region.Mode} {ops : Array Oper} {I : Array Bool → Act → World → Prop} {Q : Exit → Act → World → Prop}
theorem invSteps_at : ∀ (l : List Oper) (k i : Nat) (o : Oper),invSteps P md ops I Q k l → l[i]? = some o →
  ∀ listed a w,I listed a w → listed.getD (k + i) true = false → (∀ e ∈ o.after,Region.binds md e = true → listed.getD e.on false = true) →
   (if Region.wanted o (yielded ops a.tmps) = true then o.wp P a w (fun a' w' => I (listed.setIfInBounds (k + i) true) a' w') Q else I (listed.setIfInBounds (k + i) true) (a.put o.dst undef) w)
 | [],_,_,_,_,h => by simp at h
 | o :: l,k,0,o',hs,h => by
  simp only [List.getElem?_cons_zero,Option.some.injEq] at h
  subst h
  exact hs.1
 | o :: l,k,i + 1,o',hs,h => by
  have:=invSteps_at l (k + 1) i o' hs.2 (by simpa using h)
  rw [show k + (i + 1) = k + 1 + i by omega]
  exact this
theorem all_listed (hl : lexDeps md ops = true) {listed : Array Bool} (hs : listed.size = ops.size) (hr : Region.ready md ops listed = []) : ∀ n i,i < n → i < ops.size → listed.getD i false = true:=by
 intro n
 induction n with
 | zero => intro i h; omega
 | succ n ih =>
  intro i hi his
  have ho : ops[i]? = some ops[i]:=Array.getElem?_eq_getElem his
  have h1:=List.all_eq_true.1 hl i (List.mem_range.2 his)
  simp only [ho,Array.all_eq_true_iff_forall_mem] at h1
  cases hb : listed.getD i true with
  | true =>
   have hx : i < listed.size:=by omega
   simp only [Array.getD_eq_getD_getElem?,Array.getElem?_eq_getElem hx,Option.getD_some] at hb ⊢
   exact hb
  | false =>
   have : i ∈ Region.ready md ops listed:=mem_ready.2 ⟨hb,_,ho,fun e he hbi => by
    have h2:=h1 e he
    rw [hbi] at h2
    have h3 : e.on < i:=by simpa using h2
    exact ih e.on (by omega) (by omega)⟩
   rw [hr] at this
   cases this
theorem count_set_true : ∀ (l : List Bool) (i : Nat),l[i]? = some false → (l.set i true).count false + 1 = l.count false
 | [],_,h => by simp at h
 | b :: l,0,h => by simp at h; subst h; simp
 | b :: l,i + 1,h => by
  have:=count_set_true l i (by simpa using h)
  cases b <;> simp [List.set_cons_succ,List.count_cons] <;> omega
theorem wpAny_inv (hlex : lexDeps md ops = true)
  (hend : ∀ listed a w,I listed a w → listed.size = ops.size → (∀ i,i < ops.size → listed.getD i false = true) → Q .normal a w) (hstep : invSteps P md ops I Q 0 ops.toList) :
  ∀ (fuel : Nat) (listed : Array Bool) (a : Act) (w : World),listed.size = ops.size → listed.toList.count false ≤ fuel → I listed a w → wpAny P md ops Q fuel listed a w:=by
 intro fuel
 induction fuel with
 | zero =>
  intro listed a w hs hc hI
  have hr : Region.ready md ops listed = []:=by
   rw [List.eq_nil_iff_forall_not_mem]
   intro j hj
   obtain ⟨h1,o,h2,_⟩:=mem_ready.1 hj
   have hjs : j < listed.size:=by rw [hs]; exact (Array.getElem?_eq_some_iff.1 h2).1
   have : false ∈ listed.toList:=by
    simp only [Array.getD_eq_getD_getElem?,Array.getElem?_eq_getElem hjs,Option.getD_some] at h1
    rw [← h1]; simp
   have:=List.count_pos_iff.2 this
   omega
  exact ⟨hr,hend listed a w hI hs fun i hi => all_listed hlex hs hr (i + 1) i (by omega) hi⟩
 | succ fuel ih =>
  intro listed a w hs hc hI
  refine ⟨fun hr => hend listed a w hI hs fun i hi => all_listed hlex hs hr (i + 1) i (by omega) hi,fun i hi => ?_⟩
  obtain ⟨h1,o,h2,h3⟩:=mem_ready.1 hi
  have his : i < listed.size:=by rw [hs]; exact (Array.getElem?_eq_some_iff.1 h2).1
  have hget : listed.toList[i]? = some false:=by
   simp only [Array.getD_eq_getD_getElem?,Array.getElem?_eq_getElem his,Option.getD_some] at h1
   rw [Array.getElem?_toList,Array.getElem?_eq_getElem his,h1]
  have hcc:=count_set_true _ _ hget
  have hnext : ∀ a' w',I (listed.setIfInBounds i true) a' w' → wpAny P md ops Q fuel (listed.setIfInBounds i true) a' w':=fun a' w' hI' =>
   ih _ a' w' (by simpa using hs) (by rw [Array.toList_setIfInBounds]; omega) hI'
  have hk:=invSteps_at ops.toList 0 i o hstep (by simpa using h2) listed a w hI (by simpa using h1) h3
  rw [Nat.zero_add] at hk
  unfold wpOp
  simp only [h2]
  split
  ·rename_i hw
   rw [if_pos hw] at hk
   exact .inl (Oper.wp_mono hnext hk)
  ·rename_i hw
   rw [if_neg hw] at hk
   exact hnext _ _ hk
theorem region_inv {id : Nat} {a : Act} {w : World} {l : List Oper} (I : Array Bool → Act → World → Prop) (hm : P.follows .mixedOrders = true) (hlex : lexDeps .any l.toArray = true)
  (h0 : I (Array.replicate l.length false) a w.drew) (hend : ∀ listed a w,I listed a w → listed.size = l.length → (∀ i,i < l.length → listed.getD i false = true) → Q .normal a w)
  (hstep : invSteps P .any l.toArray I Q 0 l) : (Code.region id l.toArray true).wp P Q a w :=
 wp_region_any hm (wpAny_inv hlex (fun listed a w h hs hall => hend listed a w h (by simpa using hs) (fun i hi => hall i (by simpa using hi))) (by simpa using hstep) _ _ _ _ (by simp) (by simp) (by simpa using h0))
end
end Go.Proofs.YtehllcbnheicoaaGreatDoor
namespace Go.Proofs.YtehllcbnheicoaaGreatDoor
open Go.RowKit Oct
attribute [local irreducible] wpG
def sm (d : Bool) (v u : Value) : Value:=bif d then v else u
@[go_sem] theorem sm_true (v u : Value) : sm true v u = v:=rfl
@[go_sem] theorem sm_false (v u : Value) : sm false v u = u:=rfl
def blkPq {base : Nat} (b : Nat) (t : TypeId) (cs : List Value) : Pt base :=
 ⟨fun k => k = b,fun w => base ≤ b ∧ Blk w b t cs,fun h hc hX => ⟨h.1,h.2.chg hc (hX _ rfl)⟩,fun h k hk => by subst hk; exact ⟨h.1,h.2.lt⟩⟩
def eachE (pc M : Nat) (a : MV) (y : UInt8) : Eo:=⟨pc,M + 2,M,M + 1,!a.2.isEmpty,a.2,y⟩
section
variable {base G M pc b5 : Nat} {w0 w w' w3 : World} {f : Mf} {at_ : Int} {a : MV} {y : UInt8} {st rg : List MV} {eos l : List Eo} {pr : List (List UInt8 × List UInt8)} {tr : List Int} {tv cv iv ev lv stv opv opv' prv trv trv' : Value} {L L' X Y : List (Pt base)} {e : Eo} {d5 d8 d10 d11 : Bool}
theorem Sep.perm (h : Sep base w L) (hp : L.Perm L') : Sep base w L':=⟨fun p hp' => h.1 p (hp.mem_iff.2 hp'),hp.pairwise h.2 (fun hab k hk hk' => hab k hk' hk)⟩
theorem MR.perm (h : MR base w G f at_ st rg eos pr tr stv opv prv trv X) (hp : X.Perm Y) : MR base w G f at_ st rg eos pr tr stv opv prv trv Y :=
 ⟨h.gb,h.rl,h.sep.perm ((((((hp.cons _).cons _).cons _).cons _).cons _).cons _)⟩
def eachX (base pc M b5 : Nat) (a : MV) (y : UInt8) (d8 d10 d11 : Bool) : List (Pt base) :=
 (bif d8 then [boxPt [eachE pc M a y]] else []) ++ (bif d10 then [blkPq b5 351 (bif d11 then [.int .i64 (pc : Int),eoF (eachE pc M a y)] else [.int .i64 0,.nilFunc])] else [])
def EB (base : Nat) (w0 w : World) (G : Nat) (f : Mf) (pc : Nat) (a : MV) (y : UInt8) (st rg : List MV) (eos : List Eo) (pr : List (List UInt8 × List UInt8)) (tr : List Int) (opv prv trv : Value) (X : List (Pt base)) (d5 d8 d10 d11 : Bool) (M b5 : Nat) : Prop :=
 (∃ stv,MR base w G f (pc : Int) (bif d5 then st else a :: st) rg eos pr tr stv opv prv trv (X ++ eachX base pc M b5 a y d8 d10 d11)) ∧ Below base w0 w ∧ (d8 = true → d5 = true) ∧ (d11 = true → d10 = true ∧ d8 = true)
theorem no_of {d : Bool} (h : d = true → False) : d = false:=by cases d <;> simp_all
theorem EB.at5 (h : EB base w0 w G f pc a y st rg eos pr tr opv prv trv X d5 d8 d10 d11 M b5) : w.cell? ⟨G,5,none⟩ = some (.int .i64 (pc : Int)):=by
 obtain ⟨⟨sv,h⟩,-⟩:=h
 exact h.cell (k:=5) rfl
theorem EB.pop (h : EB base w0 w G f pc a y st rg eos pr tr opv prv trv X false d8 d10 d11 M b5) (hl : st.length ≤ 1000) :
  Calls Tryz.prog 150 #[.pointer (some ⟨G,0,none⟩)] w fun r w' => r = .returned (mvV a) ∧ EB base w0 w' G f pc a y st rg eos pr tr opv prv trv X true d8 d10 d11 M b5:=by
 obtain ⟨⟨sv,hm⟩,hB,h8,h11⟩:=h
 obtain rfl:=no_of (fun e => Bool.noConfusion (h8 e))
 obtain rfl:=no_of (fun e => Bool.noConfusion (h11 e).2)
 refine (pop_any a hm hl).mono ?_
 rintro r w' ⟨hr,hm',hB'⟩
 exact ⟨hr,hm',hB.trans hB',fun _ => rfl,h11⟩
theorem EB.pieces (h : EB base w0 w G f pc a y st rg eos pr tr opv prv trv X true false d10 d11 M b5) :
  Calls Tryz.prog 296 #[.string (bs a.2),.int .u8 (y.toNat : Int)] w fun r w' => r = .returned (eoF (eachE pc w.heap.size a y)) ∧ EB base w0 w' G f pc a y st rg eos pr tr opv prv trv X true true d10 d11 w.heap.size b5:=by
 obtain ⟨⟨sv,hm⟩,hB,h8,h11⟩:=h
 obtain rfl:=no_of (fun e => Bool.noConfusion (h11 e).2)
 refine (pieces_any a.2 y w pc hm.size).mono ?_
 rintro r w' ⟨hr,hbx,hB'⟩
 refine ⟨hr,⟨sv,?_⟩,hB.trans (hB'.mono hm.size),fun _ => rfl,fun e => Bool.noConfusion e⟩
 have h1:=hm.addBox (e:=eachE pc w.heap.size a y) hB' hbx (fun k hk => by unfold eoIn eachE at hk; simp only at hk; omega)
 refine h1.perm ?_
 rw [List.append_assoc]
 refine List.Perm.append_left X ?_
 show List.Perm (([] ++ _) ++ [_]) ([_] ++ _)
 rw [List.nil_append]
 exact List.perm_append_comm
theorem EB.alloc (h : EB base w0 w G f pc a y st rg eos pr tr opv prv trv X d5 d8 false d11 M b5) :
  EB base w0 (w.alloc (.cells #[.int .i64 0,.nilFunc] 351)) G f pc a y st rg eos pr tr opv prv trv X d5 d8 true d11 M w.heap.size:=by
 obtain ⟨⟨sv,hm⟩,hB,h8,h11⟩:=h
 obtain rfl:=no_of (fun e => Bool.noConfusion (h11 e).1)
 refine ⟨⟨sv,?_⟩,hB.trans ((b_alloc _ _).mono hm.size),h8,fun e => Bool.noConfusion e⟩
 have h1 : MR base (w.alloc (.cells #[.int .i64 0,.nilFunc] 351)) G f (pc : Int) (bif d5 then st else a :: st) rg eos pr tr sv opv prv trv ((X ++ eachX base pc M b5 a y d8 false false) ++ [blkPq w.heap.size 351 [.int .i64 0,.nilFunc]]) :=
  ⟨hm.gb,hm.rl,hm.sep.snoc (b_alloc _ _) (blkPq w.heap.size 351 [.int .i64 0,.nilFunc]) ⟨hm.size,Blk.new w _ _⟩ (fun k hk => by rw [show k = w.heap.size from hk]; exact Nat.le_refl _)⟩
 have h2 : (X ++ eachX base pc M b5 a y d8 false false) ++ [blkPq w.heap.size 351 [.int .i64 0,.nilFunc]] = X ++ eachX base pc M w.heap.size a y d8 true false:=by
  unfold eachX
  cases d8 <;> simp
 rw [h2] at h1
 exact h1
theorem EB.store (h : EB base w0 w G f pc a y st rg eos pr tr opv prv trv X true true true false M b5) :
  EB base w0 ((w.setCell ⟨b5,0,none⟩ (.int .i64 (pc : Int))).setCell ⟨b5,1,none⟩ (eoF (eachE pc M a y))) G f pc a y st rg eos pr tr opv prv trv X true true true true M b5:=by
 obtain ⟨⟨sv,hm⟩,hB,h8,h11⟩:=h
 have hm : MR base w G f (pc : Int) st rg eos pr tr sv opv prv trv (X ++ [boxPt [eachE pc M a y],blkPq b5 351 [.int .i64 0,.nilFunc]]):=hm
 have hb : base ≤ b5 ∧ Blk w b5 351 [.int .i64 0,.nilFunc]:=hm.loc (p:=blkPq b5 351 [.int .i64 0,.nilFunc]) (by simp)
 obtain ⟨k1,k2⟩:=mv_store hb.2 (.int .i64 (pc : Int)) (eoF (eachE pc M a y))
 obtain ⟨h1,h2⟩:=hm.updX (i:=X.length + 1) (p:=blkPq b5 351 [.int .i64 0,.nilFunc]) (by simp) k2 (fun k hk => hk) (blkPq b5 351 [.int .i64 (pc : Int),eoF (eachE pc M a y)]) ⟨hb.1,k1⟩ (fun k hk => hk)
 refine ⟨⟨sv,?_⟩,hB.trans h2,h8,fun _ => ⟨rfl,rfl⟩⟩
 rw [List.set_append_right _ _ (by omega),show X.length + 1 - X.length = 1 by omega] at h1
 exact h1
theorem EB.cells (h : EB base w0 w G f pc a y st rg eos pr tr opv prv trv X true true true d11 M b5) : ∃ v0 v1,w.cell? ⟨b5,0,none⟩ = some v0 ∧ w.cell? ⟨b5,1,none⟩ = some v1 ∧ w.frozen? ⟨b5,0,none⟩ = false ∧ w.frozen? ⟨b5,1,none⟩ = false:=by
 obtain ⟨⟨sv,hm⟩,-⟩:=h
 cases d11
 ·have hb : base ≤ b5 ∧ Blk w b5 351 [.int .i64 0,.nilFunc]:=hm.loc (p:=blkPq b5 351 [.int .i64 0,.nilFunc]) (by simp [eachX])
  exact ⟨_,_,hb.2.cell (k:=0) rfl,hb.2.cell (k:=1) rfl,hb.2.free (k:=0) (by simp),hb.2.free (k:=1) (by simp)⟩
 ·have hb : base ≤ b5 ∧ Blk w b5 351 [.int .i64 (pc : Int),eoF (eachE pc M a y)]:=hm.loc (p:=blkPq b5 351 [.int .i64 (pc : Int),eoF (eachE pc M a y)]) (by simp [eachX])
  exact ⟨_,_,hb.2.cell (k:=0) rfl,hb.2.cell (k:=1) rfl,hb.2.free (k:=0) (by simp),hb.2.free (k:=1) (by simp)⟩
theorem veach_any (a : MV) (y : UInt8) (pc : Nat) (h : MR base w G ⟨tv,cv,iv,ev,lv,[],0⟩ (pc : Int) (a :: st) rg eos pr tr stv opv prv trv X) (hl : st.length ≤ 900) (he : eos.length ≤ 900) (ha : a.2.length ≤ 1024) (hG : ∀ w',Below base w w' → GlobV w')
  {l : List Int} (ht : ∀ w',Below base w w' → recJ.Row w' ev l) (hp : pc < l.length) (hl2 : l.length ≤ 1000) :
  Calls Tryz.prog 291 #[.pointer (some ⟨G,0,none⟩),.int .u8 (y.toNat : Int)] w fun r w' => r = .returned (.int .i64 0) ∧
   ((a.2 = [] ∧ ∃ stv',MR base w' G ⟨tv,cv,iv,ev,lv,[],0⟩ l[pc] st rg eos pr tr stv' opv prv trv X) ∨
    (∃ p ps,piecesM a.2 y = p :: ps ∧ ∃ stv' opv' e',leftE e' = ps ∧ e'.at_ = pc ∧ e'.rest.length ≤ 1024 ∧ MR base w' G ⟨tv,cv,iv,ev,lv,[],0⟩ (pc : Int) ((0,p) :: st) rg (eos ++ [e']) pr tr stv' opv' prv trv X)) ∧ Below base w w':=by
 have hd : EB base w w.drew G ⟨tv,cv,iv,ev,lv,[],0⟩ pc a y st rg eos pr tr opv prv trv X false false false false 0 0:=⟨⟨stv,by
  have:=h.below (b_drew w)
  unfold eachX
  simpa using this⟩,(b_drew w).mono h.size,fun e => Bool.noConfusion e,fun e => Bool.noConfusion e⟩
 have HD:=Lib.hid hd
 have HG:=Lib.hid hG
 have HT:=Lib.hid ht
 have HL:=Lib.hid hl
 clear h hd hG ht
 go_enter Tryz.func291,Tryz.ntmps291
 go_wp2_with fail
 have hI0 : ∃ I : Array Bool → Act → World → Prop,I = (fun listed ax wx => ∃ d0 d1 d2 d3 d4 d5 d6 d7 d8 d9 d10 d11 : Bool,∃ M b5 : Nat,listed = #[d0,d1,d2,d3,d4,d5,d6,d7,d8,d9,d10,d11] ∧ ax = { tmps:=List.toArray ((.pointer (some ⟨G,0,none⟩)) :: (.int .u8 (y.toNat : Int)) :: undef :: undef :: (.int .i64 0) :: (sm d10 (.pointer (some ⟨b5,0,none⟩)) undef) :: undef :: undef :: (sm d0 (.pointer (some ⟨G,0,none⟩)) undef) :: (sm d1 (.pointer (some ⟨G,0,none⟩)) undef) :: (sm d2 (.pointer (some ⟨G,5,none⟩)) undef) :: (sm d3 (.int .i64 (pc : Int)) undef) :: (sm d4 (.pointer (some ⟨G,0,none⟩)) undef) :: (sm d5 (.agg #[.int .i64 a.1,.string (bs a.2)]) undef) :: (sm d6 (.string (bs a.2)) undef) :: (sm d7 (.int .u8 (y.toNat : Int)) undef) :: (sm d8 (eoF (eachE pc M a y)) undef) :: (sm d9 (.agg #[.int .i64 (pc : Int),eoF (eachE pc M a y)]) undef) :: undef :: undef :: undef :: undef :: undef :: undef :: undef :: undef :: undef :: undef :: undef :: undef :: undef :: undef :: undef :: undef :: undef :: undef :: undef :: undef :: undef :: undef :: undef :: undef :: undef :: undef :: undef :: undef :: undef :: undef :: undef :: undef :: undef :: undef :: undef :: []),defers:=[] } ∧ Hid (EB base w wx G ⟨tv,cv,iv,ev,lv,[],0⟩ pc a y st rg eos pr tr opv prv trv X d5 d8 d10 d11 M b5) ∧ (d9 = true → d8 = true)):=⟨_,rfl⟩
 obtain ⟨INV,hINV⟩:=hI0
 have HINV:=Lib.hid hINV
 clear hINV
 refine region_inv INV (by kernel_rfl) (by kernel_rfl) (by rw [HINV.out]; exact ⟨false,false,false,false,false,false,false,false,false,false,false,false,0,0,rfl,rfl,HD.out,fun e => Bool.noConfusion e⟩) ?_ ?_
 ·intro listed ax wx hI hs hall
  rw [HINV.out] at hI
  clear HINV HD
  obtain ⟨d0,d1,d2,d3,d4,d5,d6,d7,d8,d9,d10,d11,M,b5,rfl,rfl,hBI,h9⟩:=hI
  have e0 : d0 = true:=by simpa using hall 0 (by decide)
  have e1 : d1 = true:=by simpa using hall 1 (by decide)
  have e2 : d2 = true:=by simpa using hall 2 (by decide)
  have e3 : d3 = true:=by simpa using hall 3 (by decide)
  have e4 : d4 = true:=by simpa using hall 4 (by decide)
  have e5 : d5 = true:=by simpa using hall 5 (by decide)
  have e6 : d6 = true:=by simpa using hall 6 (by decide)
  have e7 : d7 = true:=by simpa using hall 7 (by decide)
  have e8 : d8 = true:=by simpa using hall 8 (by decide)
  have e9 : d9 = true:=by simpa using hall 9 (by decide)
  have e10 : d10 = true:=by simpa using hall 10 (by decide)
  have e11 : d11 = true:=by simpa using hall 11 (by decide)
  simp only [e0,e1,e2,e3,e4,e5,e6,e7,e8,e9,e10,e11,sm_true] at hBI ⊢
  clear e0 e1 e2 e3 e4 e5 e6 e7 e8 e9 e10 e11 hall hs h9
  clear d0 d1 d2 d3 d4 d5 d6 d7 d8 d9 d10 d11
  obtain ⟨⟨sv,hm0⟩,hB,-,-⟩:=hBI.out
  have hm : MR base wx G ⟨tv,cv,iv,ev,lv,[],0⟩ (pc : Int) st rg eos pr tr sv opv prv trv ((X ++ [blkPq b5 351 [.int .i64 (pc : Int),eoF (eachE pc M a y)]]) ++ [boxPt [eachE pc M a y]]):=by
   refine MR.perm hm0 ?_
   rw [List.append_assoc]
   exact List.Perm.append_left X (List.Perm.swap _ _ _)
  have hLE : leftE (eachE pc M a y) = piecesM a.2 y:=leftE_start pc M a.2 y
  obtain ⟨bm,hbm⟩ : ∃ bm,bm = M + 2:=⟨_,rfl⟩
  obtain ⟨bt',hbt⟩ : ∃ bt',bt' = M:=⟨_,rfl⟩
  obtain ⟨bc,hbc⟩ : ∃ bc,bc = M + 1:=⟨_,rfl⟩
  have hE : eachE pc M a y = ⟨pc,bm,bt',bc,!a.2.isEmpty,a.2,y⟩:=by subst hbm hbt hbc; rfl
  rw [hE] at hm hLE ⊢
  clear hbm hbt hbc hE hBI hm0
  have hbx : boxOk base wx ⟨pc,bm,bt',bc,!a.2.isEmpty,a.2,y⟩:=(hm.loc (p:=boxPt [⟨pc,bm,bt',bc,!a.2.isEmpty,a.2,y⟩]) (by simp)).1 _ (List.mem_singleton.2 rfl)
  have hb5 : base ≤ b5 ∧ Blk wx b5 351 [.int .i64 (pc : Int),eoF ⟨pc,bm,bt',bc,!a.2.isEmpty,a.2,y⟩]:=hm.loc (p:=blkPq b5 351 [.int .i64 (pc : Int),eoF ⟨pc,bm,bt',bc,!a.2.isEmpty,a.2,y⟩]) (by simp)
  have x1:=hb5.2.cell (k:=1) rfl
  unfold eoF at x1 ⊢
  dsimp only at x1 ⊢
  have HM:=Lib.hid hm
  have HB:=Lib.hid hB
  have HLE:=Lib.hid hLE
  have HX:=Lib.hid hbx
  have HA:=Lib.hid ha
  clear hm hB hLE hb5 hbx ha
  by_cases hne : a.2 = []
  ·have HN:=Lib.hid hne
   have hmo : (!a.2.isEmpty) = false:=by rw [hne]; rfl
   go_wp2_with (go_at_call 297; refine (nextM_no HX.out hmo).mono ?_; rintro r w2 ⟨rfl,rfl⟩)
   have i0 : (0 : Int) ≤ (pc : Int):=by omega
   have i1 : (pc : Int) < (l.length : Int):=by omega
   have i2 : (l.length : Int) ≤ 1000:=by omega
   obtain ⟨a',n,hev,hc⟩:=recJ_openM (HT.out _ HB.out)
   obtain ⟨b,off,rfl,d0⟩:=hc pc hp
   subst hev
   obtain ⟨v,hv'⟩ : ∃ v,v = l[pc]:=⟨_,rfl⟩
   rw [← hv'] at d0
   have HV:=Lib.hid hv'
   have c3:=HM.out.cell (k:=3) rfl
   have c5:=HM.out.cell (k:=5) rfl
   have f5:=HM.out.free (k:=5) (by decide)
   have HD:=Lib.hid (HM.out.below (b_drew w2))
   clear hc hv' hmo hne x1
   go_region
   all_goals
    go_wp2_with fail
    go_ret
    obtain ⟨m5,b6⟩:=HD.out.setAt v
    exact ⟨rfl,.inl ⟨HN.out,_,by rw [← HV.out]; exact (m5.drop).drop⟩,(HB.out.trans ((b_drew w2).mono HM.out.size)).trans b6⟩
  ·have hmo : (!a.2.isEmpty) = true:=by cases h2 : a.2 with | nil => exact absurd h2 hne | cons _ _ => rfl
   obtain ⟨hl1,-,hl3⟩:=leftE_next (e:=⟨pc,bm,bt',bc,!a.2.isEmpty,a.2,y⟩) hmo
   rw [HLE.out] at hl1
   dsimp only at hl1
   obtain ⟨p,hp'⟩ : ∃ p,p = (Lib.cut a.2 [y]).1:=⟨_,rfl⟩
   rw [← hp'] at hl1
   have HY:=Lib.hid (nextM_yes HX.out hmo HA.out (HG.out _ HB.out).mx)
   rw [← hp'] at HY
   obtain ⟨mo,hmo'⟩ : ∃ mo,mo = (Lib.cut a.2 [y]).2.2:=⟨_,rfl⟩
   obtain ⟨re,hre'⟩ : ∃ re,re = (Lib.cut a.2 [y]).2.1:=⟨_,rfl⟩
   have he' : nextE ⟨pc,bm,bt',bc,!a.2.isEmpty,a.2,y⟩ = ⟨pc,bm,bt',bc,mo,re,y⟩:=by rw [hmo',hre']; rfl
   rw [he'] at HY hl1 hl3
   have HL1:=Lib.hid hl1
   have HL3:=Lib.hid hl3
   clear hl1 hl3 hp' he' hmo' hre' hne
   go_wp2_with (go_at_call 297; refine HY.out.mono ?_; rintro r w2 ⟨rfl,hbx2,hc2⟩; obtain ⟨hm2,hb2⟩:=HM.out.turnBox hc2 hbx2 rfl rfl rfl; have HM2:=Lib.hid hm2; have HB2:=Lib.hid (HB.out.trans hb2); clear hm2 hb2 hc2 hbx2)
   obtain ⟨_,⟨oa,oc,rfl⟩,_,_⟩:=HM2.out.slices
   have hb5 : base ≤ b5 ∧ Blk w2 b5 351 [.int .i64 (pc : Int),eoF ⟨pc,bm,bt',bc,!a.2.isEmpty,a.2,y⟩]:=HM2.out.loc (p:=blkPq b5 351 [.int .i64 (pc : Int),eoF ⟨pc,bm,bt',bc,!a.2.isEmpty,a.2,y⟩]) (by simp)
   have z0:=hb5.2.cell (k:=0) rfl
   have z1:=hb5.2.cell (k:=1) rfl
   have z2:=hb5.2.lt
   unfold eoF at z1
   dsimp only at z1
   have c23 : w2.cell? ⟨G,23,none⟩ = some (.slice oa eos.length oc):=HM2.out.cellR (k:=0) rfl
   have hGl : G < w2.heap.size:=HM2.out.blk.lt
   have h3d:=HM2.out.below (b_drew w2)
   have hgb : base ≤ w2.drew.heap.size:=h3d.size
   have hby : (eos.length + 1) * 16 ≤ 140737488355328:=by omega
   have hoo:=h3d.oo
   have H3D:=Lib.hid h3d
   have he9 : (eos.length : Int) ≤ 900:=by omega
   clear h3d hb5 x1 hmo
   go_region_law (refine recEa.step_append1V w2.drew ⟨pc,bm,bt',bc,mo,re,y⟩ rfl _ _ 225 rfl Tryz.underlying225 base (.slice oa eos.length oc) eos rfl hoo _ rfl _ rfl _ rfl hby hgb ?_; intro g gc w4 hown hc hg; have hn:=H3D.out.newO2 (opv':=.slice (some ⟨g,0,none⟩) (eos.length + 1) gc) hc (fun k hk => by cases hk; exact hg) hown; have f23:=hn.2.2.1; have c23':=hn.2.2.2; have HN:=Lib.hid hn; clear hn hown hc hg)
   all_goals
    (try simp only [List.getElem_toArray,List.getElem_cons_succ,List.getElem_cons_zero])
    (try go_frame)
    go_wp2_with (go_at_call 293; refine (push_any (0,p) HN.out.1 (by have:=HL.out; omega)).mono ?_; rintro r w6 ⟨rfl,⟨sv6,hm6⟩,hB6⟩)
    go_ret
    exact ⟨rfl,.inr ⟨p,_,HL1.out,sv6,_,⟨pc,bm,bt',bc,mo,re,y⟩,rfl,rfl,Nat.le_trans HL3.out HA.out,hm6.drop⟩,((HB2.out.trans ((b_drew w2).mono HM2.out.size)).trans HN.out.2.1).trans hB6⟩
 refine ⟨fun listed ax wx hI hd hdep => ?_,fun listed ax wx hI hd hdep => ?_,fun listed ax wx hI hd hdep => ?_,fun listed ax wx hI hd hdep => ?_,fun listed ax wx hI hd hdep => ?_,fun listed ax wx hI hd hdep => ?_,fun listed ax wx hI hd hdep => ?_,fun listed ax wx hI hd hdep => ?_,fun listed ax wx hI hd hdep => ?_,fun listed ax wx hI hd hdep => ?_,fun listed ax wx hI hd hdep => ?_,fun listed ax wx hI hd hdep => ?_,True.intro⟩
 ·rw [HINV.out] at hI
  obtain ⟨d0,d1,d2,d3,d4,d5,d6,d7,d8,d9,d10,d11,M,b5,rfl,rfl,hBI,h9⟩:=hI
  obtain rfl : d0 = false:=by simpa using hd
  rw [if_pos (by rfl)]
  unfold Oper.wp
  clear hd hdep
  go_simp
  rw [HINV.out]
  exact ⟨true,d1,d2,d3,d4,d5,d6,d7,d8,d9,d10,d11,M,b5,rfl,rfl,hBI,h9⟩
 ·rw [HINV.out] at hI
  obtain ⟨d0,d1,d2,d3,d4,d5,d6,d7,d8,d9,d10,d11,M,b5,rfl,rfl,hBI,h9⟩:=hI
  obtain rfl : d1 = false:=by simpa using hd
  simp [Region.binds] at hdep
  have e0 : d0 = true:=by simp [hdep]
  clear hdep
  simp only [e0] at hBI ⊢
  rw [if_pos (by rfl)]
  unfold Oper.wp
  clear hd
  go_simp
  rw [HINV.out]
  exact ⟨true,true,d2,d3,d4,d5,d6,d7,d8,d9,d10,d11,M,b5,rfl,rfl,hBI,h9⟩
 ·rw [HINV.out] at hI
  obtain ⟨d0,d1,d2,d3,d4,d5,d6,d7,d8,d9,d10,d11,M,b5,rfl,rfl,hBI,h9⟩:=hI
  obtain rfl : d2 = false:=by simpa using hd
  simp [Region.binds] at hdep
  have e1 : d1 = true:=by simp [hdep]
  clear hdep
  simp only [e1] at hBI ⊢
  rw [if_pos (by rfl)]
  unfold Oper.wp
  clear hd
  go_simp
  rw [HINV.out]
  exact ⟨d0,true,true,d3,d4,d5,d6,d7,d8,d9,d10,d11,M,b5,rfl,rfl,hBI,h9⟩
 ·rw [HINV.out] at hI
  obtain ⟨d0,d1,d2,d3,d4,d5,d6,d7,d8,d9,d10,d11,M,b5,rfl,rfl,hBI,h9⟩:=hI
  obtain rfl : d3 = false:=by simpa using hd
  simp [Region.binds] at hdep
  have e2 : d2 = true:=by simp [hdep]
  clear hdep
  simp only [e2] at hBI ⊢
  rw [if_pos (by rfl)]
  unfold Oper.wp
  clear hd
  have y0:=hBI.out.at5
  go_simp
  rw [HINV.out]
  exact ⟨d0,d1,true,true,d4,d5,d6,d7,d8,d9,d10,d11,M,b5,rfl,rfl,hBI,h9⟩
 ·rw [HINV.out] at hI
  obtain ⟨d0,d1,d2,d3,d4,d5,d6,d7,d8,d9,d10,d11,M,b5,rfl,rfl,hBI,h9⟩:=hI
  obtain rfl : d4 = false:=by simpa using hd
  rw [if_pos (by rfl)]
  unfold Oper.wp
  clear hd hdep
  go_simp
  rw [HINV.out]
  exact ⟨d0,d1,d2,d3,true,d5,d6,d7,d8,d9,d10,d11,M,b5,rfl,rfl,hBI,h9⟩
 ·rw [HINV.out] at hI
  obtain ⟨d0,d1,d2,d3,d4,d5,d6,d7,d8,d9,d10,d11,M,b5,rfl,rfl,hBI,h9⟩:=hI
  obtain rfl : d5 = false:=by simpa using hd
  simp [Region.binds] at hdep
  have e4 : d4 = true:=by simp [hdep]
  clear hdep
  simp only [e4] at hBI ⊢
  rw [if_pos (by rfl)]
  unfold Oper.wp
  clear hd
  go_simp
  refine (hBI.out.pop (by have:=HL.out; omega)).mono ?_
  rintro r w2 ⟨rfl,hBI2⟩
  rw [HINV.out]
  exact ⟨d0,d1,d2,d3,true,true,d6,d7,d8,d9,d10,d11,M,b5,rfl,rfl,hBI2,h9⟩
 ·rw [HINV.out] at hI
  obtain ⟨d0,d1,d2,d3,d4,d5,d6,d7,d8,d9,d10,d11,M,b5,rfl,rfl,hBI,h9⟩:=hI
  obtain rfl : d6 = false:=by simpa using hd
  simp [Region.binds] at hdep
  have e5 : d5 = true:=by simp [hdep]
  clear hdep
  simp only [e5] at hBI ⊢
  rw [if_pos (by rfl)]
  unfold Oper.wp
  clear hd
  go_simp
  rw [HINV.out]
  exact ⟨d0,d1,d2,d3,d4,true,true,d7,d8,d9,d10,d11,M,b5,rfl,rfl,hBI,h9⟩
 ·rw [HINV.out] at hI
  obtain ⟨d0,d1,d2,d3,d4,d5,d6,d7,d8,d9,d10,d11,M,b5,rfl,rfl,hBI,h9⟩:=hI
  obtain rfl : d7 = false:=by simpa using hd
  rw [if_pos (by rfl)]
  unfold Oper.wp
  clear hd hdep
  go_simp
  rw [HINV.out]
  exact ⟨d0,d1,d2,d3,d4,d5,d6,true,d8,d9,d10,d11,M,b5,rfl,rfl,hBI,h9⟩
 ·rw [HINV.out] at hI
  obtain ⟨d0,d1,d2,d3,d4,d5,d6,d7,d8,d9,d10,d11,M,b5,rfl,rfl,hBI,h9⟩:=hI
  obtain rfl : d8 = false:=by simpa using hd
  simp [Region.binds] at hdep
  have e5 : d5 = true:=by simp [hdep]
  have e6 : d6 = true:=by simp [hdep]
  have e7 : d7 = true:=by simp [hdep]
  clear hdep
  simp only [e5,e6,e7] at hBI ⊢
  have e9 : d9 = false:=no_of (fun e => Bool.noConfusion (h9 e))
  simp only [e9] at ⊢
  rw [if_pos (by rfl)]
  unfold Oper.wp
  clear hd
  go_simp
  refine hBI.out.pieces.mono ?_
  rintro r w2 ⟨rfl,hBI2⟩
  rw [HINV.out]
  exact ⟨d0,d1,d2,d3,d4,true,true,true,true,false,d10,d11,_,b5,rfl,rfl,hBI2,fun _ => rfl⟩
 ·rw [HINV.out] at hI
  obtain ⟨d0,d1,d2,d3,d4,d5,d6,d7,d8,d9,d10,d11,M,b5,rfl,rfl,hBI,h9⟩:=hI
  obtain rfl : d9 = false:=by simpa using hd
  simp [Region.binds] at hdep
  have e3 : d3 = true:=by simp [hdep]
  have e8 : d8 = true:=by simp [hdep]
  clear hdep
  simp only [e3,e8] at hBI ⊢
  rw [if_pos (by rfl)]
  unfold Oper.wp
  clear hd
  go_simp
  rw [HINV.out]
  exact ⟨d0,d1,d2,true,d4,d5,d6,d7,true,true,d10,d11,M,b5,rfl,rfl,hBI,fun _ => rfl⟩
 ·rw [HINV.out] at hI
  obtain ⟨d0,d1,d2,d3,d4,d5,d6,d7,d8,d9,d10,d11,M,b5,rfl,rfl,hBI,h9⟩:=hI
  obtain rfl : d10 = false:=by simpa using hd
  rw [if_pos (by rfl)]
  unfold Oper.wp
  clear hd hdep
  go_simp
  rw [HINV.out]
  exact ⟨d0,d1,d2,d3,d4,d5,d6,d7,d8,d9,true,d11,M,wx.heap.size,rfl,rfl,hBI.out.alloc,h9⟩
 ·rw [HINV.out] at hI
  obtain ⟨d0,d1,d2,d3,d4,d5,d6,d7,d8,d9,d10,d11,M,b5,rfl,rfl,hBI,h9⟩:=hI
  obtain rfl : d11 = false:=by simpa using hd
  simp [Region.binds] at hdep
  have e8 : d8 = true:=by simp [hdep]
  have e9 : d9 = true:=by simp [hdep]
  have e10 : d10 = true:=by simp [hdep]
  have e5 : d5 = true:=hBI.out.2.2.1 e8
  clear hdep
  simp only [e8,e9,e10,e5] at hBI ⊢
  rw [if_pos (by rfl)]
  unfold Oper.wp
  clear hd
  obtain ⟨v0,v1,y0,y1,y2,y3⟩:=hBI.out.cells
  unfold eoF
  go_simp
  rw [HINV.out]
  exact ⟨d0,d1,d2,d3,d4,true,d6,d7,true,true,true,true,M,b5,rfl,rfl,hBI.out.store,fun _ => rfl⟩
end
end Go.Proofs.YtehllcbnheicoaaGreatDoor
