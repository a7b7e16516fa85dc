/- Lemmas for FoldTells, part 50: walks of the functions that it reaches, and the plain laws behind them. -/
import Derived.Stop.Joined
import Derived.Test.YtehllcbnheicoaaGreatDoorFoldTellsK44
import Derived.Test.YtehllcbnheicoaaGreatDoorFoldTellsK49
set_option linter.unusedSimpArgs false
set_option linter.unusedVariables false
set_option maxRecDepth 100000
set_option maxHeartbeats 16000000
namespace Go.Proofs.YtehllcbnheicoaaGreatDoor
open Go.ChangeShapes Go.WideShapes Go.ChangeAt Go.RowKit Oct
section
variable {H : Type} {enc : TypeId × Value → H} {W : World}
theorem trod_struct5 {P : Program} {w : World} {base : Nat} {spare : Nat → Bool} {held : Bool} {t : TypeId} {f0 f1 f2 f3 f4 : Field} {fuel : Nat} {cs : List Value} {x : DataW H × List MemPlace} (ht : P.underlying t = some (.struct #[f0,f1,f2,f3,f4])) (h : DataW.trod enc P w base spare held fuel t cs = some x) :
  ∃ (y0 y1 y2 y3 y4 : DataW H × List MemPlace) (n : Nat),x.1 = .agg [y0.1,y1.1,y2.1,y3.1,y4.1] ∧ cs.length = P.cellsOf t ∧ DataW.trod enc P w base spare held n f0.type ((cs.drop f0.offset).take (P.cellsOf f0.type)) = some y0 ∧
   DataW.trod enc P w base spare held n f1.type ((cs.drop f1.offset).take (P.cellsOf f1.type)) = some y1 ∧ DataW.trod enc P w base spare held n f2.type ((cs.drop f2.offset).take (P.cellsOf f2.type)) = some y2 ∧
   DataW.trod enc P w base spare held n f3.type ((cs.drop f3.offset).take (P.cellsOf f3.type)) = some y3 ∧ DataW.trod enc P w base spare held n f4.type ((cs.drop f4.offset).take (P.cellsOf f4.type)) = some y4:=by
 obtain ⟨xs,n,_,rfl,hl,hlen,hf⟩:=DataW.trod_struct ht h
 match xs,hlen with
 | [y0,y1,y2,y3,y4],_ => exact ⟨y0,y1,y2,y3,y4,n,by simp,hl,by simpa using hf 0 f0 rfl,by simpa using hf 1 f1 rfl,by simpa using hf 2 f2 rfl,by simpa using hf 3 f3 rfl,by simpa using hf 4 f4 rfl⟩
theorem opens_struct5 {P : Program} {α0 α1 α2 α3 α4 : Type} {t : TypeId} {f0 f1 f2 f3 f4 : Field} {m0 : α0 → Nat} {m1 : α1 → Nat} {m2 : α2 → Nat} {m3 : α3 → Nat} {m4 : α4 → Nat} {H0 : List Value → α0 → Prop} {H1 : List Value → α1 → Prop} {H2 : List Value → α2 → Prop} {H3 : List Value → α3 → Prop} {H4 : List Value → α4 → Prop}
  (ht : P.underlying t = some (.struct #[f0,f1,f2,f3,f4]))
  (h0 : Opens enc P W f0.type m0 H0) (h1 : Opens enc P W f1.type m1 H1) (h2 : Opens enc P W f2.type m2 H2) (h3 : Opens enc P W f3.type m3 H3) (h4 : Opens enc P W f4.type m4 H4) :
  Opens enc P W t (fun _ => 0) fun cs (p : α0 × α1 × α2 × α3 × α4) => cs.length = P.cellsOf t ∧ H0 ((cs.drop f0.offset).take (P.cellsOf f0.type)) p.1 ∧ H1 ((cs.drop f1.offset).take (P.cellsOf f1.type)) p.2.1 ∧ H2 ((cs.drop f2.offset).take (P.cellsOf f2.type)) p.2.2.1 ∧
   H3 ((cs.drop f3.offset).take (P.cellsOf f3.type)) p.2.2.2.1 ∧ H4 ((cs.drop f4.offset).take (P.cellsOf f4.type)) p.2.2.2.2:=by
 intro n cs d ps h hw
 obtain ⟨y0,y1,y2,y3,y4,m,hx,hl,e0,e1,e2,e3,e4⟩:=trod_struct5 ht h
 simp only at hx
 subst hx
 have hw' : ∀ x,x ∈ y0.1.weights P f0.type ∨ x ∈ y1.1.weights P f1.type ∨ x ∈ y2.1.weights P f2.type ∨ x ∈ y3.1.weights P f3.type ∨ x ∈ y4.1.weights P f4.type → x ≤ reachBytes:=by
  intro x hx
  refine hw x ?_
  simp only [DataW.weights,ht,DataW.weightsEach,List.map_cons,List.mem_append]
  rcases hx with hx | hx | hx | hx | hx
  ·exact .inl hx
  ·exact .inr (.inl hx)
  ·exact .inr (.inr (.inl hx))
  ·exact .inr (.inr (.inr (.inl hx)))
  ·exact .inr (.inr (.inr (.inr (.inl hx))))
 obtain ⟨x0,k0,_⟩:=h0 _ _ _ _ e0 (fun x hx => hw' x (.inl hx))
 obtain ⟨x1,k1,_⟩:=h1 _ _ _ _ e1 (fun x hx => hw' x (.inr (.inl hx)))
 obtain ⟨x2,k2,_⟩:=h2 _ _ _ _ e2 (fun x hx => hw' x (.inr (.inr (.inl hx))))
 obtain ⟨x3,k3,_⟩:=h3 _ _ _ _ e3 (fun x hx => hw' x (.inr (.inr (.inr (.inl hx)))))
 obtain ⟨x4,k4,_⟩:=h4 _ _ _ _ e4 (fun x hx => hw' x (.inr (.inr (.inr (.inr hx)))))
 exact ⟨(x0,x1,x2,x3,x4),⟨hl,k0,k1,k2,k3,k4⟩,Nat.zero_le _⟩
def ProgAt (W : World) (cs : List Value) (p : List (List UInt8) × List VI) : Prop:=∃ tv cv,cs = [tv,cv] ∧ ProgR W tv cv p.1 p.2
theorem opens_prog : Opens enc Tryz.prog W 25 (fun _ => 0) (ProgAt W):=by
 have h3:=reachBytes_lt
 have o1 : Opens enc Tryz.prog W 22 _ _:=opens_slice (size:=1) Tryz.underlying22 (by kernel_rfl) (by decide) (opens_str Tryz.underlying9)
 have o2 : Opens enc Tryz.prog W 23 _ _:=opens_slice (size:=2) Tryz.underlying23 (by kernel_rfl) (by decide) opens_ins
 refine Opens.mapV (opens_struct2 (c0:=1) (c1:=1) Tryz.underlying25 (by kernel_rfl) (by kernel_rfl) (by kernel_rfl) rfl rfl o1 o2) ?_
 rintro cs ⟨texts,code⟩ ⟨cs0,cs1,rfl,_,_,⟨tv,rfl,h1,h2⟩,cv,rfl,h4,h5⟩
 have hb1 : Tryz.prog.bytesOf 9 = 16:=by kernel_rfl
 have hb2 : Tryz.prog.bytesOf 97 = 2:=by kernel_rfl
 rw [hb1] at h2
 rw [hb2] at h5
 obtain ⟨r1,r2⟩:=rec_of recS (fun cs x h => h.1) h1
 obtain ⟨r3,_⟩:=rec_of recIns (fun cs x h => h) h4
 refine ⟨(texts,code),⟨tv,cv,rfl,⟨r1,r3,?_,?_,fun s hs => by obtain ⟨cs,_,h⟩:=r2 s hs; exact h⟩⟩,Nat.zero_le _⟩
 ·have h2' : texts.length * 16 ≤ reachBytes:=h2
  show texts.length ≤ _
  omega
 ·have h5' : code.length * 2 ≤ reachBytes:=h5
  show code.length ≤ _
  omega
theorem i64_wf {a : Int} (h : (Lit.int .i64 a).wf = true) : -9223372036854775808 ≤ a ∧ a ≤ 9223372036854775807:=by
 simp [Lit.wf,IntKind.min,IntKind.max,IntKind.signed,IntKind.bits] at h
 omega
theorem open_job {base j : Nat} {v : Value} {d : DataW H} {ps : List MemPlace} {ts : List TypeId} {ds : List (DataW H)}
  (hv : Value.okWide Tryz.prog W .any base 27 v) (h : DataW.Trod enc Tryz.prog W 0 (fun _ => true) true 27 v d ps) (hsz : (DataW.weightsEach Tryz.prog ts ds).all (· ≤ reachBytes) = true) (hj : ts[j]? = some 27) (hd : ds[j]? = some d) :
  ∃ (t1 c1 t2 c2 t3 c3 : Value) (q : Jb),v = jobV t1 c1 t2 c2 t3 c3 q ∧ JobQ W t1 c1 t2 c2 t3 c3 q:=by
 obtain ⟨⟨p0,p1,p2,a3,a4⟩,⟨hl,k0,k1,k2,k3,k4⟩,_⟩:=open_any (opens_struct5 Tryz.underlying27 opens_prog opens_prog opens_prog (opens_int (k:=.i64) Tryz.underlying3) (opens_int (k:=.i64) Tryz.underlying3)) h hsz hj hd
 obtain ⟨cs,rfl,hsize⟩:=okWide_struct Tryz.underlying27 hv
 have c8 : Tryz.prog.cellsOf 27 = 8:=by kernel_rfl
 have c2 : Tryz.prog.cellsOf 25 = 2:=by kernel_rfl
 have c1 : Tryz.prog.cellsOf 3 = 1:=by kernel_rfl
 have e : (Value.agg cs).cells.toList = cs.toList:=by simp [Value.cells]
 rw [e] at hl k0 k1 k2 k3 k4
 rw [c8] at hl
 dsimp only at k0 k1 k2 k3 k4
 simp only [c2,c1] at k0 k1 k2 k3 k4
 obtain ⟨L,hL⟩ : ∃ L,L = cs.toList:=⟨_,rfl⟩
 rw [← hL] at hl k0 k1 k2 k3 k4
 match L,hl,hL,k0,k1,k2,k3,k4 with
 | [l0,l1,l2,l3,l4,l5,l6,l7],_,hL,⟨tv0,cv0,q0,r0⟩,⟨tv1,cv1,q1,r1⟩,⟨tv2,cv2,q2,r2⟩,⟨q3,r3⟩,⟨q4,r4⟩ =>
  simp at q0 q1 q2 q3 q4
  obtain ⟨rfl,rfl⟩:=q0
  obtain ⟨rfl,rfl⟩:=q1
  obtain ⟨rfl,rfl⟩:=q2
  subst q3 q4
  obtain ⟨b3,b3'⟩:=i64_wf r3
  obtain ⟨b4,b4'⟩:=i64_wf r4
  refine ⟨l0,l1,l2,l3,l4,l5,⟨p0.1,p0.2,p1.1,p1.2,p2.1,p2.2,a3,a4⟩,?_,⟨r0,r1,r2,b3,b3',b4,b4'⟩⟩
  rw [← Array.toArray_toList (xs:=cs),← hL]
  rfl
def RowsAt5 (W : World) (cs : List Value) (rows : List (List PR)) : Prop:=∃ v,cs = [v] ∧ RR W v rows ∧ rows.length ≤ 5864062014634 ∧ ∀ l ∈ rows,l.length ≤ 4398046511104 ∧ ∀ p ∈ l,p.1.length ≤ 140737488355328 ∧ p.2.length ≤ 140737488355328
theorem opens_rows5 : Opens enc Tryz.prog W 28 (fun rows : List (List PR) => (rows.map bulkP).sum + 1) (RowsAt5 W):=by
 refine Opens.imp (opens_slice (size:=1) Tryz.underlying28 (by kernel_rfl) (by decide) opens_pairs) ?_
 rintro cs rows ⟨v,rfl,⟨a,cap,rfl,hle,hn,hc⟩,hb⟩
 have hby : Tryz.prog.bytesOf 37 = 24:=by kernel_rfl
 rw [hby] at hb
 have h2 : reachBytes = 140737488351232:=rfl
 refine ⟨_,rfl,⟨a,cap,rfl,hle,hn,?_⟩,by omega,?_⟩
 ·intro k hk
  obtain ⟨b,off,cs,ha,_,hcell,v,rfl,h1,_⟩:=hc k hk
  refine ⟨b,off,v,ha,?_,h1⟩
  have:=hcell 0 _ rfl
  simpa using this
 ·intro l hl
  obtain ⟨k,hk,rfl⟩:=List.getElem_of_mem hl
  obtain ⟨_,_,_,_,_,_,_,_,_,h3,h4⟩:=hc k hk
  exact ⟨h3,h4⟩
theorem open_rows5 {base j : Nat} {v : Value} {d : DataW H} {ps : List MemPlace} {ts : List TypeId} {ds : List (DataW H)}
  (hv : Value.okWide Tryz.prog W .any base 28 v) (h : DataW.Trod enc Tryz.prog W 0 (fun _ => true) true 28 v d ps) (hsz : (DataW.weightsEach Tryz.prog ts ds).all (· ≤ reachBytes) = true) (hj : ts[j]? = some 28) (hd : ds[j]? = some d) :
  ∃ rows : List (List PR),RR W v rows ∧ rows.length ≤ 5864062014634 ∧ (∀ l ∈ rows,l.length ≤ 4398046511104 ∧ ∀ p ∈ l,p.1.length ≤ 140737488355328 ∧ p.2.length ≤ 140737488355328):=by
 obtain ⟨rows,⟨v',hcs,h1,h2,h3⟩,h4⟩:=open_any opens_rows5 h hsz hj hd
 obtain rfl:=cells_slice Tryz.underlying28 hv hcs
 exact ⟨rows,h1,h2,h3⟩
end
end Go.Proofs.YtehllcbnheicoaaGreatDoor
namespace Go.Proofs.YtehllcbnheicoaaGreatDoor
open Go.ChangeShapes Go.WideShapes Go.ChangeAt Go.RowKit Oct
def doesCells : Array Value:=#[.nilFunc,.func (.func 270) #[] #[],.func (.func 271) #[] #[],.func (.func 272) #[] #[],.func (.func 273) #[] #[],.func (.func 274) #[] #[],.func (.func 275) #[] #[],.func (.func 276) #[] #[],.func (.func 277) #[] #[],.func (.func 278) #[] #[],.func (.func 279) #[] #[],.func (.func 280) #[] #[],.func (.func 281) #[] #[],.func (.func 282) #[] #[],.func (.func 283) #[] #[],.func (.func 284) #[] #[],.func (.func 285) #[] #[],.func (.func 286) #[] #[],.func (.func 287) #[] #[],.func (.func 288) #[] #[],.func (.func 289) #[] #[],.func (.func 290) #[] #[],.func (.func 291) #[] #[],.func (.func 292) #[] #[]] /- 0 -/
def setDoes : Obj → Obj
 | .cells _ t fz => .cells doesCells t fz
 | o => o
noncomputable def startG0 (os : Os) : World:={ World.holding Tryz.prog os ⟨#[],#[],[]⟩ with heap:=(World.holding Tryz.prog os ⟨#[],#[],[]⟩).heap.modify 0 setDoes }
noncomputable def startG (os : Os) : World:=(startG0 os).layVars Tryz.prog laidGP
theorem startG_os (os : Os) : (startG os).os = os:=by
 show ((startG0 os).layVars Tryz.prog laidGP).os = os
 rw [World.layVars_os]
 rfl
theorem startG_met (os : Os) (args : Array Value) : laidMetH Tryz.prog laidG ((startG os).forCall (fun _ _ => 0) ⟨#[],args,[]⟩).memory:=by
 refine laidMetH_of_parts3 (fuel:=8) ?_ (by kernel_rfl) (by kernel_rfl)
 rw [show (laidG.filter fun x => x.2.handleName?.isNone) = laidGP from rfl]
 have e1 : (laidGP.filter fun x => (laidGP.map (·.1)).contains x.1) = laidGP:=List.filter_eq_self.2 fun x hx => List.contains_iff_mem.2 (List.mem_map.2 ⟨x,hx,rfl⟩)
 have e2 : (laidGP.filter fun x => !(laidGP.map (·.1)).contains x.1) = []:=List.filter_eq_nil_iff.2 fun x hx => by rw [List.contains_iff_mem.2 (List.mem_map.2 ⟨x,hx,rfl⟩)]; simp
 have h : laidMet Tryz.prog laidGP (startG os):=laidMet_layVars (w0:=startG0 os) (laidGP.map (·.1)) [] (by rw [e1]; rfl) (by rw [e1]; kernel_rfl) (by rw [e1]; kernel_rfl) (by rw [e2]; exact LaidIn.none)
 exact h.of_heap (by simp [World.memory,World.forCall,Input.heap])
end Go.Proofs.YtehllcbnheicoaaGreatDoor
