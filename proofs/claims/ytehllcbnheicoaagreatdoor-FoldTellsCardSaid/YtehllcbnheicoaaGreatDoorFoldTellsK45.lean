/- Lemmas for FoldTells, part 45: walks of the functions that it reaches, and the plain laws behind them. -/
import Derived.Test.YtehllcbnheicoaaGreatDoorFoldTellsK6
import Derived.Test.YtehllcbnheicoaaGreatDoorFoldTellsK40
import Derived.Test.YtehllcbnheicoaaGreatDoorFoldTellsK41
import Derived.Test.YtehllcbnheicoaaGreatDoorFoldTellsK44
set_option linter.unusedSimpArgs false
set_option linter.unusedVariables false
set_option maxRecDepth 100000
set_option maxHeartbeats 16000000
namespace Go.Proofs.YtehllcbnheicoaaGreatDoor
open Go.RowKit
section
variable {F : Fence} {n : Nat} {P : Program} {α : Type}
theorem wpIn_rangeH {g : Operand} {ps : Array Tmp} {assign body : Code} {Q : Exit → Act → World → Prop} {a : Act} {w : World}
  (hro : F.round = none) (h1 : 1 ≤ n) {gf : Nat} {lb : Array Value} (hg : a.eval g = .func (.func gf) #[] lb) (hFg : F.fn gf) (eg : ∀ args w,(callFunc gf args).run P w = .ok (.enter gf args) w)
  {Xr Yr : World → World → Prop} {Fin : World → Prop} {El : α → Array Value → World → Prop} {out : List α} (hX : ∀ U U',Xr U U' → KeepD w.heap.size U U')
  (hY : ∀ a b c d,Chg (fun k => k = w.heap.size ∨ k = w.heap.size + 1) a b → Yr b c → Chg (fun k => k = w.heap.size ∨ k = w.heap.size + 1) c d → Yr a d)
  (hFin : ∀ U U',Fin U → Chg (fun k => k = w.heap.size ∨ k = w.heap.size + 1) U U' → Fin U')
  (hseq : ∀ W,w.heap.size + 2 ≤ W.heap.size → (∀ o,W.cell? ⟨w.heap.size,o,none⟩ = none) → (∀ o,W.cell? ⟨w.heap.size + 1,o,none⟩ = none) → Below w.heap.size w W → IterG F (n - 1) P gf lb Xr Yr Fin El out W) (hps : ∀ x vs U,El x vs U → vs.size = ps.size)
  (hEl : ∀ x vs U U',El x vs U → Chg (fun k => k = w.heap.size ∨ k = w.heap.size + 1) U U' → El x vs U')
  (I : List α → World → Prop) (Ix : Code → List α → World → Prop)
  (hIX : ∀ pre U U',I pre U → Xr U U' → I pre U') (hI : ∀ pre U U',I pre U → Chg (fun k => k = w.heap.size ∨ k = w.heap.size + 1) U U' → I pre U')
  (hIxX : ∀ c pre U U',Ix c pre U → Xr U U' → Ix c pre U') (hIx : ∀ c pre U U',Ix c pre U → Chg (fun k => k = w.heap.size ∨ k = w.heap.size + 1) U U' → Ix c pre U') (h0 : I [] w)
  (hround : ∀ (l : Nat) (pre : List α) (x : α) (vs : Array Value) (U : World),I pre U → El x vs U → pre ++ [x] <+: out →
   assign.wpIn (F.inRound l) (n - 1 - 1) P (Exit.then (fun a' U1 => Below U.heap.size U U1 ∧ ∀ U2,w.heap.size + 2 ≤ U2.heap.size → I pre U2 → El x vs U2 → Chg (fun k => k = w.heap.size ∨ k = w.heap.size + 1) U1 U2 →
    body.wpIn (F.inRound l) (n - 1 - 1) P (rangeEndG w.heap.size Yr I Ix (pre ++ [x]) U2) a' U2) (fun _ _ _ => False)) { tmps:=(ps.zip vs).foldl (fun t (p,v) => t.setIfInBounds p v) a.tmps,defers:=[] } U)
  (hdone : ∀ W,w.heap.size + 2 ≤ W.heap.size → I out W → Fin W → W.heap[w.heap.size]? = some (.deferred (some [])) → Q .normal { a with defers:={ target:=.collected w.heap.size,args:=#[] } :: a.defers } W)
  (hstop : ∀ c pre W,w.heap.size + 2 ≤ W.heap.size → pre <+: out → Ix c pre W → W.heap[w.heap.size]? = some (.deferred (some [])) → c.wpIn F n P Q { a with defers:={ target:=.collected w.heap.size,args:=#[] } :: a.defers } W) :
  (Code.rangeFunc g ps assign body).wpIn F n P Q a w:=by
 refine wpIn_rangeFunc fun fn hfn => ?_
 rw [hro]
 obtain ⟨rec,hrec⟩ : ∃ rec : LoopState → Option Code → Loop,rec = fun st pe => { state:=st,pending:=pe,fn,tmps:=a.tmps,params:=ps,assign,body,defers:=w.heap.size }:=⟨_,rfl⟩
 obtain ⟨W1,hW1⟩ : ∃ W1,(w.alloc (.deferred (some []))).alloc (.loop (rec .ready none)) = W1:=⟨_,rfl⟩
 obtain ⟨hK1,hL1,hb1⟩:=two_new w (.deferred (some [])) (.loop (rec .ready none))
 rw [hW1] at hK1 hL1 hb1
 have hsz1 : w.heap.size + 2 ≤ W1.heap.size:=by have:=(Array.getElem?_eq_some_iff.1 hL1).1; omega
 refine ⟨w.heap.size + 1,[{ target:=.collected w.heap.size,args:=#[] }],W1,{ target:=.fn (.func gf) lb,args:=#[.func (.yield (w.heap.size + 1)) #[] #[]] },W1,gf,
  #[.func (.yield (w.heap.size + 1)) #[] #[]] ++ lb,W1,?_,?_,?_,?_,fun _ => h1,?_⟩
 ·rw [← hW1,hrec]; exact run_enterLoop_outer _ _ _ _ _
 ·simp only [resolve,hg]
  simp [go_sem]
 ·intro f' hf'; simp [Target.leads] at hf'; subst hf'; exact hFg
 ·simp [invoke,go_sem,eg]
 have keep : ∀ {U U' : World} {o o' : Obj},Xr U U' → U.heap[w.heap.size + 1]? = some o → U.heap[w.heap.size]? = some o' → U'.heap[w.heap.size + 1]? = some o ∧ U'.heap[w.heap.size]? = some o' :=
  fun hc h h' => ⟨(hX _ _ hc).at (.inr rfl) h,(hX _ _ hc).at (.inl rfl) h'⟩
 refine (hseq W1 hsz1 (fun o => by simp [World.cell?,hK1]) (fun o => by simp [World.cell?,hL1]) hb1 (w.heap.size + 1)
  (fun pre U => I pre U ∧ U.heap[w.heap.size + 1]? = some (.loop (rec .ready none)) ∧ U.heap[w.heap.size]? = some (.deferred (some [])))
  (fun pre U => ∃ c,Ix c pre U ∧ U.heap[w.heap.size + 1]? = some (.loop (rec .done (some c))) ∧ U.heap[w.heap.size]? = some (.deferred (some [])))
  (fun pre U U' hs hc => ⟨hIX _ _ _ hs.1 hc,keep hc hs.2.1 hs.2.2⟩)
  (fun pre U U' ⟨c,hs,hl,hk⟩ hc => ⟨c,hIxX _ _ _ _ hs hc,keep hc hl hk⟩)
  ?_ ⟨hI _ _ _ h0 (Chg.of_below hb1),hL1,hK1⟩).mono ?_
 ·rintro pre x vs U ⟨hi,hl,hk⟩ hel hpre
  have hy:=run_yield (P:=P) (args:=vs) hl (by rw [hrec]; exact hps x vs U hel)
  rw [hrec] at hy
  refine ⟨fn,_,assign,body,hy,roundIn_of_wpIn hfn (wpIn_mono (hround _ pre x vs U hi hel hpre) ?_)⟩
  clear hy
  intro ea a' U1 hea
  cases ea with
  | normal => ?_
  | _ => exact hea
  obtain ⟨hbel,hbody⟩:=hea
  have c1 : ∀ {Z : Nat → Prop},Chg Z U U1:=fun {Z} => Chg.of_below hbel
  replace hl:=c1.at (X:=fun _ => False) hl (fun h => h)
  replace hk:=c1.at (X:=fun _ => False) hk (fun h => h)
  replace hi:=hI _ _ _ hi c1
  replace hel:=hEl _ _ _ _ hel c1
  have hlt:=(Array.getElem?_eq_some_iff.1 hl).1
  refine ⟨_,run_beginRound hl (by rw [hrec]),?_⟩
  obtain ⟨U2,hU2⟩ : ∃ U2,U1.putObj (w.heap.size + 1) (.loop { rec .ready none with state:=.busy }) = U2:=⟨_,rfl⟩
  have hl2 : U2.heap[w.heap.size + 1]? = some (.loop { rec .ready none with state:=.busy }):=by rw [← hU2]; exact World.putObj_heap_same hlt
  have hk2 : U2.heap[w.heap.size]? = some (.deferred (some [])):=by rw [← hU2]; exact (World.putObj_heap_other (by omega)).trans hk
  have c2 : ∀ {Z : Nat → Prop},Z (w.heap.size + 1) → Chg Z U1 U2:=fun {Z} hz => by rw [← hU2]; exact Chg.putObj _ _ _ hz
  rw [hU2]
  refine wpIn_mono (hbody U2 (by have:=(Array.getElem?_eq_some_iff.1 hl2).1; omega) (hI _ _ _ hi (c2 (.inr rfl))) (hEl _ _ _ _ hel (c2 (.inr rfl))) (c2 (.inr rfl))) ?_
  have fin : ∀ (jump : Option Code) (U3 : World),U3.heap[w.heap.size + 1]? = some (.loop { rec .ready none with state:=.busy }) → U3.heap[w.heap.size]? = some (.deferred (some [])) →
    (Instr.endRound (w.heap.size + 1) jump).run P U3 = .ok (.bool jump.isNone) (U3.putObj (w.heap.size + 1) (.loop (rec (if jump.isNone then .ready else .done) jump))) ∧
    (U3.putObj (w.heap.size + 1) (.loop (rec (if jump.isNone then .ready else .done) jump))).heap[w.heap.size + 1]? = some (.loop (rec (if jump.isNone then .ready else .done) jump)) ∧
    (U3.putObj (w.heap.size + 1) (.loop (rec (if jump.isNone then .ready else .done) jump))).heap[w.heap.size]? = some (.deferred (some [])):=fun jump U3 hl3 hk3 => by
   have:=run_endRound (P:=P) jump hl3
   rw [hrec] at this ⊢
   exact ⟨this,World.putObj_heap_same (Array.getElem?_eq_some_iff.1 hl3).1,(World.putObj_heap_other (by omega)).trans hk3⟩
  have stop : ∀ (c : Code) (U3 : World),KeepD w.heap.size U2 U3 → Ix c (pre ++ [x]) U3 → ∃ v U4,(Instr.endRound (w.heap.size + 1) (some c)).run P U3 = .ok v U4 ∧
    ((Ending.returned v = .returned (.bool true) ∧ (I (pre ++ [x]) U4 ∧ U4.heap[w.heap.size + 1]? = some (.loop (rec .ready none)) ∧ U4.heap[w.heap.size]? = some (.deferred (some []))) ∧ Yr U U4) ∨
     (Ending.returned v = .returned (.bool false) ∧ ∃ c,Ix c (pre ++ [x]) U4 ∧ U4.heap[w.heap.size + 1]? = some (.loop (rec .done (some c))) ∧ U4.heap[w.heap.size]? = some (.deferred (some [])))):=fun c U3 hc hx => by
   obtain ⟨hr,hl4,hk4⟩:=fin (some c) U3 (hc.at (.inr rfl) hl2) (hc.at (.inl rfl) hk2)
   exact ⟨_,_,hr,.inr ⟨rfl,c,hIx _ _ _ _ hx (Chg.putObj _ _ _ (.inr rfl)),hl4,hk4⟩⟩
  rintro e a3 U3 hp
  cases e with
  | normal =>
   obtain ⟨hc,hy3,hi3⟩:=hp
   obtain ⟨hr,hl4,hk4⟩:=fin none U3 (hc.at (.inr rfl) hl2) (hc.at (.inl rfl) hk2)
   exact ⟨_,_,hr,.inl ⟨rfl,⟨hI _ _ _ hi3 (Chg.putObj _ _ _ (.inr rfl)),hl4,hk4⟩,
    hY _ _ _ _ (c1.trans (c2 (.inr rfl))) hy3 (Chg.putObj _ _ _ (.inr rfl))⟩⟩
  | ret => exact stop .ret U3 hp.1 hp.2
  | exit id => exact stop (.exit id) U3 hp.1 hp.2
  | goto t => exact stop (.goto t) U3 hp.1 hp.2
  | panic ch => exact hp.elim
  | outgrown => exact hp.elim
 ·rintro e W2 ⟨⟨v,rfl⟩,(⟨⟨hi,hl,hk⟩,hf⟩ | ⟨pre,hpre,c,hi,hl,hk⟩)⟩
  ·have hlt:=(Array.getElem?_eq_some_iff.1 hl).1
   exact ⟨none,_,by have:=run_endLoop (P:=P) hl (by rw [hrec]; simp); rw [hrec] at this; exact this,hdone _ (by simp; omega) (hI _ _ _ hi (Chg.putObj _ _ _ (.inr rfl))) (hFin _ _ hf (Chg.putObj _ _ _ (.inr rfl))) ((World.putObj_heap_other (by omega)).trans hk)⟩
  ·have hlt:=(Array.getElem?_eq_some_iff.1 hl).1
   exact ⟨some c,_,by have:=run_endLoop (P:=P) hl (by rw [hrec]; simp); rw [hrec] at this; exact this,hstop c pre _ (by simp; omega) hpre (hIx _ _ _ _ hi (Chg.putObj _ _ _ (.inr rfl))) ((World.putObj_heap_other (by omega)).trans hk)⟩
theorem wp_rangeH {g : Operand} {ps : Array Tmp} {assign body : Code} {Q : Exit → Act → World → Prop} {a : Act} {w : World} {D : Nat} (hD : w.heap.size = D)
  {gf : Nat} {lb : Array Value} (hg : a.eval g = .func (.func gf) #[] lb) (eg : ∀ args w,(callFunc gf args).run P w = .ok (.enter gf args) w)
  {Xr Yr : World → World → Prop} {Fin : World → Prop} {El : α → Array Value → World → Prop} {out : List α} (hX : ∀ U U',Xr U U' → KeepD D U U')
  (hY : ∀ a b c d,Chg (fun k => k = D ∨ k = D + 1) a b → Yr b c → Chg (fun k => k = D ∨ k = D + 1) c d → Yr a d)
  (hFin : ∀ U U',Fin U → Chg (fun k => k = D ∨ k = D + 1) U U' → Fin U')
  (hseq : ∀ W,D + 2 ≤ W.heap.size → (∀ o,W.cell? ⟨D,o,none⟩ = none) → (∀ o,W.cell? ⟨D + 1,o,none⟩ = none) → Below D w W → IterG Fence.wide 2 P gf lb Xr Yr Fin El out W) (hps : ∀ x vs U,El x vs U → vs.size = ps.size)
  (hEl : ∀ x vs U U',El x vs U → Chg (fun k => k = D ∨ k = D + 1) U U' → El x vs U')
  (I : List α → World → Prop) (Ix : Code → List α → World → Prop)
  (hIX : ∀ pre U U',I pre U → Xr U U' → I pre U') (hI : ∀ pre U U',I pre U → Chg (fun k => k = D ∨ k = D + 1) U U' → I pre U')
  (hIxX : ∀ c pre U U',Ix c pre U → Xr U U' → Ix c pre U') (hIx : ∀ c pre U U',Ix c pre U → Chg (fun k => k = D ∨ k = D + 1) U U' → Ix c pre U') (h0 : I [] w)
  (hround : ∀ (l : Nat) (pre : List α) (x : α) (vs : Array Value) (U : World),I pre U → El x vs U → pre ++ [x] <+: out →
   assign.wpIn (Fence.wide.inRound l) 1 P (Exit.then (fun a' U1 => Below U.heap.size U U1 ∧ ∀ U2,D + 2 ≤ U2.heap.size → I pre U2 → El x vs U2 → Chg (fun k => k = D ∨ k = D + 1) U1 U2 →
    body.wpIn (Fence.wide.inRound l) 1 P (rangeEndG D Yr I Ix (pre ++ [x]) U2) a' U2) (fun _ _ _ => False)) { tmps:=(ps.zip vs).foldl (fun t (p,v) => t.setIfInBounds p v) a.tmps,defers:=[] } U)
  (hdone : ∀ W,D + 2 ≤ W.heap.size → I out W → Fin W → W.heap[D]? = some (.deferred (some [])) → Q .normal { a with defers:={ target:=.collected D,args:=#[] } :: a.defers } W)
  (hstop : ∀ c pre W,D + 2 ≤ W.heap.size → pre <+: out → Ix c pre W → W.heap[D]? = some (.deferred (some [])) → c.wp P Q { a with defers:={ target:=.collected D,args:=#[] } :: a.defers } W) :
  (Code.rangeFunc g ps assign body).wp P Q a w:=by
 subst hD
 exact (wpIn_wide (n:=3)).1 (wpIn_rangeH rfl (by decide) hg trivial eg hX hY hFin hseq hps hEl I Ix hIX hI hIxX hIx h0 hround hdone fun c pre W h1 h2 h3 h4 => wpIn_wide.2 (hstop c pre W h1 h2 h3 h4))
end
end Go.Proofs.YtehllcbnheicoaaGreatDoor
namespace Go.Proofs.YtehllcbnheicoaaGreatDoor
open Go.RowKit Oct
attribute [local go_sem] Oper.semAt_some
theorem infoRow : (Tryz.prog.info? 37).map (fun i => (i.zero,i.size,i.bytes)) = some (some (.slice none 0 0),1,24):=by kernel_rfl
def RowsIn16 (B : Nat) (U : World) (cells : List Value) (gs : List (List PR)) : Prop:=cells.length = gs.length ∧
 ∀ k (hk : k < gs.length),∃ A C,cells[k]? = some (.slice A gs[k].length C) ∧ RP U (.slice A gs[k].length C) gs[k] ∧ ∀ ad,A = some ad → ad.block < B
theorem rp_chg {X : Nat → Prop} {w w' : World} {a : Option Addr} {n c : Nat} {l : List PR} (h : RP w (.slice a n c) l) (hc : Chg X w w') (hX : ∀ ad,a = some ad → ¬ X ad.block) : RP w' (.slice a n c) l:=by
 by_cases hl : l.length = 0
 ·obtain ⟨⟨a',cap,hv,hn,hcc⟩,h2⟩:=h
  refine ⟨⟨a',cap,hv,hn,fun j u hj => ?_⟩,h2⟩
  have : l = []:=List.eq_nil_of_length_eq_zero hl
  subst this
  simp [pcells] at hj
 ·refine h.move fun ad had => ?_
  obtain ⟨a',cap',hv,_,hcc⟩:=h.open
  injection hv with e1 _ _
  subst e1
  obtain ⟨b,off,hab,hu,_⟩:=hcc 0 (by omega)
  rw [had] at hab
  cases hab
  exact hc.block b (lt_of_cell hu) (hX _ had)
theorem RowsIn16.chg {B : Nat} {X : Nat → Prop} {U U' : World} {cells : List Value} {gs : List (List PR)} (h : RowsIn16 B U cells gs) (hc : Chg X U U') (hX : ∀ k,X k → B ≤ k) : RowsIn16 B U' cells gs :=
 ⟨h.1,fun k hk => by
  obtain ⟨A,C,h1,h2,h3⟩:=h.2 k hk
  exact ⟨A,C,h1,rp_chg h2 hc fun ad had hx => by have:=h3 ad had; have:=hX _ hx; omega,h3⟩⟩
theorem RowsIn16.snoc {B : Nat} {U : World} {cells : List Value} {gs : List (List PR)} {x : List PR} {A : Option Addr} {C : Nat} (h : RowsIn16 B U cells gs) (hx : RP U (.slice A x.length C) x) (hA : ∀ ad,A = some ad → ad.block < B) : RowsIn16 B U (cells ++ [.slice A x.length C]) (gs ++ [x]):=by
 refine ⟨by simp [h.1],fun k hk => ?_⟩
 by_cases hk2 : k < gs.length
 ·obtain ⟨A',C',h1,h2,h3⟩:=h.2 k hk2
  refine ⟨A',C',?_,?_,h3⟩
  ·rw [List.getElem?_append_left (by rw [h.1]; exact hk2),List.getElem_append_left hk2]; exact h1
  ·rw [List.getElem_append_left hk2]; exact h2
 ·obtain rfl : k = gs.length:=by simp at hk; omega
  refine ⟨A,C,?_,?_,hA⟩
  ·rw [List.getElem?_append_right (by rw [h.1]; exact Nat.le_refl _)]; simp [h.1]
  ·simpa using hx
theorem RowsIn16.rr {B base : Nat} {U : World} {v : Value} {cells : List Value} {gs : List (List PR)} (hown : U.ownsRow base 37 1 v gs.length cells) (h : RowsIn16 B U cells gs) : RR U v gs:=by
 obtain ⟨a,cap,hv,hn,hc⟩:=Reads.owned hown
 subst hv
 have hle : gs.length ≤ cap:=by
  rcases hown.2 with ⟨hv,h0⟩ | ⟨g,cap',cur,hv,_,_,hcc,_⟩
  ·omega
  ·injection hv with _ _ e3; omega
 refine ⟨a,cap,rfl,hle,hn,fun k hk => ?_⟩
 obtain ⟨A,C,h1,h2,_⟩:=h.2 k hk
 obtain ⟨b,off,ha,hu⟩:=hc k _ h1
 exact ⟨b,off,_,ha,hu,h2⟩
def ColI (B s : Nat) (w : World) (pre : List (List PR)) (U : World) : Prop:=∃ cells,BoxRow s (s + 3) 28 37 1 U pre.length cells ∧ RowsIn16 B U cells pre ∧ Chg (fun k => k = B ∨ s ≤ k) w U
theorem ColI.chg {B s : Nat} {w U U' : World} {pre : List (List PR)} (hBs : B < s) (h : ColI B s w pre U) (hc : Chg (fun k => k = B ∨ k = s + 1 ∨ k = s + 1 + 1) U U') : ColI B s w pre U':=by
 obtain ⟨cells,h1,h2,h3⟩:=h
 exact ⟨cells,h1.chg hc (fun k hk => by omega),h2.chg hc (fun k hk => by omega),h3.trans (hc.mono fun k hk => by omega)⟩
theorem ElP.chg {B s : Nat} {x : List PR} {vs : Array Value} {U U' : World} (hBs : B < s) (h : ElP (fun k => k < B) x vs U) (hc : Chg (fun k => k = s + 1 ∨ k = s + 1 + 1) U U') : ElP (fun k => k < B) x vs U':=by
 obtain ⟨A,C,h1,h2,h3⟩:=h
 exact ⟨A,C,h1,rp_chg h2 hc (fun ad had hx => by have:=h3 ad had; omega),h3⟩
theorem ColI.step {B s g cap : Nat} {w U W : World} {pre : List (List PR)} {x : List PR} {v : Value} {cells : List Value} {A : Option Addr} {C : Nat} (hBs : B < s) (hbox : U.heap[s]? = some (.cells #[v] 28 (0,0))) (hrows : RowsIn16 B U cells pre) (hw : Chg (fun k => k = B ∨ s ≤ k) w U)
  (hx : RP U (.slice A x.length C) x) (hA : ∀ ad,A = some ad → ad.block < B) (hB : Below (s + 3) U W) (hown : W.ownsRow (s + 3) 37 1 (.slice (some ⟨g,0,none⟩) (pre.length + 1) cap) (pre.length + 1) (cells ++ [.slice A x.length C])) :
  Chg (fun k => ¬ (k ≤ B ∨ k = s + 1 ∨ k = s + 1 + 1)) U (W.setCell ⟨s,0,none⟩ (.slice (some ⟨g,0,none⟩) (pre.length + 1) cap)) ∧ ColI B s w (pre ++ [x]) (W.setCell ⟨s,0,none⟩ (.slice (some ⟨g,0,none⟩) (pre.length + 1) cap)):=by
 obtain ⟨h1,h2⟩:=BoxRow.stored (by omega) hbox hB hown
 refine ⟨h2.mono fun k hk => by omega,_,by simpa using h1,(hrows.snoc hx hA).chg h2 fun k hk => by omega,hw.trans (h2.mono fun k hk => by omega)⟩
theorem AppendSeq_any (B : Nat) (r : List PR) (A0 : Option Addr) (C0 : Nat) (w : World) (hB : w.heap[B]? = some (.cells #[.slice A0 r.length C0] 37 (0,0))) (hr : RP w (.slice A0 r.length C0) r) (hblk : ∀ ad,A0 = some ad → ad.block < B) (hl : r.length ≤ 4398046511104) :
  Calls Tryz.prog 155 #[.slice none 0 0,.func (.func 156) #[] #[.pointer (some ⟨B,0,none⟩)]] w fun e w' => ∃ v cells,e = .returned v ∧ w'.ownsRow (w.heap.size + 3) 37 1 v (grp r).length cells ∧ RowsIn16 B w' cells (grp r) ∧ Chg (fun k => k = B) w w':=by
 have hgl:=grp_length_le r.length r (Nat.le_refl _)
 have hBlt:=(Array.getElem?_eq_some_iff.1 hB).1
 refine calls_of_wp_marks Tryz.func155 rfl ?_
 simp only [Tryz.ntmps155,List.size_toArray,List.length_cons,List.length_nil,Nat.reduceAdd,Nat.reduceSub,Array.replicate_succ,Array.replicate_zero,List.push_toArray,List.append_toArray,List.nil_append,List.cons_append]
 go_wp2
 obtain ⟨W1,hW1⟩ : ∃ W1,W1 = w.alloc (.cells #[.slice none 0 0] 28):=⟨_,rfl⟩
 have hs1 : W1.heap.size = w.heap.size + 1:=by rw [hW1]; simp
 have hbx : W1.heap[w.heap.size]? = some (.cells #[.slice none 0 0] 28 (0,0)):=by rw [hW1]; exact World.alloc_heap_new w _
 have hc1 : ∀ X,Chg X w W1:=fun X => by rw [hW1]; exact Chg.alloc X w _
 rw [← hW1]
 clear hW1
 have hB1:=(hc1 (fun _ => False)).at hB (fun h => h)
 have hr1:=rp_chg hr (hc1 (fun _ => False)) (fun _ _ h => h)
 refine wp_range (D:=w.heap.size + 1) hs1 (gf:=156) (lb:=#[.pointer (some ⟨B,0,none⟩)]) rfl (enters_of Tryz.func156 (by kernel_rfl) rfl)
  (X:=fun k => k = B) (Y:=fun k => k ≤ B) (El:=ElP fun k => k < B) (out:=grp r) (fun k hk => by omega) (fun k hk => by omega)
  (fun W hW => groups_iter 2 B r A0 C0 W ((hW.block B (by omega)).trans hB1) (rp_chg (X:=fun _ => False) hr1 (Chg.of_below (hW.mono (by omega))) (fun _ _ h => h)) hblk hl)
  (fun x vs U h => by obtain ⟨A,C,rfl,_⟩:=h; rfl) (fun x vs U U' h hc => h.chg hBlt hc)
  (ColI B w.heap.size w) (fun _ _ _ => False) (fun pre U U' h hc => h.chg hBlt hc) (fun _ _ _ _ h _ => h.elim)
  ⟨[],⟨_,hbx,World.ownsRow_nil _ _ _ _⟩,⟨rfl,fun k hk => by simp at hk⟩,hc1 _⟩ ?round ?done ?stop
 case round =>
  rintro l pre x vs U _ _ ⟨A,C,rfl,_,_⟩ hpre
  have hlen:=hpre.length_le
  rw [List.length_append] at hlen
  have hby : (pre.length + 1) * 24 ≤ 140737488355328:=by simp at hlen; omega
  gi_wp2
  refine ⟨Below.refl _ _,?_⟩
  rintro U2 h2 ⟨cells,⟨v,hbox,hown⟩,hrows,hchg⟩ ⟨A',C',hv',hx,hA⟩ hc2
  have hv2 : Value.slice A x.length C = .slice A' x.length C':=by simpa using hv'
  injection hv2 with e1 _ e3
  subst e1 e3
  obtain ⟨av,cv,rfl⟩:=owns_slice hown
  have c:=cell_of_one hbox
  have f:=free_of_one hbox
  clear hv' hlen hpre hc2
  gi_wp2_with (gi_at_builtin; refine append1In U2 [_] 37 rfl _ _ 28 rfl (w.heap.size + 3) (.slice none 0 0) 1 24 Tryz.underlying28 infoRow rfl (by decide) _ _ _ rfl hown _ rfl rfl (by simp [Value.oneCell']) hby (by decide) h2 ?_; intro g cap W3 hown3 hB3; have c3:=cell_of_one ((hB3.block w.heap.size (by omega)).trans hbox); have f3:=free_of_one ((hB3.block w.heap.size (by omega)).trans hbox))
  exact ColI.step hBlt hbox hrows hchg hx hA hB3 hown3
 case done =>
  rintro W h2 ⟨cells,⟨v,hbox,hown⟩,hrows,hchg⟩ hK
  obtain ⟨av,cv,rfl⟩:=owns_slice hown
  have c:=cell_of_one hbox
  go_wp2
  have hp : ∀ X : Nat → Prop,X (w.heap.size + 1) → Chg X W (W.putObj (w.heap.size + 1) (.deferred none)):=fun X hx => Chg.putObj _ _ _ hx
  refine marks_ret (D:=w.heap.size + 1) rfl hK (results_tmp rfl _ _ _) ⟨_,cells,rfl,?_,?_,?_⟩
  ·exact ownsRow_chg hown (hp (fun k => k = w.heap.size + 1) rfl) fun k hk => by omega
  ·exact hrows.chg (hp (fun k => k = w.heap.size + 1) rfl) fun k hk => by omega
  ·have hc:=hchg.trans (hp _ (.inr (by omega)))
   exact ⟨hc.os,hc.tape,hc.output,hc.size,fun k hk hn => hc.block k hk (by omega)⟩
 case stop => exact fun _ _ _ _ _ h _ => h.elim
theorem groups_mk (a : Option Addr) (n c : Nat) (w : World) : Calls Tryz.prog 113 #[.slice a n c] w fun e w' => e = .returned (.func (.func 156) #[] #[.pointer (some ⟨w.heap.size,0,none⟩)]) ∧ w' = w.alloc (.cells #[.slice a n c] 37):=by
 go_enter Tryz.func113,Tryz.ntmps113
 go_wp2
 go_ret
 exact ⟨rfl,rfl⟩
theorem Collect_any (B : Nat) (r : List PR) (A0 : Option Addr) (C0 : Nat) (w : World) (hB : w.heap[B]? = some (.cells #[.slice A0 r.length C0] 37 (0,0))) (hr : RP w (.slice A0 r.length C0) r) (hblk : ∀ ad,A0 = some ad → ad.block < B) (hl : r.length ≤ 4398046511104) :
  Calls Tryz.prog 112 #[.func (.func 156) #[] #[.pointer (some ⟨B,0,none⟩)]] w fun e w' => ∃ a n c cells,e = .returned (.slice a n c) ∧ w'.ownsRow (w.heap.size + 3) 37 1 (.slice a n c) (grp r).length cells ∧ RowsIn16 B w' cells (grp r) ∧ Chg (fun k => k = B) w w':=by
 have H:=Lib.hid (AppendSeq_any B r A0 C0 w hB hr hblk hl)
 clear hB hr hblk hl
 go_enter Tryz.func112,Tryz.ntmps112
 go_wp2_with fail
 refine H.out.mono ?_; rintro e w1 ⟨v,cells,rfl,hown,hrows,hc⟩
 obtain ⟨a,c,rfl⟩:=owns_slice hown
 have HO:=Lib.hid hown
 clear hown
 go_wp2_with fail
 go_ret
 exact ⟨_,_,_,cells,rfl,HO,hrows,hc⟩
theorem bt' {w1 w2 w3 : World} (h : Below w1.heap.size w1 w2) (hc : Chg (fun k => k = w1.heap.size) w2 w3) (hs : w2.heap.size = w1.heap.size + 1) : Below w1.heap.size w1 w3 :=
 h.trans (hc.below (fun k hk => by omega) (by omega))
theorem Groups_any (v : Value) (r : List PR) (w : World) (hr : RP w v r) (hl : r.length * 32 ≤ 140737488355328) :
  Calls Tryz.prog 69 #[v] w fun e w' => ∃ v' base cells,e = .returned v' ∧ w'.ownsRow base 37 1 v' (grp (srt r)).length cells ∧ RowsIn16 base w' cells (grp (srt r)) ∧ w.heap.size ≤ base ∧ Below w.heap.size w w':=by
 obtain ⟨a,cap,rfl,_,_⟩:=hr.open
 have hsl:=srt_length r
 obtain ⟨L,hL⟩ : ∃ L,L = srt r:=⟨_,rfl⟩
 have hLl : L.length ≤ 4398046511104:=by rw [hL]; omega
 clear hsl
 have hS:=Sort_any _ _ r w (Nat.le_refl _) hr hl
 rw [← hL] at hS ⊢
 have HS:=Lib.hid hS
 have HL:=Lib.hid hL
 clear hS hL
 go_enter Tryz.func69,Tryz.ntmps69
 go_wp2_with fail
 refine HS.out.mono ?_; rintro e w1 ⟨v1,rfl,hown,hB1⟩
 obtain ⟨a1,c1,rfl⟩:=owns_slice hown
 have hrow:=hown.reads
 have hlt : ∀ ad,a1 = some ad → ad.block < w1.heap.size:=by
  intro ad had
  rcases hown.2 with ⟨hv,_⟩ | ⟨g,cap',cur,hv,_,hh,_⟩
  ·injection hv with e1 _ _; rw [e1] at had; cases had
  ·injection hv with e1 _ _
   rw [e1] at had
   cases had
   exact (Array.getElem?_eq_some_iff.1 hh).1
 have HR:=Lib.hid hrow
 have HLT:=Lib.hid hlt
 clear hown hrow hlt
 go_wp2_with fail
 refine (groups_mk a1 L.length c1 w1).mono ?_; rintro e w2 ⟨rfl,hw2⟩
 have hb2 : w2.heap[w1.heap.size]? = some (.cells #[.slice a1 L.length c1] 37 (0,0)):=by rw [hw2]; exact World.alloc_heap_new w1 _
 have hB2 : Below w1.heap.size w1 w2:=by rw [hw2]; exact b_alloc w1 _
 have hs2 : w2.heap.size = w1.heap.size + 1:=by rw [hw2]; simp
 have HC:=Lib.hid (Collect_any w1.heap.size L a1 c1 w2 hb2 (HR.out.below hB2) HLT.out hLl)
 have HS2:=Lib.hid hs2
 clear hw2 hb2 hs2
 go_wp2_with fail
 refine HC.out.mono ?_; rintro e w3 ⟨a3,n3,c3,cells,rfl,hown3,hrows,hc3⟩
 have HO:=Lib.hid hown3
 clear hown3
 go_wp2_with fail
 go_ret
 refine ⟨_,w1.heap.size,cells,rfl,owns_mono HO.out (by have:=HS2.out; omega),hrows,hB1.size,bt hB1 (bt' hB2 hc3 HS2.out)⟩
def rowB (U : World) (Q : Nat) : Option Nat:=(U.cell? ⟨Q,0,none⟩).bind Value.ownBlock
def YrF (Q D : Nat) (U U' : World) : Prop:=U.heap.size ≤ U'.heap.size ∧ (∀ k,k < U.heap.size → k ≠ Q → k ≠ D → k ≠ D + 1 → rowB U Q ≠ some k → U'.heap[k]? = U.heap[k]?) ∧ ∀ k,rowB U' Q = some k → rowB U Q = some k ∨ U.heap.size ≤ k
theorem rowB_keep {Q : Nat} {U U' : World} (h : U'.heap[Q]? = U.heap[Q]?) : rowB U' Q = rowB U Q:=by unfold rowB; rw [World.cell?_of_block (w:=U) (a:=⟨Q,0,none⟩) h]
theorem YrF.comp {Q D : Nat} (hQ : Q < D) (a b c d : World) (hs : Q < a.heap.size) (h1 : Chg (fun k => k = D ∨ k = D + 1) a b) (h : YrF Q D b c) (h2 : Chg (fun k => k = D ∨ k = D + 1) c d) : YrF Q D a d:=by
 have e1 : rowB b Q = rowB a Q:=rowB_keep (h1.block Q hs (by omega))
 have s1:=h1.size
 have s2:=h.1
 have s3:=h2.size
 have e2 : rowB d Q = rowB c Q:=rowB_keep (h2.block Q (by omega) (by omega))
 refine ⟨by omega,fun k hk k1 k2 k3 k4 => ?_,fun k hk => ?_⟩
 ·exact ((h2.block k (by omega) (by omega)).trans (h.2.1 k (by omega) k1 k2 k3 (by rw [e1]; exact k4))).trans (h1.block k hk (by omega))
 ·rw [e2] at hk
  rcases h.2.2 k hk with q | q
  ·exact .inl (by rw [← e1]; exact q)
  ·exact .inr (by omega)
def ElF (D : Nat) (x : List PR) (vs : Array Value) (U : World) : Prop:=∃ A C,vs = #[.string (bs (hk1 x)),.slice A x.length C] ∧ recS.Own U (D + 2) (.slice A x.length C) (x.map (·.2))
def IvF (Q D : Nat) (W0 U : World) : Prop:=W0.heap.size ≤ U.heap.size ∧ (∀ k,k < W0.heap.size → k ≠ Q → k ≠ D → k ≠ D + 1 → U.heap[k]? = W0.heap[k]?) ∧ ∀ k,rowB U Q = some k → W0.heap.size ≤ k
theorem IvF.below {Q D : Nat} {W0 U U' : World} (hQ : Q < W0.heap.size) (h : IvF Q D W0 U) (hB : Below U.heap.size U U') : IvF Q D W0 U':=by
 have s0:=h.1
 have s1:=hB.size
 refine ⟨by omega,fun k hk k1 k2 k3 => (hB.block k (by omega)).trans (h.2.1 k hk k1 k2 k3),fun k hk => h.2.2 k ?_⟩
 rw [← rowB_keep (hB.block Q (by omega))]
 exact hk
theorem IvF.yr {Q D : Nat} {W0 U U' : World} (h : IvF Q D W0 U) (hY : YrF Q D U U') : IvF Q D W0 U':=by
 have s0:=h.1
 have s1:=hY.1
 refine ⟨by omega,fun k hk k1 k2 k3 => (hY.2.1 k (by omega) k1 k2 k3 (fun q => by have:=h.2.2 k q; omega)).trans (h.2.1 k hk k1 k2 k3),fun k hk => ?_⟩
 rcases hY.2.2 k hk with q | q
 ·exact h.2.2 k q
 ·omega
theorem IvF.cell {Q D : Nat} {W0 U : World} (h : IvF Q D W0 U) (hQ : ∀ o u,W0.cell? ⟨Q,o,none⟩ = some u → u = .slice none 0 0) (hD : ∀ o,W0.cell? ⟨D,o,none⟩ = none) (hD1 : ∀ o,W0.cell? ⟨D + 1,o,none⟩ = none)
  {b o : Nat} {u : Value} (hu : W0.cell? ⟨b,o,none⟩ = some u) (hne : u ≠ .slice none 0 0) : U.cell? ⟨b,o,none⟩ = some u:=by
 rw [World.cell?_of_block (w:=W0) (a:=⟨b,o,none⟩) (h.2.1 b (lt_of_cell hu) (fun q => hne (hQ o u (by rw [← q]; exact hu))) (fun q => by subst q; rw [hD] at hu; cases hu) (fun q => by subst q; rw [hD1] at hu; cases hu))]
 exact hu
theorem cell_keepF {b : Nat} {w w' : World} (h : w'.heap[b]? = w.heap[b]?) (o : Nat) : w'.cell? ⟨b,o,none⟩ = w.cell? ⟨b,o,none⟩:=World.cell?_of_block (w:=w) (a:=⟨b,o,none⟩) h
theorem grpF_at {W0 U : World} {Q D : Nat} {a : Option Addr} {cap : Nat} {gs : List (List PR)} (h : IvF Q D W0 U) (hQ : ∀ o u,W0.cell? ⟨Q,o,none⟩ = some u → u = .slice none 0 0) (hD : ∀ o,W0.cell? ⟨D,o,none⟩ = none) (hD1 : ∀ o,W0.cell? ⟨D + 1,o,none⟩ = none)
  (hr : RR W0 (.slice a gs.length cap) gs) (hne : ∀ g ∈ gs,0 < g.length) (i : Nat) (hi : i < gs.length) :
  ∃ b1 o1 a2 c2,a = some ⟨b1,o1,none⟩ ∧ U.cell? ⟨b1,o1 + i,none⟩ = some (.slice a2 gs[i].length c2) ∧ ∀ k (hk : k < gs[i].length),∃ b3 o3,a2 = some ⟨b3,o3,none⟩ ∧ U.cell? ⟨b3,o3 + k * 2,none⟩ = some (.string (bs gs[i][k].1)) ∧ U.cell? ⟨b3,o3 + k * 2 + 1,none⟩ = some (.string (bs gs[i][k].2)):=by
 obtain ⟨a',cap',hv,-,-,hc⟩:=hr
 injection hv with q1 _ _
 subst q1
 obtain ⟨b1,o1,u,h1,h2,h3⟩:=hc i hi
 obtain ⟨a2,c2,rfl,-,hcc⟩:=h3.open
 have hpos:=hne gs[i] (List.getElem_mem hi)
 refine ⟨b1,o1,a2,c2,h1,h.cell hQ hD hD1 h2 (fun q => by injection q with _ q2 _; omega),fun k hk => ?_⟩
 obtain ⟨b3,o3,r1,r2,r3⟩:=hcc k hk
 exact ⟨b3,o3,r1,h.cell hQ hD hD1 r2 (fun q => by cases q),h.cell hQ hD hD1 r3 (fun q => by cases q)⟩
theorem hk1_at (x : List PR) (h : 0 < x.length) : x[0].1 = hk1 x:=by
 cases x with
 | nil => simp at h
 | cons p l => rfl
end Go.Proofs.YtehllcbnheicoaaGreatDoor
