/- Lemmas for MapperTells: walks, plain laws. -/
import Derived.Test.YtckhfapcmjlmbaaGreatDoorMapperTellsK3
set_option linter.unusedSimpArgs false
set_option linter.unusedVariables false
set_option maxRecDepth 100000
set_option maxHeartbeats 16000000
namespace Go.Proofs.YtckhfapcmjlmbaaGreatDoor
open Go.RowKit Oct
section
theorem yM (v:Value)(r:LL_)(w:World)(hr:aJ w v r.length (bO r))(hs:(texts r).length≤1000000000)(hl:r.length≤1000000000):Calls Tryz.prog 48 #[v] w fun e w'=>e=.returned (txV (row r))∧Bw_ w w':=by
 obtain⟨a,cap,rfl,_,hc⟩:=hr
 by_cases h:r.length≤65535
 ·go_enter Tryz.func48,Tryz.ntmps48
  go_wp2_with (go_at_call 89;refine(kB _ _ _ (by omega) (by omega) (by omega) (by omega)).mono ?_;rintro e w1 ⟨rfl,hB1⟩)
  go_loopw [4,5] (fun s i wr=>∃ k:Nat,∃ l:LU_,k≤r.length∧i=.int .i64 k∧s=.string (bs l)∧l.length≤1000000002∧Hid (l=num r.length 2++texts (r.take k)∧dP (r.take k)=true)∧Below w.heap.size w wr) (fun _ i _=>r.length-(intOf i).toNat)
  case atStart=>exact⟨0,_,by omega,rfl,rfl,by simp,⟨by simp[texts],rfl⟩,hB1⟩
  case round =>
   obtain⟨k,l,hk,rfl,rfl,hl2,hH,hB⟩:=hrel
   by_cases h0:k<r.length
   ·obtain⟨b,off,rfl,hcell⟩:=hc k _ (oJ r k h0)
    have hcell2:=C8 hB hcell;have hm:=j8 r k h0;clear hc
    by_cases h1:r[k].length≤65535
    ·have ht:=zH (fx r[k] h1)
     go_wp2_with (go_at_call 90;refine(dZ _ _ (by omega)).mono ?_;rw[ht.o,cd];rintro e w2 ⟨rfl,hB2⟩);go_roundw
     case rel =>
      obtain⟨rfl,hf⟩:=hH.o;refine⟨k+1,_,by omega,by go_num,rfl,?_,⟨?_,pu r k h0 hf h1⟩,hB.trans (hB2.mono hB.size)⟩
      ·have:=gz r (k+1)
       rw[g5 r k h0]at this;simp at this⊢;omega
      ·rw[g5 r k h0];simp
     case measure=>simp[intOf];omega
    ·have ht:=zH (gl r[k] h1)
     go_wp2_with (go_at_call 90;refine(dZ _ _ (by omega)).mono ?_;rw[ht.o,cd];rintro e w2 ⟨rfl,hB2⟩);go_ret2;exact⟨by rw[yt r h (sq r k h0 h1)];rfl,hB.trans (hB2.mono hB.size)⟩
   ·obtain rfl:k=r.length:=by omega
    go_wp2;go_ret2;obtain⟨rfl,hf⟩:=hH.o;rw[List.take_length]at hf;exact⟨by rw[yq r h hf,List.take_length];rfl,hB⟩
 ·rw[qX r h,cd]
  go_enter Tryz.func48,Tryz.ntmps48;go_wp2;go_ret2;exact⟨rfl,DF _ _⟩
theorem vq (v:Value)(r:LL_)(w:World)(hr:aJ w v r.length (bO r))(hs:(texts r).length≤1000000000)(hl:r.length≤1000000000):Calls Tryz.prog 45 #[v] w fun e w'=>e=.returned (txV (row r))∧Bw_ w w':=by
 obtain⟨a,cap,rfl,_,hc⟩:=hr
 by_cases h:r.length≤65535
 ·have hb:=Bld.fresh w
  go_enter Tryz.func45,Tryz.ntmps45;go_wp2_with (first|(go_at_call 85;refine(jq _ _ _ (by omega) (by omega) (by omega) (by omega)).mono ?_;rintro e w1 ⟨rfl,hB1⟩;have hb1:=Bld.below hb hB1)|(go_at_call 81;refine(cy _ _ _ _ _ hb1 (by simp)).mono ?_;rintro e w2 ⟨rfl,hb2,hB2⟩));have hB0:Below w.heap.size w w2:=((DF w.heap.size w).alloc (DC _) _).trans ((hB1.mono (by simp)).trans hB2);rw[D5]at hb2;clear hb hb1 hB1 hB2
  go_loopw [19] (fun i wr=>∃ k:Nat,k≤r.length∧i=.int .i64 k∧Bld w.heap.size w.heap.size (num r.length 2++texts (r.take k)) wr∧Hid (dP (r.take k)=true)∧Below w.heap.size w wr) (fun i _=>r.length-(intOf i).toNat)
  case atStart=>exact⟨0,by omega,rfl,by simpa[texts] using hb2,rfl,hB0⟩
  case round =>
   obtain⟨k,hk,rfl,hb,hH,hB⟩:=hrel
   by_cases h0:k<r.length
   ·obtain⟨b,off,rfl,hcell⟩:=hc k _ (oJ r k h0)
    have hcell2:=C8 hB hcell;have hm:=j8 r k h0;have ht2:=gz r k;clear hc
    by_cases h1:r[k].length≤65535
    ·have ht:=zH (fx r[k] h1)
     go_wp2_with (first|(go_at_call 82;refine(gU _ _ (by omega)).mono ?_;rw[ht.o,cd];rintro e w3 ⟨rfl,hB3⟩;have hb3:=Bld.below hb hB3)|(go_at_call 81;refine(cy _ _ _ _ _ hb3 (by simp;omega)).mono ?_;rintro e w4 ⟨rfl,hb4,hB4⟩));go_roundw
     case rel =>
      refine⟨k+1,by omega,by go_num,?_,pu r k h0 hH.o h1,hB.trans ((hB3.mono hB.size).trans hB4)⟩;rw[g5 r k h0];simpa using hb4
     case measure=>simp[intOf];omega
    ·have ht:=zH (gl r[k] h1)
     go_wp2_with (go_at_call 82;refine(gU _ _ (by omega)).mono ?_;rw[ht.o,cd];rintro e w3 ⟨rfl,hB3⟩);go_ret2;exact⟨by rw[yt r h (sq r k h0 h1)];rfl,hB.trans (hB3.mono hB.size)⟩
   ·obtain rfl:k=r.length:=by omega
    go_wp2_with (go_at_call 84;refine(gx _ _ _ _ hb).mono ?_;rintro e w3 ⟨rfl,hB3⟩);go_ret2;have hf:=hH.o;rw[List.take_length]at hf;exact⟨by rw[yq r h hf];rfl,hB.trans hB3⟩
 ·rw[qX r h,cd]
  go_enter Tryz.func45,Tryz.ntmps45;go_wp2;go_ret2;exact⟨rfl,DF _ _⟩

end
section
section
variable {F:Fence}{n:Nat}{P:Program}{α:Type}
def pF (F:Fence)(n:Nat)(P:Program)(gf:Nat)(lb:Array Value)(Xr Yr:World→World→Prop)(Fin:World→Prop)(El:α→Array Value→World→Prop)(out:List α)(W:World):Prop :=
 ∀ (l:Nat) (J Jx:List α→World→Prop),
  (∀ pre U U',J pre U→Xr U U'→J pre U')→(∀ pre U U',Jx pre U→Xr U U'→Jx pre U') →
  (∀ pre x vs U,J pre U→El x vs U→pre++[x] <+: out→YieldAt F (n-1) P l vs U fun e U' =>
   (e=.returned (.bool true)∧J (pre++[x]) U'∧Yr U U')∨(e=.returned (.bool false)∧Jx (pre++[x]) U')) →
  J [] W→CallsIn F n P gf (#[.func (.yield l) #[] #[]]++lb) W fun e W'=>(∃ v,e=.returned v)∧((J out W'∧Fin W')∨∃ pre,pre <+: out∧Jx pre W')
def dK (D:Nat)(U U':World):Prop:=∀ k,k=D∨k=D+1→k<U.heap.size→U'.heap[k]?=U.heap[k]?
theorem dK.at {D:Nat}{U U':World}(h:dK D U U'){k:Nat}{o:Obj}(hk:k=D∨k=D+1)(ho:U.heap[k]?=some o):U'.heap[k]?=some o :=
 (h k hk (Array.getElem?_eq_some_iff.1 ho).1).trans ho
theorem Df {D:Nat}{X:Nat→Prop}{U U':World}(h:Chg X U U')(hX:∀ k,k=D∨k=D+1→¬X k):dK D U U':=fun k hk hlt=>h.block k hlt (hX k hk)
def ji (D:Nat)(Yr:World→World→Prop)(I:List α→World→Prop)(Ix:Code→List α→World→Prop)(pre:List α)(U:World):Exit→Act→World→Prop
 | .normal,_,U'=>dK D U U'∧Yr U U'∧I pre U'
 | .ret,_,U'=>dK D U U'∧Ix .ret pre U'
 | .exit id,_,U'=>dK D U U'∧Ix (.exit id) pre U'
 | .goto t,_,U'=>dK D U U'∧Ix (.goto t) pre U'
 | .panic _,_,_=>False
 | .outgrown,_,_=>False
theorem Ge {T:Prop} (h:T:=by
 rintro pre x vs U ⟨hi,hl,hk⟩ hel hpre;have hy:=run_yield (P:=P) (args:=vs) hl (by rw[hrec];exact hps x vs U hel);rw[hrec]at hy;refine⟨fn,_,assign,body,hy,roundIn_of_wpIn hfn (wpIn_mono (hround _ pre x vs U hi hel hpre) ?_)⟩;clear hy;intro ea a' U1 hea
 cases ea with
 | normal=>?_
 | _=>exact hea
 obtain⟨hbel,hbody⟩:=hea;have c1:∀ {Z:Nat→Prop},Chg Z U U1:=fun {Z}=>Da hbel;replace hl:=c1.at (X:=fun _=>False) hl (fun h=>h);replace hk:=c1.at (X:=fun _=>False) hk (fun h=>h);replace hi:=hI _ _ _ hi c1;replace hel:=hEl _ _ _ _ hel c1;have hlt:=(Array.getElem?_eq_some_iff.1 hl).1;refine⟨_,run_beginRound hl (by rw[hrec]),?_⟩;obtain⟨U2,hU2⟩:∃ U2,U1.putObj (w.heap.size+1) (.loop { rec .ready none with state:=.busy })=U2:=⟨_,rfl⟩
 have hl2:U2.heap[w.heap.size+1]?=some (.loop { rec .ready none with state:=.busy }):=by rw[←hU2];exact World.putObj_heap_same hlt
 have hk2:U2.heap[w.heap.size]?=some (.deferred (some [])):=by rw[←hU2];exact(World.putObj_heap_other (by omega)).trans hk
 have c2:∀ {Z:Nat→Prop},Z (w.heap.size+1)→Chg Z U1 U2:=fun {Z} hz=>by rw[←hU2];exact Chg.putObj _ _ _ hz
 rw[hU2];refine wpIn_mono (hbody U2 (by have:=(Array.getElem?_eq_some_iff.1 hl2).1;omega) (hI _ _ _ hi (c2 (.inr rfl))) (hEl _ _ _ _ hel (c2 (.inr rfl))) (c2 (.inr rfl))) ?_
 have fin:∀ (jump:Option Code) (U3:World),U3.heap[w.heap.size+1]?=some (.loop { rec .ready none with state:=.busy })→U3.heap[w.heap.size]?=some (.deferred (some [])) →
   (Instr.endRound (w.heap.size+1) jump).run P U3=.ok (.bool jump.isNone) (U3.putObj (w.heap.size+1) (.loop (rec (if jump.isNone then .ready else .done) jump))) ∧
   (U3.putObj (w.heap.size+1) (.loop (rec (if jump.isNone then .ready else .done) jump))).heap[w.heap.size+1]?=some (.loop (rec (if jump.isNone then .ready else .done) jump)) ∧
   (U3.putObj (w.heap.size+1) (.loop (rec (if jump.isNone then .ready else .done) jump))).heap[w.heap.size]?=some (.deferred (some [])):=fun jump U3 hl3 hk3=>by
  have:=run_endRound (P:=P) jump hl3;rw[hrec]at this⊢;exact⟨this,World.putObj_heap_same (Array.getElem?_eq_some_iff.1 hl3).1,(World.putObj_heap_other (by omega)).trans hk3⟩
 have stop:∀ (c:Code) (U3:World),dK w.heap.size U2 U3→Ix c (pre++[x]) U3→∃ v U4,(Instr.endRound (w.heap.size+1) (some c)).run P U3=.ok v U4 ∧
   ((Ending.returned v=.returned (.bool true)∧(I (pre++[x]) U4∧U4.heap[w.heap.size+1]?=some (.loop (rec .ready none))∧U4.heap[w.heap.size]?=some (.deferred (some [])))∧Yr U U4) ∨
    (Ending.returned v=.returned (.bool false)∧∃ c,Ix c (pre++[x]) U4∧U4.heap[w.heap.size+1]?=some (.loop (rec .done (some c)))∧U4.heap[w.heap.size]?=some (.deferred (some [])))):=fun c U3 hc hx=>by
  obtain⟨hr,hl4,hk4⟩:=fin (some c) U3 (hc.at (.inr rfl) hl2) (hc.at (.inl rfl) hk2);exact⟨_,_,hr,.inr ⟨rfl,c,hIx _ _ _ _ hx (Chg.putObj _ _ _ (.inr rfl)),hl4,hk4⟩⟩
 rintro e a3 U3 hp
 cases e with
 | normal =>
  obtain⟨hc,hy3,hi3⟩:=hp;obtain⟨hr,hl4,hk4⟩:=fin none U3 (hc.at (.inr rfl) hl2) (hc.at (.inl rfl) hk2)
  exact⟨_,_,hr,.inl ⟨rfl,⟨hI _ _ _ hi3 (Chg.putObj _ _ _ (.inr rfl)),hl4,hk4⟩,
   hY _ _ _ _ (c1.trans (c2 (.inr rfl))) hy3 (Chg.putObj _ _ _ (.inr rfl))⟩⟩
 | ret=>exact stop .ret U3 hp.1 hp.2
 | exit id=>exact stop (.exit id) U3 hp.1 hp.2
 | goto t=>exact stop (.goto t) U3 hp.1 hp.2
 | panic ch=>exact hp.elim
 | outgrown=>exact hp.elim
):T:=h
theorem Gh {T:Prop} (h:T:=by
 rintro e W2 ⟨⟨v,rfl⟩,(⟨⟨hi,hl,hk⟩,hf⟩|⟨pre,hpre,c,hi,hl,hk⟩)⟩
 ·have hlt:=(Array.getElem?_eq_some_iff.1 hl).1
  exact⟨none,_,by have:=run_endLoop (P:=P) hl (by rw[hrec];simp);rw[hrec]at this;exact this,hdone _ (by simp;omega) (hI _ _ _ hi (Chg.putObj _ _ _ (.inr rfl))) (hFin _ _ hf (Chg.putObj _ _ _ (.inr rfl))) ((World.putObj_heap_other (by omega)).trans hk)⟩
 ·have hlt:=(Array.getElem?_eq_some_iff.1 hl).1
  exact⟨some c,_,by have:=run_endLoop (P:=P) hl (by rw[hrec];simp);rw[hrec]at this;exact this,hstop c pre _ (by simp;omega) hpre (hIx _ _ _ _ hi (Chg.putObj _ _ _ (.inr rfl))) ((World.putObj_heap_other (by omega)).trans hk)⟩
):T:=h
theorem qA {g:Operand}{ps:Array Tmp}{assign body:Code}{Q:Exit→Act→World→Prop}{a:Act}{w:World}(hro:F.round=none)(h1:1≤n){gf:Nat}{lb:Array Value}(hg:a.eval g=.func (.func gf) #[] lb)(hFg:F.fn gf)(eg:∀ args w,(callFunc gf args).run P w=.ok (.enter gf args) w){Xr Yr:World→World→Prop}{Fin:World→Prop}{El:α→Array Value→World→Prop}{out:List α}(hX:∀ U U',Xr U U'→dK w.heap.size U U')(hY:∀ a b c d,Chg (fun k=>k=w.heap.size∨k=w.heap.size+1) a b→Yr b c→Chg (fun k=>k=w.heap.size∨k=w.heap.size+1) c d→Yr a d)(hFin:∀ U U',Fin U→Chg (fun k=>k=w.heap.size∨k=w.heap.size+1) U U'→Fin U')(hseq:∀ W,Below w.heap.size w W→pF F (n-1) P gf lb Xr Yr Fin El out W)(hps:∀ x vs U,El x vs U→vs.size=ps.size)(hEl:∀ x vs U U',El x vs U→Chg (fun k=>k=w.heap.size∨k=w.heap.size+1) U U'→El x vs U')(I:List α→World→Prop)(Ix:Code→List α→World→Prop)(hIX:∀ pre U U',I pre U→Xr U U'→I pre U')(hI:∀ pre U U',I pre U→Chg (fun k=>k=w.heap.size∨k=w.heap.size+1) U U'→I pre U')(hIxX:∀ c pre U U',Ix c pre U→Xr U U'→Ix c pre U')(hIx:∀ c pre U U',Ix c pre U→Chg (fun k=>k=w.heap.size∨k=w.heap.size+1) U U'→Ix c pre U')(h0:I [] w)(hround:∀ (l:Nat) (pre:List α) (x:α) (vs:Array Value) (U:World),I pre U→El x vs U→pre++[x] <+: out → assign.wpIn (F.inRound l) (n-1-1) P (Exit.then (fun a' U1=>Below U.heap.size U U1∧∀ U2,w.heap.size+2≤U2.heap.size→I pre U2→El x vs U2→Chg (fun k=>k=w.heap.size∨k=w.heap.size+1) U1 U2 → body.wpIn (F.inRound l) (n-1-1) P (ji w.heap.size Yr I Ix (pre++[x]) U2) a' U2) (fun _ _ _=>False)) { tmps:=(ps.zip vs).foldl (fun t (p,v)=>t.setIfInBounds p v) a.tmps,defers:=[] } U)(hdone:∀ W,w.heap.size+2≤W.heap.size→I out W→Fin W→W.heap[w.heap.size]?=some (.deferred (some []))→Q .normal { a with defers:={ target:=.collected w.heap.size,args:=#[] }::a.defers } W)(hstop:∀ c pre W,w.heap.size+2≤W.heap.size→pre <+: out→Ix c pre W→W.heap[w.heap.size]?=some (.deferred (some []))→c.wpIn F n P Q { a with defers:={ target:=.collected w.heap.size,args:=#[] }::a.defers } W):(Code.rangeFunc g ps assign body).wpIn F n P Q a w:=by
 refine wpIn_rangeFunc fun fn hfn=>?_;rw[hro];obtain⟨rec,hrec⟩:∃ rec:LoopState→Option Code→Loop,rec=fun st pe=>{ state:=st,pending:=pe,fn,tmps:=a.tmps,params:=ps,assign,body,defers:=w.heap.size }:=⟨_,rfl⟩
 obtain⟨W1,hW1⟩:∃ W1,(w.alloc (.deferred (some []))).alloc (.loop (rec .ready none))=W1:=⟨_,rfl⟩
 obtain⟨hK1,hL1,hb1⟩:=jg w (.deferred (some [])) (.loop (rec .ready none));rw[hW1]at hK1 hL1 hb1;have hsz1:w.heap.size+2≤W1.heap.size:=by have:=(Array.getElem?_eq_some_iff.1 hL1).1;omega
 refine⟨w.heap.size+1,[{ target:=.collected w.heap.size,args:=#[] }],W1,{ target:=.fn (.func gf) lb,args:=#[.func (.yield (w.heap.size+1)) #[] #[]] },W1,gf,
  #[.func (.yield (w.heap.size+1)) #[] #[]]++lb,W1,?_,?_,?_,?_,fun _=>h1,?_⟩
 ·exact GW
 ·simp only[resolve,hg]
  simp[go_sem]
 ·exact GN
 ·simp[invoke,go_sem,eg]
 have keep:∀ {U U':World} {o o':Obj},Xr U U'→U.heap[w.heap.size+1]?=some o→U.heap[w.heap.size]?=some o'→U'.heap[w.heap.size+1]?=some o∧U'.heap[w.heap.size]?=some o' :=
  fun hc h h'=>⟨(hX _ _ hc).at (.inr rfl) h,(hX _ _ hc).at (.inl rfl) h'⟩
 refine(hseq W1 hb1 (w.heap.size+1)
  (fun pre U=>I pre U∧U.heap[w.heap.size+1]?=some (.loop (rec .ready none))∧U.heap[w.heap.size]?=some (.deferred (some [])))
  (fun pre U=>∃ c,Ix c pre U∧U.heap[w.heap.size+1]?=some (.loop (rec .done (some c)))∧U.heap[w.heap.size]?=some (.deferred (some [])))
  (fun pre U U' hs hc=>⟨hIX _ _ _ hs.1 hc,keep hc hs.2.1 hs.2.2⟩)
  (fun pre U U' ⟨c,hs,hl,hk⟩ hc=>⟨c,hIxX _ _ _ _ hs hc,keep hc hl hk⟩)
  ?_ ⟨hI _ _ _ h0 (Da hb1),hL1,hK1⟩).mono ?_
 ·exact Ge
 ·exact Gh
theorem oE {g:Operand}{ps:Array Tmp}{assign body:Code}{Q:Exit→Act→World→Prop}{a:Act}{w:World}{D:Nat}(hD:w.heap.size=D){gf:Nat}{lb:Array Value}(hg:a.eval g=.func (.func gf) #[] lb)(eg:∀ args w,(callFunc gf args).run P w=.ok (.enter gf args) w){Xr Yr:World→World→Prop}{Fin:World→Prop}{El:α→Array Value→World→Prop}{out:List α}(hX:∀ U U',Xr U U'→dK D U U')(hY:∀ a b c d,Chg (fun k=>k=D∨k=D+1) a b→Yr b c→Chg (fun k=>k=D∨k=D+1) c d→Yr a d)(hFin:∀ U U',Fin U→Chg (fun k=>k=D∨k=D+1) U U'→Fin U')(hseq:∀ W,Below D w W→pF Fence.wide 2 P gf lb Xr Yr Fin El out W)(hps:∀ x vs U,El x vs U→vs.size=ps.size)(hEl:∀ x vs U U',El x vs U→Chg (fun k=>k=D∨k=D+1) U U'→El x vs U')(I:List α→World→Prop)(Ix:Code→List α→World→Prop)(hIX:∀ pre U U',I pre U→Xr U U'→I pre U')(hI:∀ pre U U',I pre U→Chg (fun k=>k=D∨k=D+1) U U'→I pre U')(hIxX:∀ c pre U U',Ix c pre U→Xr U U'→Ix c pre U')(hIx:∀ c pre U U',Ix c pre U→Chg (fun k=>k=D∨k=D+1) U U'→Ix c pre U')(h0:I [] w)(hround:∀ (l:Nat) (pre:List α) (x:α) (vs:Array Value) (U:World),I pre U→El x vs U→pre++[x] <+: out → assign.wpIn (Fence.wide.inRound l) 1 P (Exit.then (fun a' U1=>Below U.heap.size U U1∧∀ U2,D+2≤U2.heap.size→I pre U2→El x vs U2→Chg (fun k=>k=D∨k=D+1) U1 U2 → body.wpIn (Fence.wide.inRound l) 1 P (ji D Yr I Ix (pre++[x]) U2) a' U2) (fun _ _ _=>False)) { tmps:=(ps.zip vs).foldl (fun t (p,v)=>t.setIfInBounds p v) a.tmps,defers:=[] } U)(hdone:∀ W,D+2≤W.heap.size→I out W→Fin W→W.heap[D]?=some (.deferred (some []))→Q .normal { a with defers:={ target:=.collected D,args:=#[] }::a.defers } W)(hstop:∀ c pre W,D+2≤W.heap.size→pre <+: out→Ix c pre W→W.heap[D]?=some (.deferred (some []))→c.wp P Q { a with defers:={ target:=.collected D,args:=#[] }::a.defers } W):(Code.rangeFunc g ps assign body).wp P Q a w:=by
 subst hD;exact(wpIn_wide (n:=3)).1 (qA rfl (by decide) hg trivial eg hX hY hFin hseq hps hEl I Ix hIX hI hIxX hIx h0 hround hdone fun c pre W h1 h2 h3 h4=>wpIn_wide.2 (hstop c pre W h1 h2 h3 h4))
end
end
section
section
variable {F:Fence}{n:Nat}{P:Program}{α:Type}
theorem qz {g:Operand}{ps:Array Tmp}{assign body:Code}{Q:Exit→Act→World→Prop}{a:Act}{w:World}(hro:F.round=none)(h1:1≤n){gf:Nat}{lb:Array Value}(hg:a.eval g=.func (.func gf) #[] lb)(hFg:F.fn gf)(eg:∀ args w,(callFunc gf args).run P w=.ok (.enter gf args) w){Xr Yr:World→World→Prop}{Fin:World→Prop}{El:α→Array Value→World→Prop}{out:List α}(hX:∀ U U',Xr U U'→dK w.heap.size U U')(hY:∀ a b c d,Chg (fun k=>k=w.heap.size∨k=w.heap.size+1) a b→Yr b c→Chg (fun k=>k=w.heap.size∨k=w.heap.size+1) c d→Yr a d)(hFin:∀ U U',Fin U→Chg (fun k=>k=w.heap.size∨k=w.heap.size+1) U U'→Fin U')(hseq:∀ W,w.heap.size+2≤W.heap.size→(∀ o,W.cell? ⟨w.heap.size,o,none⟩=none)→(∀ o,W.cell? ⟨w.heap.size+1,o,none⟩=none)→Below w.heap.size w W→pF F (n-1) P gf lb Xr Yr Fin El out W)(hps:∀ x vs U,El x vs U→vs.size=ps.size)(hEl:∀ x vs U U',El x vs U→Chg (fun k=>k=w.heap.size∨k=w.heap.size+1) U U'→El x vs U')(I:List α→World→Prop)(Ix:Code→List α→World→Prop)(hIX:∀ pre U U',I pre U→Xr U U'→I pre U')(hI:∀ pre U U',I pre U→Chg (fun k=>k=w.heap.size∨k=w.heap.size+1) U U'→I pre U')(hIxX:∀ c pre U U',Ix c pre U→Xr U U'→Ix c pre U')(hIx:∀ c pre U U',Ix c pre U→Chg (fun k=>k=w.heap.size∨k=w.heap.size+1) U U'→Ix c pre U')(h0:I [] w)(hround:∀ (l:Nat) (pre:List α) (x:α) (vs:Array Value) (U:World),I pre U→El x vs U→pre++[x] <+: out → assign.wpIn (F.inRound l) (n-1-1) P (Exit.then (fun a' U1=>Below U.heap.size U U1∧∀ U2,w.heap.size+2≤U2.heap.size→I pre U2→El x vs U2→Chg (fun k=>k=w.heap.size∨k=w.heap.size+1) U1 U2 → body.wpIn (F.inRound l) (n-1-1) P (ji w.heap.size Yr I Ix (pre++[x]) U2) a' U2) (fun _ _ _=>False)) { tmps:=(ps.zip vs).foldl (fun t (p,v)=>t.setIfInBounds p v) a.tmps,defers:=[] } U)(hdone:∀ W,w.heap.size+2≤W.heap.size→I out W→Fin W→W.heap[w.heap.size]?=some (.deferred (some []))→Q .normal { a with defers:={ target:=.collected w.heap.size,args:=#[] }::a.defers } W)(hstop:∀ c pre W,w.heap.size+2≤W.heap.size→pre <+: out→Ix c pre W→W.heap[w.heap.size]?=some (.deferred (some []))→c.wpIn F n P Q { a with defers:={ target:=.collected w.heap.size,args:=#[] }::a.defers } W):(Code.rangeFunc g ps assign body).wpIn F n P Q a w:=by
 refine wpIn_rangeFunc fun fn hfn=>?_;rw[hro];obtain⟨rec,hrec⟩:∃ rec:LoopState→Option Code→Loop,rec=fun st pe=>{ state:=st,pending:=pe,fn,tmps:=a.tmps,params:=ps,assign,body,defers:=w.heap.size }:=⟨_,rfl⟩
 obtain⟨W1,hW1⟩:∃ W1,(w.alloc (.deferred (some []))).alloc (.loop (rec .ready none))=W1:=⟨_,rfl⟩
 obtain⟨hK1,hL1,hb1⟩:=jg w (.deferred (some [])) (.loop (rec .ready none));rw[hW1]at hK1 hL1 hb1;have hsz1:w.heap.size+2≤W1.heap.size:=by have:=(Array.getElem?_eq_some_iff.1 hL1).1;omega
 refine⟨w.heap.size+1,[{ target:=.collected w.heap.size,args:=#[] }],W1,{ target:=.fn (.func gf) lb,args:=#[.func (.yield (w.heap.size+1)) #[] #[]] },W1,gf,
  #[.func (.yield (w.heap.size+1)) #[] #[]]++lb,W1,?_,?_,?_,?_,fun _=>h1,?_⟩
 ·exact GW
 ·simp only[resolve,hg]
  simp[go_sem]
 ·exact GN
 ·simp[invoke,go_sem,eg]
 have keep:∀ {U U':World} {o o':Obj},Xr U U'→U.heap[w.heap.size+1]?=some o→U.heap[w.heap.size]?=some o'→U'.heap[w.heap.size+1]?=some o∧U'.heap[w.heap.size]?=some o' :=
  fun hc h h'=>⟨(hX _ _ hc).at (.inr rfl) h,(hX _ _ hc).at (.inl rfl) h'⟩
 refine(hseq W1 hsz1 (fun o=>by simp[World.cell?,hK1]) (fun o=>by simp[World.cell?,hL1]) hb1 (w.heap.size+1)
  (fun pre U=>I pre U∧U.heap[w.heap.size+1]?=some (.loop (rec .ready none))∧U.heap[w.heap.size]?=some (.deferred (some [])))
  (fun pre U=>∃ c,Ix c pre U∧U.heap[w.heap.size+1]?=some (.loop (rec .done (some c)))∧U.heap[w.heap.size]?=some (.deferred (some [])))
  (fun pre U U' hs hc=>⟨hIX _ _ _ hs.1 hc,keep hc hs.2.1 hs.2.2⟩)
  (fun pre U U' ⟨c,hs,hl,hk⟩ hc=>⟨c,hIxX _ _ _ _ hs hc,keep hc hl hk⟩)
  ?_ ⟨hI _ _ _ h0 (Da hb1),hL1,hK1⟩).mono ?_
 ·exact Ge
 ·exact Gh
theorem vu {g:Operand}{ps:Array Tmp}{assign body:Code}{Q:Exit→Act→World→Prop}{a:Act}{w:World}{D:Nat}(hD:w.heap.size=D){gf:Nat}{lb:Array Value}(hg:a.eval g=.func (.func gf) #[] lb)(eg:∀ args w,(callFunc gf args).run P w=.ok (.enter gf args) w){Xr Yr:World→World→Prop}{Fin:World→Prop}{El:α→Array Value→World→Prop}{out:List α}(hX:∀ U U',Xr U U'→dK D U U')(hY:∀ a b c d,Chg (fun k=>k=D∨k=D+1) a b→Yr b c→Chg (fun k=>k=D∨k=D+1) c d→Yr a d)(hFin:∀ U U',Fin U→Chg (fun k=>k=D∨k=D+1) U U'→Fin U')(hseq:∀ W,D+2≤W.heap.size→(∀ o,W.cell? ⟨D,o,none⟩=none)→(∀ o,W.cell? ⟨D+1,o,none⟩=none)→Below D w W→pF Fence.wide 2 P gf lb Xr Yr Fin El out W)(hps:∀ x vs U,El x vs U→vs.size=ps.size)(hEl:∀ x vs U U',El x vs U→Chg (fun k=>k=D∨k=D+1) U U'→El x vs U')(I:List α→World→Prop)(Ix:Code→List α→World→Prop)(hIX:∀ pre U U',I pre U→Xr U U'→I pre U')(hI:∀ pre U U',I pre U→Chg (fun k=>k=D∨k=D+1) U U'→I pre U')(hIxX:∀ c pre U U',Ix c pre U→Xr U U'→Ix c pre U')(hIx:∀ c pre U U',Ix c pre U→Chg (fun k=>k=D∨k=D+1) U U'→Ix c pre U')(h0:I [] w)(hround:∀ (l:Nat) (pre:List α) (x:α) (vs:Array Value) (U:World),I pre U→El x vs U→pre++[x] <+: out → assign.wpIn (Fence.wide.inRound l) 1 P (Exit.then (fun a' U1=>Below U.heap.size U U1∧∀ U2,D+2≤U2.heap.size→I pre U2→El x vs U2→Chg (fun k=>k=D∨k=D+1) U1 U2 → body.wpIn (Fence.wide.inRound l) 1 P (ji D Yr I Ix (pre++[x]) U2) a' U2) (fun _ _ _=>False)) { tmps:=(ps.zip vs).foldl (fun t (p,v)=>t.setIfInBounds p v) a.tmps,defers:=[] } U)(hdone:∀ W,D+2≤W.heap.size→I out W→Fin W→W.heap[D]?=some (.deferred (some []))→Q .normal { a with defers:={ target:=.collected D,args:=#[] }::a.defers } W)(hstop:∀ c pre W,D+2≤W.heap.size→pre <+: out→Ix c pre W→W.heap[D]?=some (.deferred (some []))→c.wp P Q { a with defers:={ target:=.collected D,args:=#[] }::a.defers } W):(Code.rangeFunc g ps assign body).wp P Q a w:=by
 subst hD;exact(wpIn_wide (n:=3)).1 (qz rfl (by decide) hg trivial eg hX hY hFin hseq hps hEl I Ix hIX hI hIxX hIx h0 hround hdone fun c pre W h1 h2 h3 h4=>wpIn_wide.2 (hstop c pre W h1 h2 h3 h4))
end
end
section
theorem AG:(Tryz.prog.info? 9).map (fun i=>(i.zero,i.size,i.bytes))=some (some (.string ByteArray.empty),1,16):=by kernel_rfl
def BW (o:Option (LL_))(bZ:Nat)(e:Ending)(w':World):Prop :=
 match o with
 | some r=>∃ v,e=.returned (.tuple #[v,.int .i64 0])∧w'.ownsRow bZ 9 1 v r.length (bO r)
 | none=>e=.returned (.tuple #[.slice none 0 0,.int .i64 7])
theorem yH (r:LU_×Nat×Int):rdV r=.tuple #[.string (bs r.1),.int .i64 r.2.1,.int .i64 r.2.2]:=rfl
theorem ln {w w':World}{bZ b:Nat}{o:Obj}(hB:Below bZ w w')(hb:b<bZ)(h:w.heap[b]?=some o):w'.heap[b]?=some o:=(hB.block b hb).trans h
theorem Ax (B:Nat)(t:LU_)(w:World)(hs:w.heap[B]?=some (.cells #[.string (bs t)] 9 (0,0)))(ht:t.length≤140737488355328)(ho:¬(aQ t).2.2=0)(p:Value):Calls Tryz.prog 147 #[.pointer (some ⟨B,0,none⟩),p] w fun e w'=>e=.returned (.int .i64 (aQ t).2.2)∧Bw_ w w':=by
 have c1:=cell_of_one hs;have ho1:((aQ t).2.2==0)=false:=by simpa using ho
 clear hs;go_enter Tryz.func147,Tryz.ntmps147;go_wp2_with (go_at_call 148;refine(eQ _ _ ht).mono ?_;rw[yH];rintro e w2 ⟨rfl,hB2⟩);go_ret;exact⟨rfl,hB2⟩
theorem s6 (B:Nat)(x y:Value){w w3:World}{x0 y0:Value}{tx ty e:TypeId}{n:Nat}{xs:List Value}(hs:w3.heap[B]?=some (.cells #[x0] tx (0,0)))(hl:w3.heap[B+1]?=some (.cells #[y0] ty (0,0)))(hown:w3.ownsRow (B+2) e 1 y n xs)(hB:Below B w w3):∃ v',((w3.setCell ⟨B+1,0,none⟩ y).setCell ⟨B,0,none⟩ x).heap[B]?=some (.cells #[x] tx (0,0))∧((w3.setCell ⟨B+1,0,none⟩ y).setCell ⟨B,0,none⟩ x).heap[B+1]?=some (.cells #[v'] ty (0,0)) ∧((w3.setCell ⟨B+1,0,none⟩ y).setCell ⟨B,0,none⟩ x).ownsRow (B+2) e 1 v' n xs∧Below B w ((w3.setCell ⟨B+1,0,none⟩ y).setCell ⟨B,0,none⟩ x):=by
 refine⟨y,?_,?_,?_,?_⟩
 ·exact one_setCell (v:=x0) (by rw[Below.heap_setCell _ _ _ _ (by simp)];exact hs)
 ·rw[Below.heap_setCell _ _ _ _ (by simp)];exact one_setCell hl
 ·exact ownsRow_setCell_below (ownsRow_setCell_below hown (by simp) _) (by simp) _
 ·exact(hB.setCell (by simp) _).setCell (by simp) _
theorem qG (B:Nat)(x y:Value){w w3:World}{x0 y0:Value}{tx ty e:TypeId}{n:Nat}{xs:List Value}(hs:w3.heap[B]?=some (.cells #[x0] tx (0,0)))(hl:w3.heap[B+1]?=some (.cells #[y0] ty (0,0)))(hown:w3.ownsRow (B+2) e 1 y n xs)(hB:Below B w w3):∃ v',((w3.setCell ⟨B,0,none⟩ x).setCell ⟨B+1,0,none⟩ y).heap[B]?=some (.cells #[x] tx (0,0))∧((w3.setCell ⟨B,0,none⟩ x).setCell ⟨B+1,0,none⟩ y).heap[B+1]?=some (.cells #[v'] ty (0,0)) ∧((w3.setCell ⟨B,0,none⟩ x).setCell ⟨B+1,0,none⟩ y).ownsRow (B+2) e 1 v' n xs∧Below B w ((w3.setCell ⟨B,0,none⟩ x).setCell ⟨B+1,0,none⟩ y):=by
 refine⟨y,?_,?_,?_,?_⟩
 ·rw[Below.heap_setCell _ _ _ _ (by simp)];exact one_setCell hs
 ·exact one_setCell (v:=y0) (by rw[Below.heap_setCell _ _ _ _ (by simp)];exact hl)
 ·exact ownsRow_setCell_below (ownsRow_setCell_below hown (by simp) _) (by simp) _
 ·exact(hB.setCell (by simp) _).setCell (by simp) _
theorem Aw (B:Nat)(r:LL_)(t:LU_)(v:Value)(w:World)(hs:w.heap[B]?=some (.cells #[.string (bs t)] 9 (0,0)))(hl:w.heap[B+1]?=some (.cells #[v] 22 (0,0)))(hown:w.ownsRow (B+2) 9 1 v r.length (bO r))(hr:r.length≤1000000)(ht:t.length≤140737488355328)(ho:(aQ t).2.2=0):Calls Tryz.prog 147 #[.pointer (some ⟨B,0,none⟩),.pointer (some ⟨B+1,0,none⟩)] w fun e w'=>e=.returned (.int .i64 0)∧∃ v',w'.heap[B]?=some (.cells #[.string (bs (t.drop (aQ t).2.1))] 9 (0,0))∧w'.heap[B+1]?=some (.cells #[v'] 22 (0,0)) ∧w'.ownsRow (B+2) 9 1 v' (r.length+1) (bO (r++[(aQ t).1]))∧Below B w w':=by
 have hle:=(kq t ho).1;have hB:=lt_of_block hl;have c1:=cell_of_one hs;go_enter Tryz.func147,Tryz.ntmps147;go_wp2_with (go_at_call 148;refine(eQ _ _ ht).mono ?_;rw[yH];rintro e w2 ⟨rfl,hB2⟩;have hs2:=ln hB2 (lt_of_block hs) hs;have hl2:=ln hB2 hB hl;have hown2:=bD hown hB2);clear c1 hs hl hown;have c1:=cell_of_one hs2;have c2:=cell_of_one hl2;have f1:=free_of_one hs2;have f2:=free_of_one hl2;have hsz:=hB2.size
 obtain⟨a,n',cap,rfl⟩:∃ a n cap,v=.slice a n cap:=by
  rcases hown2.2 with ⟨hv,h0⟩|⟨g,cap,cur,hv,_⟩<;>exact⟨_,_,_,hv⟩
 have hbase:B+2≤w2.drew.heap.size:=by show B+2≤w2.heap.size;omega
 have hby:(r.length+1)*16≤140737488355328:=by omega
 have hown4:=World.ownsRow.drew hown2;clear hown2;have k1:∀ o,(w2.alloc o).cell? ⟨B,0,none⟩=some (.string (bs t)):=fun o=>C8 (af w2 o) c1;have k2:∀ o,(w2.alloc o).cell? ⟨B+1,0,none⟩=some (.slice a n' cap):=fun o=>C8 (af w2 o) c2;go_region_law (refine kd w2.drew [_] 9 rfl _ _ 22 rfl (B+2) (.string ByteArray.empty) 1 16 Tryz.underlying22 AG rfl (by decide) _ _ _ rfl hown4 _ rfl rfl (by simp[Value.oneCell']) hby (by decide) hbase ?_;intro g cap w3 hown3 hB3;have hs3:=(hB3.block B (by omega)).trans hs2;have hl3:=(hB3.block (B+1) (by omega)).trans hl2;have c3:=cell_of_one hs3;have c4:=cell_of_one hl3;have f3:=free_of_one hs3;have f4:=free_of_one hl3)
 all_goals
  rw[iJ]at hown3;clear c1 c2 f1 f2 k1 k2 hown4 hs2 hl2;go_wp2;go_ret;have hB4:Below B w w3:=(hB2.mono (by omega)).trans (((DF B w2).drew).trans (hB3.mono (by omega)))
  first
   | exact⟨rfl,s6 B (.string (bs (t.drop (aQ t).2.1))) (.slice (some ⟨g,0,none⟩) (r.length+1) cap) hs3 hl3 hown3 hB4⟩
   | exact⟨rfl,qG B (.string (bs (t.drop (aQ t).2.1))) (.slice (some ⟨g,0,none⟩) (r.length+1) cap) hs3 hl3 hown3 hB4⟩
theorem lY (l:LU_)(w:World)(hs:l.length≤140737488355328):Calls Tryz.prog 101 #[.string (bs l)] w fun e w'=>BW (ib l) w.heap.size e w'∧Bw_ w w':=by
 by_cases h:l.length<2
 ·rw[od l h]
  go_enter Tryz.func101,Tryz.ntmps101;go_wp2;exact bodyPost_ret (v:=.tuple #[.slice none 0 0,.int .i64 7]) (by simp[results,Tryz.results101,go_sem]) rfl ⟨rfl,(jg _ _ _).2.2⟩
 ·rw[tC l h]
  have hv:=uK l;have HV:=zH (Ci l (by omega));have z0:0<l.length:=by omega
  have z1:1<l.length:=by omega
  have y1:(1:Int)<(l.length:Int):=by omega
  have c0:=l[0].toNat_lt;have c1:=l[1].toNat_lt;go_enter Tryz.func101,Tryz.ntmps101;go_wp2;go_quiet (fail);go_wp2
  have hst:∃ W1,W1=((((w.alloc (.cells #[.string (bs l)] 9)).alloc (.cells #[.slice none 0 0] 22)).drewN nq).setCell ⟨w.heap.size,0,none⟩ (.string (bs (l.drop 2))))∧W1.heap[w.heap.size]?=some (.cells #[.string (bs (l.drop 2))] 9 (0,0)) ∧
    W1.heap[w.heap.size+1]?=some (.cells #[.slice none 0 0] 22 (0,0))∧Below w.heap.size w W1:=by
   obtain⟨t1,t2,t3⟩:=jg w (.cells #[.string (bs l)] 9) (.cells #[.slice none 0 0] 22);refine⟨_,rfl,one_setCell (v:=.string (bs l)) t1,?_,?_⟩
   ·rw[Below.heap_setCell _ _ _ _ (by simp)];exact t2
   ·exact(bt t3 (C9 _ _)).setCell (by simp) _
  obtain⟨W1,hW1,hs1,hl1,hB1⟩:=hst;rw[←hW1];clear hW1
  go_loopw [21] (fun i wr=>∃ k m:Nat,∃ r:LL_,∃ t:LU_,∃ v:Value,k+m=val (l.take 2)∧i=.int .i64 k∧t.length≤140737488355328∧Hid (wr.heap[w.heap.size]?=some (.cells #[.string (bs t)] 9 (0,0)))∧Hid (wr.heap[w.heap.size+1]?=some (.cells #[v] 22 (0,0)))∧r.length=k∧wr.ownsRow (w.heap.size+2) 9 1 v r.length (bO r)∧Hid (gV (l.drop 2) (val (l.take 2)) m r t)∧Below w.heap.size w wr) (fun i _=>val (l.take 2)-(intOf i).toNat)
  case atStart=>exact⟨0,val (l.take 2),[],_,_,by omega,rfl,by simp;omega,hs1,hl1,rfl,World.ownsRow_nil _ _ _ _,gV.start _ _,hB1⟩
  case round =>
   clear hs1 hl1 hB1;obtain⟨k,m,r,t,v,hkm,rfl,ht,hs1,hl1,hrk,hown,hH,hB⟩:=hrel;have HK:=zH hkm;have HR:=zH hrk;have hk1:r.length≤65536:=by omega
   by_cases h0:k<val (l.take 2)
   ·have h0':(k:Int)<(l[0].toNat:Int)+(l[1].toNat:Int)*256:=by have:=HV.o;omega
    clear hkm hrk
    by_cases ho:(aQ t).2.2=0
    ·have HO:=zH ho
     clear ho;go_wp2_with (go_at_call 147;refine(Aw _ r t v _ hs1.o hl1.o hown (by omega) ht HO.o).mono ?_;rintro e w2 ⟨rfl,v',hs2,hl2,hown2,hB2⟩;have HS2:=zH hs2;have HL2:=zH hl2;clear hs2 hl2);go_roundw
     case rel =>
      obtain⟨m,rfl⟩:∃ m',m=m'+1:=⟨m-1,by have:=HK.o;omega⟩
      exact⟨k+1,m,r++[(aQ t).1],_,v',by have:=HK.o;omega,by go_num,by simp;omega,HS2,HL2,by simp[HR.o],by simpa using hown2,hH.o.step HO.o,hB.trans hB2⟩
     case measure=>simp[intOf];omega
    ·have ho1:((aQ t).2.2==0)=false:=by simpa using ho
     have ho2:((aQ t).2.2 != 0)=true:=by simpa using ho
     have HO:=zH ho;clear ho;have c1:=cell_of_one hl1.o;go_wp2_with (go_at_call 147;refine(Ax _ t _ hs1.o ht HO.o _).mono ?_;rintro e w2 ⟨rfl,hB2⟩;have hl2:=ln hB2 (lt_of_block hl1.o) hl1.o;have c2:=cell_of_one hl2;have f2:=free_of_one hl2;clear hl2);obtain⟨m,rfl⟩:∃ m',m=m'+1:=⟨m-1,by have:=HK.o;omega⟩
     rw[hH.o.no HO.o];refine bodyPost_ret (v:=.tuple #[.slice none 0 0,.int .i64 7]) ?_ rfl ⟨rfl,(bt hB hB2).setCell (by simp) _⟩;simp[results,Tryz.results101,go_sem,c2]
   ·obtain rfl:m=0:=by omega
    have h0':¬(k:Int)<(l[0].toNat:Int)+(l[1].toNat:Int)*256:=by have:=HV.o;omega
    have hF:=hH.o.fin
    by_cases hz:t=[]
    ·subst hz
     rw[if_pos rfl]at hF;have HF:=zH hF;clear hF;clear hkm hrk;have c1:=cell_of_one hs1.o;have c2:=cell_of_one hl1.o;have f2:=free_of_one hl1.o;obtain⟨va,vcap,rfl⟩:=ap hown;go_wp2;rw[HF.o];refine bodyPost_ret (v:=.tuple #[.slice va r.length vcap,.int .i64 0]) ?_ rfl ⟨⟨_,rfl,?_⟩,hB.setCell (by simp) _⟩
     ·simp[results,Tryz.results101,go_sem,c2]
     ·have:=ownsRow_setCell_below hown (a:=⟨w.heap.size+1,0,none⟩) (by simp) (.slice va r.length vcap)
      exact dF this (by omega)
    ·rw[if_neg hz]at hF
     have HF:=zH hF;clear hF;clear hkm hrk;have hz2:t.isEmpty=false:=by simpa using hz
     have c1:=cell_of_one hs1.o;have c2:=cell_of_one hl1.o;have f2:=free_of_one hl1.o;go_wp2;rw[HF.o];refine bodyPost_ret (v:=.tuple #[.slice none 0 0,.int .i64 7]) ?_ rfl ⟨rfl,hB.setCell (by simp) _⟩;simp[results,Tryz.results101,go_sem,c2]
end
