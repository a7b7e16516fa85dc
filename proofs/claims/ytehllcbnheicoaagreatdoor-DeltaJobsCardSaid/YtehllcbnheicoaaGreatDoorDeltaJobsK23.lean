/- Lemmas for DeltaJobs: walks, plain laws. -/
import Derived.Test.YtehllcbnheicoaaGreatDoorDeltaJobsK7
set_option linter.unusedSimpArgs false
set_option linter.unusedVariables false
set_option maxRecDepth 100000
set_option maxHeartbeats 16000000
namespace Go.Proofs.YtehllcbnheicoaaGreatDoor
open Go.RowKit Oct
section


end
section
section
variable {F:Fence}{n:Nat}{P:Program}{α:Type}
theorem rf {g:Operand}{ps:Array Tmp}{assign body:Code}{Q:Exit→Act→World→Prop}{a:Act}{w:World}(hro:F.round=none)(h1:1≤n){gf:Nat}{lb:Array Value}(hg:a.eval g=.func (.func gf) #[] lb)(hFg:F.fn gf)(eg:∀ args w,(callFunc gf args).run P w=.ok (.enter gf args) w){Xr Yr:World→World→Prop}{Fin:World→Prop}{El:α→Array Value→World→Prop}{out:List α}(hX:∀ U U',Xr U U'→ee w.heap.size U U')(hY:∀ a b c d,Chg (fun k=>k=w.heap.size∨k=w.heap.size+1) a b→Yr b c→Chg (fun k=>k=w.heap.size∨k=w.heap.size+1) c d→Yr a d)(hFin:∀ U U',Fin U→Chg (fun k=>k=w.heap.size∨k=w.heap.size+1) U U'→Fin U')(hseq:∀ W,w.heap.size+2≤W.heap.size→(∀ o,W.cell? ⟨w.heap.size,o,none⟩=none)→(∀ o,W.cell? ⟨w.heap.size+1,o,none⟩=none)→Below w.heap.size w W→qe F (n-1) P gf lb Xr Yr Fin El out W)(hps:∀ x vs U,El x vs U→vs.size=ps.size)(hEl:∀ x vs U U',El x vs U→Chg (fun k=>k=w.heap.size∨k=w.heap.size+1) U U'→El x vs U')(I:List α→World→Prop)(Ix:Code→List α→World→Prop)(hIX:∀ pre U U',I pre U→Xr U U'→I pre U')(hI:∀ pre U U',I pre U→Chg (fun k=>k=w.heap.size∨k=w.heap.size+1) U U'→I pre U')(hIxX:∀ c pre U U',Ix c pre U→Xr U U'→Ix c pre U')(hIx:∀ c pre U U',Ix c pre U→Chg (fun k=>k=w.heap.size∨k=w.heap.size+1) U U'→Ix c pre U')(h0:I [] w)(hround:∀ (l:Nat) (pre:List α) (x:α) (vs:Array Value) (U:World),I pre U→El x vs U→pre++[x] <+: out → assign.wpIn (F.inRound l) (n-1-1) P (Exit.then (fun a' U1=>Below U.heap.size U U1∧∀ U2,w.heap.size+2≤U2.heap.size→I pre U2→El x vs U2→Chg (fun k=>k=w.heap.size∨k=w.heap.size+1) U1 U2 → body.wpIn (F.inRound l) (n-1-1) P (jU w.heap.size Yr I Ix (pre++[x]) U2) a' U2) (fun _ _ _=>False)) { tmps:=(ps.zip vs).foldl (fun t (p,v)=>t.setIfInBounds p v) a.tmps,defers:=[] } U)(hdone:∀ W,w.heap.size+2≤W.heap.size→I out W→Fin W→W.heap[w.heap.size]?=some (.deferred (some []))→Q .normal { a with defers:={ target:=.collected w.heap.size,args:=#[] }::a.defers } W)(hstop:∀ c pre W,w.heap.size+2≤W.heap.size→pre <+: out→Ix c pre W→W.heap[w.heap.size]?=some (.deferred (some []))→c.wpIn F n P Q { a with defers:={ target:=.collected w.heap.size,args:=#[] }::a.defers } W):(Code.rangeFunc g ps assign body).wpIn F n P Q a w:=by
 refine wpIn_rangeFunc fun fn hfn=>?_;rw[hro];obtain⟨rec,hrec⟩:∃ rec:LoopState→Option Code→Loop,rec=fun st pe=>{ state:=st,pending:=pe,fn,tmps:=a.tmps,params:=ps,assign,body,defers:=w.heap.size }:=⟨_,rfl⟩
 obtain⟨W1,hW1⟩:∃ W1,(w.alloc (.deferred (some []))).alloc (.loop (rec .ready none))=W1:=⟨_,rfl⟩
 obtain⟨hK1,hL1,hb1⟩:=mP w (.deferred (some [])) (.loop (rec .ready none));rw[hW1]at hK1 hL1 hb1;have hsz1:w.heap.size+2≤W1.heap.size:=by have:=(Array.getElem?_eq_some_iff.1 hL1).1;omega
 refine⟨w.heap.size+1,[{ target:=.collected w.heap.size,args:=#[] }],W1,{ target:=.fn (.func gf) lb,args:=#[.func (.yield (w.heap.size+1)) #[] #[]] },W1,gf,
  #[.func (.yield (w.heap.size+1)) #[] #[]]++lb,W1,?_,?_,?_,?_,fun _=>h1,?_⟩
 ·exact Iv
 ·simp only[resolve,hg]
  simp[go_sem]
 ·exact In
 ·simp[invoke,go_sem,eg]
 have keep:∀ {U U':World} {o o':Obj},Xr U U'→U.heap[w.heap.size+1]?=some o→U.heap[w.heap.size]?=some o'→U'.heap[w.heap.size+1]?=some o∧U'.heap[w.heap.size]?=some o' :=
  fun hc h h'=>⟨(hX _ _ hc).at (.inr rfl) h,(hX _ _ hc).at (.inl rfl) h'⟩
 refine(hseq W1 hsz1 (fun o=>by simp[World.cell?,hK1]) (fun o=>by simp[World.cell?,hL1]) hb1 (w.heap.size+1)
  (fun pre U=>I pre U∧U.heap[w.heap.size+1]?=some (.loop (rec .ready none))∧U.heap[w.heap.size]?=some (.deferred (some [])))
  (fun pre U=>∃ c,Ix c pre U∧U.heap[w.heap.size+1]?=some (.loop (rec .done (some c)))∧U.heap[w.heap.size]?=some (.deferred (some [])))
  (fun pre U U' hs hc=>⟨hIX _ _ _ hs.1 hc,keep hc hs.2.1 hs.2.2⟩)
  (fun pre U U' ⟨c,hs,hl,hk⟩ hc=>⟨c,hIxX _ _ _ _ hs hc,keep hc hl hk⟩)
  ?_ ⟨hI _ _ _ h0 (DM hb1),hL1,hK1⟩).mono ?_
 ·exact G5
 ·exact Hb
theorem wD {g:Operand}{ps:Array Tmp}{assign body:Code}{Q:Exit→Act→World→Prop}{a:Act}{w:World}{D:Nat}(hD:w.heap.size=D){gf:Nat}{lb:Array Value}(hg:a.eval g=.func (.func gf) #[] lb)(eg:∀ args w,(callFunc gf args).run P w=.ok (.enter gf args) w){Xr Yr:World→World→Prop}{Fin:World→Prop}{El:α→Array Value→World→Prop}{out:List α}(hX:∀ U U',Xr U U'→ee D U U')(hY:∀ a b c d,Chg (fun k=>k=D∨k=D+1) a b→Yr b c→Chg (fun k=>k=D∨k=D+1) c d→Yr a d)(hFin:∀ U U',Fin U→Chg (fun k=>k=D∨k=D+1) U U'→Fin U')(hseq:∀ W,D+2≤W.heap.size→(∀ o,W.cell? ⟨D,o,none⟩=none)→(∀ o,W.cell? ⟨D+1,o,none⟩=none)→Below D w W→qe Fence.wide 2 P gf lb Xr Yr Fin El out W)(hps:∀ x vs U,El x vs U→vs.size=ps.size)(hEl:∀ x vs U U',El x vs U→Chg (fun k=>k=D∨k=D+1) U U'→El x vs U')(I:List α→World→Prop)(Ix:Code→List α→World→Prop)(hIX:∀ pre U U',I pre U→Xr U U'→I pre U')(hI:∀ pre U U',I pre U→Chg (fun k=>k=D∨k=D+1) U U'→I pre U')(hIxX:∀ c pre U U',Ix c pre U→Xr U U'→Ix c pre U')(hIx:∀ c pre U U',Ix c pre U→Chg (fun k=>k=D∨k=D+1) U U'→Ix c pre U')(h0:I [] w)(hround:∀ (l:Nat) (pre:List α) (x:α) (vs:Array Value) (U:World),I pre U→El x vs U→pre++[x] <+: out → assign.wpIn (Fence.wide.inRound l) 1 P (Exit.then (fun a' U1=>Below U.heap.size U U1∧∀ U2,D+2≤U2.heap.size→I pre U2→El x vs U2→Chg (fun k=>k=D∨k=D+1) U1 U2 → body.wpIn (Fence.wide.inRound l) 1 P (jU D Yr I Ix (pre++[x]) U2) a' U2) (fun _ _ _=>False)) { tmps:=(ps.zip vs).foldl (fun t (p,v)=>t.setIfInBounds p v) a.tmps,defers:=[] } U)(hdone:∀ W,D+2≤W.heap.size→I out W→Fin W→W.heap[D]?=some (.deferred (some []))→Q .normal { a with defers:={ target:=.collected D,args:=#[] }::a.defers } W)(hstop:∀ c pre W,D+2≤W.heap.size→pre <+: out→Ix c pre W→W.heap[D]?=some (.deferred (some []))→c.wp P Q { a with defers:={ target:=.collected D,args:=#[] }::a.defers } W):(Code.rangeFunc g ps assign body).wp P Q a w:=by
 subst hD;exact(wpIn_wide (n:=3)).1 (rf rfl (by decide) hg trivial eg hX hY hFin hseq hps hEl I Ix hIX hI hIxX hIx h0 hround hdone fun c pre W h1 h2 h3 h4=>wpIn_wide.2 (hstop c pre W h1 h2 h3 h4))
end
end
section
def kL (o:Oper)(a:Act):Option Value:=match o.op with
 | .store _ x _=>some (a.eval x)
 | _=>none
theorem rE {ops:Array Oper}(o:Oper)(a:Act)(dst:Option Tmp)(v:Value)(h:∀ d,dst=some d→¬d∈Oper.looksAt ops o):kL o (a.put dst v)=kL o a:=by
 unfold kL
 split
 ·rename_i t x y he
  rw[Act.eval_put];intro d hd hx;refine h d hd ?_;subst hx;simp only[Oper.looksAt,he,Ey,List.mem_filterMap];exact .inl ⟨.tmp d,by simp[Op.operands],rfl⟩
 ·rfl
section
variable {P:Program}{ops:Array Oper}{md:Region.Mode}{C:World→Prop}{R:World→World→Prop}
def cQ (P:Program)(ops:Array Oper)(C:World→Prop)(R:World→World→Prop)(F:Nat→Option Value→Option (aJ R))(i:Nat)(o:Oper)(S:au)(a:Act)(g:aJ R):Prop :=
 if Region.wanted o (yielded ops a.tmps)=true then
  match F i (kL o a) with
  | none=>∃ v,g=.exact R v∧∀ w,C w→S.at ops o w→eu P o a w v
  | some g'=>g=g'∧∀ w,C w→S.at ops o w→bP P o a w fun u w'=>R w w'∧∃ x,u=g'.val x∧∀ φ,g'.fact x=some φ→φ w'
 else g=.exact R undef
def yg (P:Program)(ops:Array Oper)(C:World→Prop)(R:World→World→Prop)(F:Nat→Option Value→Option (aJ R))(i:Nat)(K:au→Act→Prop)(S:au)(a:Act):Prop :=
 match ops[i]? with
 | none=>K S a
 | some o=>∃ g,cQ P ops C R F i o S a g∧∀ x,K (S.add o (g.fact x)) (a.put o.dst (g.val x))
def gP (P:Program)(md:Region.Mode)(ops:Array Oper)(C:World→Prop)(R:World→World→Prop)(F:Nat→Option Value→Option (aJ R))(Q:Array Bool→au→Act→Prop):Nat→Array Bool→au→Act→Prop
 | 0,listed,S,a=>Inh C S→Q listed S a
 | fuel+1,listed,S,a=>Inh C S →
  Region.ready md ops listed≠[] ∧
  ∀ i∈Region.ready md ops listed,yg P ops C R F i (gP P md ops C R F Q fuel (listed.setIfInBounds i true)) S a
variable {F:Nat→Option Value→Option (aJ R)}{Q:Array Bool→au→Act→Prop}
theorem ri {n:Nat}{listed:Array Bool}{S:au}{a:Act}(h:Inh C S→gP P md ops C R F Q n listed S a):gP P md ops C R F Q n listed S a:=by
 cases n<;>exact fun hi=>h hi hi
theorem Aq {i:Nat}{o:Oper}{S:au}{a:Act}{w:World}{g:aJ R}{K:au→Act→Prop}{N:Act→World→Prop}(hCR:∀ w w',C w→R w w'→C w')(hk:S.kept R)(hw:C w)(hS:S.all w)(hwant:Region.wanted o (yielded ops a.tmps)=true)(hok:cQ P ops C R F i o S a g)(hK:∀ x,K (S.add o (g.fact x)) (a.put o.dst (g.val x)))(hN:∀ S' a' w',S'.kept R→C w'→S'.all w'→K S' a'→N a' w'):bP P o a w fun u w'=>N (a.put o.dst u) w':=by
 unfold cQ at hok;rw[if_pos hwant]at hok
 cases hF:F i (kL o a) with
 | none =>
  exact Hh
 | some g' =>
  exact Hd
theorem gO {Q':Exit→Act→World→Prop}(hCR:∀ w w',C w→R w w'→C w')(rest:Nat)(hQ:∀ listed S a w,C w→S.all w→Q listed S a→wpAny P md ops Q' rest listed a w):∀ (fuel:Nat) (listed:Array Bool) (S:au) (a:Act) (w:World),S.kept R→C w→S.all w→gP P md ops C R F Q fuel listed S a→wpAny P md ops Q' (fuel+rest) listed a w
 | 0,_,_,_,w,_,hw,hS,h=>by rw[Ek];exact hQ _ _ _ _ hw hS (h ⟨w,hw,hS⟩)
 | fuel+1,listed,S,a,w,hk,hw,hS,h=>by
  have h:=h ⟨w,hw,hS⟩;rw[show fuel+1+rest=(fuel+rest)+1 by omega];refine⟨nz h.1,fun i hi=>?_⟩;have h2:=h.2 i hi;unfold yg at h2;unfold wpOp
  cases ho:ops[i]? with
  | none=>simp only[ho]at h2⊢;exact gO hCR rest hQ fuel _ S a w hk hw hS h2
  | some o =>
   simp only[ho]at h2⊢;obtain⟨g,hok,hK⟩:=h2
   by_cases hwant:Region.wanted o (yielded ops a.tmps)=true
   ·rw[if_pos hwant]
    exact .inl (mW (Aq hCR hk hw hS hwant hok hK fun S' a' w' hk' hw' hS' hA=>gO hCR rest hQ fuel _ S' a' w' hk' hw' hS' hA))
   ·unfold cQ at hok
    rw[if_neg hwant]at hok⊢;subst hok;have hK:=hK ();simp only[aJ.exact,DN]at hK;exact gO hCR rest hQ fuel _ S _ w hk hw hS hK
theorem nM (hCR:∀ w w',C w→R w w'→C w'){i:Nat}{o:Oper}{S:au}{a:Act}{g:aJ R}(hk:S.kept R)(h:cQ P ops C R F i o S a g)(hI:Inh C S):∃ x,Inh C (S.add o (g.fact x)):=by
 obtain⟨w,hw,hS⟩:=hI;unfold cQ at h
 by_cases hwant:Region.wanted o (yielded ops a.tmps)=true
 ·rw[if_pos hwant]at h
  cases hF:F i (kL o a) with
  | none =>
   simp only[hF]at h;obtain⟨v,rfl,_⟩:=h;exact Ib
  | some g' =>
   exact Hf
 ·rw[if_neg hwant]at h
  subst h;exact Ib
theorem uG {i:Nat}{o:Oper}{S:au}{a:Act}{g g':aJ R}(h:cQ P ops C R F i o S a g)(h':cQ P ops C R F i o S a g')(hI:Inh C S):g=g':=by
 obtain⟨w,hw,hS⟩:=hI;unfold cQ at h h'
 by_cases hwant:Region.wanted o (yielded ops a.tmps)=true
 ·rw[if_pos hwant]at h h'
  cases hF:F i (kL o a) with
  | none =>
   exact Hk
  | some q =>
   simp only[hF]at h h';rw[h.1,h'.1]
 ·rw[if_neg hwant]at h h'
  rw[h,h']
theorem sw {i:Nat}{o:Oper}{S S':au}{a:Act}{g:aJ R}(h:cQ P ops C R F i o S a g)(hS:∀ p,S p→S' p):cQ P ops C R F i o S' a g:=by
 have hat:∀ w,S'.at ops o w→S.at ops o w:=fun w hw p hp=>hw p (hS p hp);unfold cQ at *
 split
 ·rename_i hwant
  rw[if_pos hwant]at h
  cases hF:F i (kL o a) with
  | none=>simp only[hF]at h⊢;obtain⟨v,e,hv⟩:=h;exact⟨v,e,fun w hw ha=>hv w hw (hat w ha)⟩
  | some q=>simp only[hF]at h⊢;exact⟨h.1,fun w hw ha=>h.2 w hw (hat w ha)⟩
 ·rename_i hwant
  rw[if_neg hwant]at h;exact h
theorem qD {j:Nat}{oi oj:Oper}{S:au}{a:Act}{u:Value}{φ:Option (World→Prop)}{g:aJ R}(hap:oi.apart ops oj=true)(hsj:∀ cs b,oj.op≠.select cs b)(h:cQ P ops C R F j oj (S.add oi φ) (a.put oi.dst u) g):cQ P ops C R F j oj S a g:=by
 obtain⟨h1,h2,h3⟩:=Oper.apart_spec hap
 have hat:∀ w,S.at ops oj w→(S.add oi φ).at ops oj w:=by
  exact Ip
 unfold cQ bP eu at *;rw[wanted_put oj a oi.dst u h1,execOp_put oj hsj a oi.dst u h1,rE oj a oi.dst u h1]at h
 split
 ·rename_i hwant
  rw[if_pos hwant]at h
  cases hF:F j (kL oj a) with
  | none=>simp only[hF]at h⊢;obtain⟨v,e,hv⟩:=h;exact⟨v,e,fun w hw ha=>hv w hw (hat w ha)⟩
  | some q=>simp only[hF]at h⊢;exact⟨h.1,fun w hw ha=>h.2 w hw (hat w ha)⟩
 ·rename_i hwant
  rw[if_neg hwant]at h;exact h
theorem sx {i:Nat}{oi oj:Oper}{S:au}{a:Act}{u:Value}{g:aJ R}(hap:oi.apart ops oj=true)(hsi:∀ cs b,oi.op≠.select cs b)(h:cQ P ops C R F i oi S a g):cQ P ops C R F i oi S (a.put oj.dst u) g:=by
 obtain⟨h1,h2,h3⟩:=Oper.apart_spec hap;unfold cQ bP eu at *;rw[wanted_put oi a oj.dst u h3,execOp_put oi hsi a oj.dst u h3,rE oi a oj.dst u h3];exact h
theorem oF (hCR:∀ w w',C w→R w w'→C w'){n i:Nat}{oi:Oper}(hi:ops[i]?=some oi)(hsel:∀ (j:Nat) (o:Oper) cs b,ops[j]?=some o→o.op≠.select cs b)(hin:i<n)(htail:∀ listed,HeadInv md ops n listed→∀ i,i<n→listed.getD i true=false→∀ j∈Region.ready md ops listed,j<n)(hdone:∀ listed S a,Q listed S a→∀ j∈Region.ready md ops listed,n≤j):∀ (fuel:Nat) (listed:Array Bool) (S:au) (a:Act) (g:aJ R),S.kept R→HeadInv md ops n listed → (∀ j oj,ops[j]?=some oj→j≠i→listed.getD j true=false→(∀ e∈oj.after,Region.binds md e=true→e.on≠i)→oi.apart ops oj=true) → i∈Region.ready md ops listed→cQ P ops C R F i oi S a g → (∀ x,gP P md ops C R F Q fuel (listed.setIfInBounds i true) (S.add oi (g.fact x)) (a.put oi.dst (g.val x)))→gP P md ops C R F Q (fuel+1) listed S a:=by
 intro fuel
 induction fuel with
 | zero =>
  intro listed S a g hk inv _ hr hok H hI;have hun:=(mem_ready.1 hr).1;refine⟨fun h=>(by rw[h]at hr;cases hr),fun j hj=>?_⟩;have hjn:=htail listed inv i hin hun j hj
  by_cases hji:j=i
  ·subst hji;unfold yg;simp only[hi];exact⟨g,hok,H⟩
  ·obtain⟨x,hx⟩:=nM hCR hk hok hI
   have:=hdone _ _ _ (H x hx) j (ready_mono hj hji);omega
 | succ fuel ih =>
  intro listed S a g hk inv hfree hr hok H hI;have hun:=(mem_ready.1 hr).1;refine⟨fun h=>(by rw[h]at hr;cases hr),fun j hj=>?_⟩;have hjn:=htail listed inv i hin hun j hj
  by_cases hji:j=i
  ·subst hji;unfold yg;simp only[hi];exact⟨g,hok,H⟩
  ·obtain⟨hjun,oj,hoj,hall⟩:=mem_ready.1 hj
   have hnot:∀ e∈oj.after,Region.binds md e=true→e.on≠i:=fun e he hb heq=>by
    have h1:=hall e he hb;rw[heq,getD_both hun]at h1
    cases h1
   have hap:=hfree j oj hoj hji hjun hnot;have hsi:∀ cs b,oi.op≠.select cs b:=fun cs b=>hsel i oi cs b hi;have hsj:∀ cs b,oj.op≠.select cs b:=fun cs b=>hsel j oj cs b hoj
   have hfree':∀ k ok,ops[k]?=some ok→k≠i→(listed.setIfInBounds j true).getD k true=false →
     (∀ e∈ok.after,Region.binds md e=true→e.on≠i)→oi.apart ops ok=true:=fun k ok hk hki hun hno=>by
    refine hfree k ok hk hki ?_ hno
    by_cases hjk:j=k
    ·subst hjk;exact hjun
    ·rw[getD_set_ne true hjk]at hun;exact hun
   have step:∀ x,Inh C (S.add oi (g.fact x))→∃ gj,cQ P ops C R F j oj S a gj∧∀ y,gP P md ops C R F Q fuel ((listed.setIfInBounds i true).setIfInBounds j true) ((S.add oi (g.fact x)).add oj (gj.fact y)) ((a.put oi.dst (g.val x)).put oj.dst (gj.val y)):=by
    intro x hx;have h2:=(H x hx).2 j (ready_mono hj hji);unfold yg at h2;simp only[hoj]at h2;obtain⟨gj,hgj,hK⟩:=h2;exact⟨gj,qD hap hsj hgj,hK⟩
   obtain⟨x1,hx1⟩:=nM hCR hk hok hI;obtain⟨gj,hgj,_⟩:=step x1 hx1;unfold yg;simp only[hoj];refine⟨gj,hgj,fun y=>?_⟩
   refine ih (listed.setIfInBounds j true) (S.add oj (gj.fact y)) (a.put oj.dst (gj.val y)) g (DR hk oj gj y) (inv.set hj hjn) hfree' (ready_mono hr (Ne.symm hji))
    (sx hap hsi (sw hok fun p hp=>.inr hp)) fun x=>ri fun hI2=>?_
   have hx:Inh C (S.add oi (g.fact x)):=by
    obtain⟨w,hw,hS⟩:=hI2;rw[au.add_comm]at hS;exact⟨w,hw,(au.all_add.1 hS).2⟩
   obtain⟨gj',hgj',hK⟩:=step x hx;obtain rfl:=uG hgj hgj' hI;exact Hw
def iy (P:Program)(ops:Array Oper)(C:World→Prop)(R:World→World→Prop)(F:Nat→Option Value→Option (aJ R))(Q:au→Act→Prop):Nat→List Oper→au→Act→Prop
 | _,[],S,a=>Q S a
 | k,o::rest,S,a=>if Region.wanted o (yielded ops a.tmps)=true then
   match F k (kL o a) with
   | none=>∃ v,(∀ w,C w→S.at ops o w→eu P o a w v)∧iy P ops C R F Q (k+1) rest S (a.put o.dst v)
   | some g=>(∀ w,C w→S.at ops o w→bP P o a w fun u w'=>R w w'∧∃ x,u=g.val x∧∀ φ,g.fact x=some φ→φ w')∧∀ x,iy P ops C R F Q (k+1) rest (S.add o (g.fact x)) (a.put o.dst (g.val x))
  else iy P ops C R F Q (k+1) rest S (a.put o.dst undef)
theorem yK {Q:au→Act→Prop}{k:Nat}{o:Oper}{rest:List Oper}{S:au}{a:Act}(h:iy P ops C R F Q k (o::rest) S a):∃ g,cQ P ops C R F k o S a g∧∀ x,iy P ops C R F Q (k+1) rest (S.add o (g.fact x)) (a.put o.dst (g.val x)):=by
 unfold iy at h;unfold cQ
 split at h
 ·rename_i hwant
  simp only[hwant,if_true]
  cases hF:F k (kL o a) with
  | none=>simp only[hF]at h;obtain⟨v,h1,h2⟩:=h;exact⟨.exact R v,⟨v,rfl,h1⟩,fun _=>by simpa only[aJ.exact,DN] using h2⟩
  | some g=>simp only[hF]at h;exact⟨g,⟨rfl,h.1⟩,h.2⟩
 ·exact Im
theorem lU {Q:au→Act→Prop}(hCR:∀ w w',C w→R w w'→C w'){n g:Nat}(hs:Region.noSelect ops=true)(htail:∀ listed,HeadInv md ops n listed→∀ i,i<n→listed.getD i true=false→∀ j∈Region.ready md ops listed,j<n):∀ (l:List Oper) (k:Nat) (listed:Array Bool) (S:au) (a:Act),S.kept R→(∀ j,j<l.length→l[j]?=ops[k+j]?)→k+l.length=n→HeadInv md ops n listed → Region.lexHead md ops g l.length k listed=true→iy P ops C R F Q k l S a→gP P md ops C R F (fun listed' S' a'=>Region.seqB md ops g n listed'=true∧Q S' a') l.length listed S a
 | [],k,listed,_,_,_,_,hk,_,hB,h=>fun _=>by
  exact Iw
 | o::l,k,listed,S,a,hk,hl,hkn,inv,hB,h=>by
  have h0:ops[k]?=some o:=by simpa using (hl 0 (by simp)).symm
  simp only[Ea,Region.lexHead,EE]at hB;obtain⟨⟨hr,hf⟩,hB'⟩:=hB;have hkn':k<n:=by simp only[Ea]at hkn;omega
  have hr':k∈Region.ready md ops listed:=by simpa using hr
  obtain⟨gg,hg,hK⟩:=yK h
  exact oF hCR h0 (Region.noSelect_spec hs) hkn' htail (fun listed' S' a' hL=>seqB_ready hL.1) l.length listed S a gg hk inv (Region.free_spec h0 hf) hr' hg
   fun x=>lU hCR hs htail l (k+1) _ _ _ (DR hk o gg x) (fun j hj=>by have:=hl (j+1) (by simp;omega);simpa[Ee,Nat.add_comm 1 j] using this) (by simp only[Ea]at hkn;omega) (inv.set hr' hkn') hB' (hK x)
theorem lC {id:Nat}{Q:Exit→Act→World→Prop}{a:Act}{w:World}{l:List Oper}(F:Nat→Option Value→Option (aJ R))(n:Nat)(hm:P.follows .mixedOrders=true)(hB:iC l.toArray n=true)(hCR:∀ w w',C w→R w w'→C w')(hC:C w.drew)(h:iy P l.toArray C R F (fun S a'=>∀ w',C w'→S.all w'→wpList P l.toArray Q (l.drop n) a' w') 0 (l.take n) au.none a):(Code.region id l.toArray true).wp P Q a w:=by
 obtain⟨hs,hn,hlex,htail⟩:=nn hB;have hk:au.none.kept R:=fun p hp=>hp.elim;have ha:∀ w',au.none.all w':=fun w' p hp=>hp.elim;have hn':n≤l.length:=by simpa using hn
 have htl:(l.take n).length=n:=by simp;omega
 have hdl:(l.drop n).length=l.toArray.size-n:=by simp
 have inv0:HeadInv .any l.toArray n (Array.replicate l.toArray.size false) :=
  ⟨by simp,fun j oj _ hl=>(by rw[getD_replicate_false]at hl;cases hl),fun t _ ht=>getD_in (by simpa using ht) (getD_replicate_false _ _)⟩
 have H:=lU hCR hs htail (l.take n) 0 _ au.none a hk (fun j hj=>by
  have hj':j<n:=by rw[htl]at hj;exact hj
  simp[hj']) (by simpa using htl) inv0 (by rw[htl];exact hlex) h
 have:=gO (Q':=Q) hCR (l.toArray.size-n) (fun listed S a' w' hw hS hL=>by
  have:=wpAny_of_seq (md:=.any) (Q':=Q) (l.drop n) n listed a' w' (fun j=>by simp[List.getElem?_drop]) (by rw[hdl];exact hL.1) (hL.2 w' hw hS)
  rwa [hdl]at this) _ _ _ _ _ hk hC (ha _) H
 rw[htl,show n+(l.toArray.size-n)=l.toArray.size by omega]at this;exact wp_region_any hm this
end
section
variable {P:Program}{ops:Array Oper}{C:World→Prop}{R:World→World→Prop}{F:Nat→Option Value→Option (aJ R)}{Q:au→Act→Prop}
theorem wpG_quietV {k:Nat}{o:Oper}{rest:List Oper}{S:au}{a:Act}(hF:F k (kL o a)=none)(hp:kY o.op=true)(h:∀ K:Act→Prop,(∀ a,iy P ops C R F Q (k+1) rest S a→K a)→wpQuiet P ops (fun _=>True) K [o] a):iy P ops C R F Q k (o::rest) S a:=by
 have:=h _ fun _ h=>h;unfold wpQuiet at this;unfold iy
 split
 ·exact If
 ·rename_i hw
  rw[if_neg hw]at this;exact this
theorem fi {k:Nat}{o:Oper}{rest:List Oper}{S:au}{a:Act}(g:aJ R)(hF:F k (kL o a)=some g)(hw:Region.wanted o (yielded ops a.tmps)=true)(h1:∀ (w':World) (G:Value→World→Prop),C w'→S.at ops o w'→(∀ x w'',R w' w''→(∀ φ,g.fact x=some φ→φ w'')→G (g.val x) w'')→bP P o a w' G)(h2:∀ x (K:Act→Prop),(∀ a,iy P ops C R F Q (k+1) rest (S.add o (g.fact x)) a→K a)→K (a.put o.dst (g.val x))):iy P ops C R F Q k (o::rest) S a:=by
 unfold iy;rw[if_pos hw];simp only[hF];exact⟨fun w' hC hS=>h1 w' _ hC hS fun x w'' hR hφ=>⟨hR,x,rfl,hφ⟩,fun x=>h2 x _ fun _ h=>h⟩
theorem tO {k:Nat}{o:Oper}{rest:List Oper}{S:au}{a:Act}{v:Value}(hF:F k (kL o a)=some (.exact R v))(hw:Region.wanted o (yielded ops a.tmps)=true)(h1:∀ (w':World) (G:Value→World→Prop),C w'→S.at ops o w'→(∀ w'',R w' w''→G v w'')→bP P o a w' G)(h2:∀ (K:Act→Prop),(∀ a,iy P ops C R F Q (k+1) rest S a→K a)→K (a.put o.dst v)):iy P ops C R F Q k (o::rest) S a:=by
 refine fi (.exact R v) hF hw (fun w' G hC hS hG=>h1 w' G hC hS fun w'' hR=>hG () w'' hR (fun _ h=>by cases h)) (fun x K hK=>h2 K fun a ha=>hK a ?_);simp only[aJ.exact,DN];exact ha
end
theorem cGV {T T':Prop}(k:T')(h:Hid T'→T:=by intro k;(repeat(first|(refine wpG_skipV (by kernel_rfl) (fun K hK=>?_);go_big_quiet_skip;refine wpQuiet_nil (hK _ ?_);clear hK K)|(refine wpG_quietV (by rfl) (by rfl) (fun K hK=>?_);go_big_quiet_want;go_big_quiet_op;go_big_quiet_on;refine wpQuiet_nil (hK _ ?_);clear hK K)));exact k.o):T:=h k
theorem cOV {T T':Prop}(k:T')(h:Hid T'→T:=by intro k;go_simp;refine hK _ ?_;(repeat(first|(refine wpG_skipV (by kernel_rfl) (fun K hK=>?_);go_big_quiet_skip;refine wpQuiet_nil (hK _ ?_);clear hK K)|(refine wpG_quietV (by rfl) (by rfl) (fun K hK=>?_);go_big_quiet_want;go_big_quiet_op;go_big_quiet_on;refine wpQuiet_nil (hK _ ?_);clear hK K)));exact k.o):T:=h k
end
section
def jN (B:Nat)(T:TypeId)(z p:Array Value)(w w':World):Prop :=
 Below B w w'∧(∀ b,B≤b→(w.heap[b]?=some (.cells z T (0,0))∨w.heap[b]?=some (.cells p T (0,0)))→(w'.heap[b]?=some (.cells z T (0,0))∨w'.heap[b]?=some (.cells p T (0,0)))) ∧
  (∀ b,B≤b→w.heap[b]?=some (.cells p T (0,0))→w'.heap[b]?=some (.cells p T (0,0)))
section
variable {B:Nat}{T:TypeId}{z p:Array Value}
theorem jN.trans {a b c:World}(h:jN B T z p a b)(k:jN B T z p b c):jN B T z p a c :=
 ⟨h.1.trans k.1,fun x hx hv=>k.2.1 x hx (h.2.1 x hx hv),fun x hx hv=>k.2.2 x hx (h.2.2 x hx hv)⟩
theorem jN.of_bel {w w':World}(hb:B≤w.heap.size)(h:Bel w w'):jN B T z p w w':=by
 have key:∀ (x:Nat) (o:Obj),w.heap[x]?=some o→w'.heap[x]?=some o:=fun x o hx=>(h.block x (Array.getElem?_eq_some_iff.1 hx).1).trans hx;exact⟨h.mono hb,fun x _ hv=>hv.imp (key x _) (key x _),fun x _ hv=>key x _ hv⟩
theorem jN.size {w w':World}(h:jN B T z p w w'):w.heap.size≤w'.heap.size:=h.1.size
theorem jN.store {w w':World}{x:Nat}(hx:B≤x)(hB:B≤w.heap.size)(hc:Chg (fun k=>k=x) w w')(hs:w'.heap[x]?=some (.cells p T (0,0))):jN B T z p w w':=by
 have key:∀ (b:Nat) (o:Obj),b≠x→w.heap[b]?=some o→w'.heap[b]?=some o:=fun b o hb h=>(hc.block b (Array.getElem?_eq_some_iff.1 h).1 hb).trans h;refine⟨hc.below (fun k hk=>by omega) hB,fun b _ hv=>?_,fun b _ hv=>?_⟩
 ·by_cases hb:b=x
  ·subst hb;exact .inr hs
  ·exact hv.imp (key b _ hb) (key b _ hb)
 ·by_cases hb:b=x
  ·subst hb;exact hs
  ·exact key b _ hb hv
def Di (B:Nat)(T:TypeId)(z p:Array Value):aJ (jN B T z p) :=
 ⟨Nat,fun x=>.pointer (some ⟨x,0,none⟩),fun x=>some fun w=>B≤x∧(w.heap[x]?=some (.cells z T (0,0))∨w.heap[x]?=some (.cells p T (0,0))),fun x _ h _ _ hφ hR=>by cases h;exact⟨hφ.1,hR.2.1 x hφ.1 hφ.2⟩⟩
@[go_sem] theorem CM (B:Nat) (T:TypeId) (z p:Array Value) (x:Nat):(Di B T z p).val x=.pointer (some ⟨x,0,none⟩):=rfl
def z7 {R:World→World→Prop}(L:List (Nat×aJ R))(m:Nat)(K:Value→aJ R)(k:Nat)(v:Option Value):Option (aJ R):=if k=m then v.map K else fW L k
theorem yL {P:Program}{ops:Array Oper}{C:World→Prop}{R:World→World→Prop}{F:Nat→Option Value→Option (aJ R)}{Q:au→Act→Prop}{k:Nat}{S:au}{a:Act}(h:Q S a):iy P ops C R F Q k [] S a:=h
theorem jN.refl (w:World):jN B T z p w w:=⟨Em _ _,fun _ _ h=>h,fun _ _ h=>h⟩
end
end
section
def eN (B:Nat)(T:TypeId)(z p:Array Value)(w w':World):Prop:=jN B T z p w w'∧∀ b cs t,B≤b→t≠T→w.heap[b]?=some (.cells cs t (0,0))→w'.heap[b]?=some (.cells cs t (0,0))
section
variable {B:Nat}{T:TypeId}{z p:Array Value}
theorem eN.trans {a b c:World}(h:eN B T z p a b)(k:eN B T z p b c):eN B T z p a c:=⟨h.1.trans k.1,fun x cs t hx ht hv=>k.2 x cs t hx ht (h.2 x cs t hx ht hv)⟩
theorem eN.of_bel {w w':World}(hb:B≤w.heap.size)(h:Bel w w'):eN B T z p w w':=⟨jN.of_bel hb h,fun x _ _ _ _ hx=>(h.block x (Array.getElem?_eq_some_iff.1 hx).1).trans hx⟩
theorem eN.size {w w':World}(h:eN B T z p w w'):w.heap.size≤w'.heap.size:=h.1.size
theorem eN.refl (w:World):eN B T z p w w:=⟨jN.refl w,fun _ _ _ _ _ h=>h⟩
theorem eN.store {w w':World}{x:Nat}{o:Array Value}(hx:B≤x)(hB:B≤w.heap.size)(hc:Chg (fun k=>k=x) w w')(ho:w.heap[x]?=some (.cells o T (0,0)))(hs:w'.heap[x]?=some (.cells p T (0,0))):eN B T z p w w':=by
 refine⟨jN.store hx hB hc hs,fun b cs t _ ht h=>?_⟩
 by_cases hb:b=x
 ·subst hb
  rw[ho]at h;injection h with h
  injection h with _ h2 _
  exact absurd h2.symm ht
 ·exact(hc.block b (Array.getElem?_eq_some_iff.1 h).1 hb).trans h
def uT (B:Nat)(T:TypeId)(z p:Array Value):aJ (eN B T z p) :=
 ⟨Nat,fun x=>.pointer (some ⟨x,0,none⟩),fun x=>some fun w=>B≤x∧(w.heap[x]?=some (.cells z T (0,0))∨w.heap[x]?=some (.cells p T (0,0))),fun x _ h _ _ hφ hR=>by cases h;exact⟨hφ.1,hR.1.2.1 x hφ.1 hφ.2⟩⟩
@[go_sem] theorem Cp (B:Nat) (T:TypeId) (z p:Array Value) (x:Nat):(uT B T z p).val x=.pointer (some ⟨x,0,none⟩):=rfl
def sK (B:Nat)(T:TypeId)(z p:Array Value)(v:Value):aJ (eN B T z p) :=
 ⟨Unit,fun _=>undef,fun _=>some fun w=>∀ x,v=.pointer (some ⟨x,0,none⟩)→B≤x∧w.heap[x]?=some (.cells p T (0,0)),fun _ _ h _ _ hφ hR=>by cases h;exact fun x hv=>⟨(hφ x hv).1,hR.1.2.2 x (hφ x hv).1 (hφ x hv).2⟩⟩
theorem oK {P:Program}{id:Nat}{Q:Exit→Act→World→Prop}{a:Act}{w:World}{l:List Oper}(T:TypeId)(z p:Array Value)(m:Nat)(L:List (Nat×aJ (eN w.heap.size T z p)))(hm:P.follows .mixedOrders=true)(hB:iC l.toArray l.length=true)(h:iy P l.toArray (eN w.heap.size T z p w) (eN w.heap.size T z p) (z7 L m (sK w.heap.size T z p)) (fun S a'=>∀ w',eN w.heap.size T z p w w'→S.all w'→Q .normal a' w') 0 l au.none a):(Code.region id l.toArray true).wp P Q a w :=
 lC (C:=eN w.heap.size T z p w) (R:=eN w.heap.size T z p) _ l.length hm hB (fun _ _ h k=>eN.trans h k) (eN.of_bel (Ei _) (b_drew w)) (by rw[List.take_length,List.drop_length];exact h)
end
def sI {α:Type}(B:Nat)(T:TypeId)(z p:Array Value)(R:Rec α)(ht:R.e≠T)(l:List α):aJ (eN B T z p) :=
 ⟨Option Addr×Nat,fun x=>.slice x.1 l.length x.2,fun x=>some fun w=>R.Own w B (.slice x.1 l.length x.2) l,fun _ _ h _ _ hφ hR=>by
  cases h
  obtain⟨h1,h2⟩:=hφ;refine⟨h1,?_⟩;rcases h2 with h2|⟨g,cap,cur,hv,hg,hh,r⟩
  ·exact .inl h2
  ·exact .inr ⟨g,cap,cur,hv,hg,hR.2 g cur _ hg ht hh,r⟩⟩
@[go_sem] theorem CH {α:Type} (B:Nat) (T:TypeId) (z p:Array Value) (R:Rec α) (ht:R.e≠T) (l:List α) (a:Option Addr) (c:Nat):(sI B T z p R ht l).val (a,c)=.slice a l.length c:=rfl
end
