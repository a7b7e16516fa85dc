/- Lemmas for FoldTells, part 5: walks of the functions that it reaches, and the plain laws behind them. -/
import Derived.Deep.QuietTactic
import Derived.StillTail
import Derived.OrdersIn
import Derived.TacticsIn
import Derived.AtR
import Derived.BigQuiet
import Derived.Lib.Hide
import Derived.Test.YtehllcbnheicoaaGreatDoorFoldTellsK1
set_option linter.unusedSimpArgs false
set_option linter.unusedVariables false
set_option maxRecDepth 100000
set_option maxHeartbeats 16000000
namespace Go.Proofs.YtehllcbnheicoaaGreatDoor
open Go.RowKit
section
variable {P : Program} {ops : Array Oper} {md : Region.Mode} {C : World → Prop} {R : World → World → Prop}
structure Known (R : World → World → Prop) where
 α : Type
 val : α → Value
 fact : α → Option (World → Prop)
 stable : ∀ x φ,fact x = some φ → ∀ w w',φ w → R w w' → φ w'
def Known.exact (R : World → World → Prop) (v : Value) : Known R:=⟨Unit,fun _ => v,fun _ => none,fun _ _ h => by cases h⟩
abbrev Facts:=(Oper × (World → Prop)) → Prop
def Facts.none : Facts:=fun _ => False
def Facts.add (o : Oper) (φ : Option (World → Prop)) (S : Facts) : Facts:=fun q => (∃ ψ,φ = some ψ ∧ q = (o,ψ)) ∨ S q
def Facts.all (S : Facts) (w : World) : Prop:=∀ p,S p → p.2 w
def Facts.at (S : Facts) (ops : Array Oper) (o : Oper) (w : World) : Prop:=∀ p,S p → p.1.apart ops o = false → p.2 w
def Facts.kept (R : World → World → Prop) (S : Facts) : Prop:=∀ p,S p → ∀ w w',p.2 w → R w w' → p.2 w'
theorem Facts.add_none (o : Oper) (S : Facts) : S.add o Option.none = S:=by
 funext q; simp [Facts.add]
theorem Facts.add_comm (o o' : Oper) (φ φ' : Option (World → Prop)) (S : Facts) : (S.add o φ).add o' φ' = (S.add o' φ').add o φ:=by
 funext q; simp only [Facts.add,eq_iff_iff]; grind
theorem Facts.all_add {S : Facts} {o : Oper} {φ : Option (World → Prop)} {w : World} : (S.add o φ).all w ↔ (∀ ψ,φ = some ψ → ψ w) ∧ S.all w:=by
 constructor
 ·intro h; exact ⟨fun ψ hψ => h (o,ψ) (.inl ⟨ψ,hψ,rfl⟩),fun p hp => h p (.inr hp)⟩
 ·rintro ⟨h1,h2⟩ p (⟨ψ,hψ,rfl⟩ | hp)
  ·exact h1 ψ hψ
  ·exact h2 p hp
theorem Facts.all_some {S : Facts} {o : Oper} {φ : World → Prop} {w : World} : (S.add o (some φ)).all w ↔ φ w ∧ S.all w:=by
 rw [Facts.all_add]; simp
theorem Facts.all_none {w : World} : Facts.none.all w ↔ True:=by simp [Facts.all,Facts.none]
theorem Facts.at_some {S : Facts} {o o' : Oper} {φ : World → Prop} {w : World} (h : (S.add o (some φ)).at ops o' w) : (o.apart ops o' = false → φ w) ∧ S.at ops o' w :=
 ⟨fun ha => h (o,φ) (.inl ⟨φ,rfl,rfl⟩) ha,fun p hp => h p (.inr hp)⟩
theorem Facts.at_of_all {S : Facts} {o : Oper} {w : World} (h : S.all w) : S.at ops o w:=fun p hp _ => h p hp
theorem Facts.kept_add {S : Facts} (h : S.kept R) (o : Oper) (g : Known R) (x : g.α) : (S.add o (g.fact x)).kept R:=by
 rintro p (⟨ψ,hψ,rfl⟩ | hp)
 ·exact g.stable x ψ hψ
 ·exact h p hp
theorem Facts.all_kept {S : Facts} (h : S.kept R) {w w' : World} (ha : S.all w) (hR : R w w') : S.all w':=fun p hp => h p hp w w' (ha p hp) hR
def growUpon (P : Program) (w : World) (G : Value → World → Prop) : Result Next → Prop
 | .ok (.value u) w' => G u w'
 | .ok .skip w' => G undef w'
 | .ok (.enter f args) w' => w' = w ∧ Calls P f args w fun e w'' => ∃ u,e = .returned u ∧ G u w''
 | _ => False
def growAt (P : Program) (o : Oper) (a : Act) (w : World) (G : Value → World → Prop) : Prop:=growUpon P w G ((execOp a.eval o).run P w)
def readUpon (w : World) (v : Value) : Result Next → Prop
 | .ok (.value u) w' => w' = w ∧ u = v
 | .ok .skip w' => w' = w ∧ v = undef
 | _ => False
def readAt (P : Program) (o : Oper) (a : Act) (w : World) (v : Value) : Prop:=readUpon w v ((execOp a.eval o).run P w)
def okFor (P : Program) (ops : Array Oper) (C : World → Prop) (R : World → World → Prop) (F : Nat → Option (Known R)) (i : Nat) (o : Oper) (S : Facts) (a : Act) (g : Known R) : Prop :=
 if Region.wanted o (yielded ops a.tmps) = true then
  match F i with
  | none => ∃ v,g = .exact R v ∧ ∀ w,C w → S.at ops o w → readAt P o a w v
  | some g' => g = g' ∧ ∀ w,C w → S.at ops o w → growAt P o a w fun u w' => R w w' ∧ ∃ x,u = g'.val x ∧ ∀ φ,g'.fact x = some φ → φ w'
 else g = .exact R undef
def gOp (P : Program) (ops : Array Oper) (C : World → Prop) (R : World → World → Prop) (F : Nat → Option (Known R)) (i : Nat) (K : Facts → Act → Prop) (S : Facts) (a : Act) : Prop :=
 match ops[i]? with
 | none => K S a
 | some o => ∃ g,okFor P ops C R F i o S a g ∧ ∀ x,K (S.add o (g.fact x)) (a.put o.dst (g.val x))
def Inh (C : World → Prop) (S : Facts) : Prop:=∃ w,C w ∧ S.all w
def wpAnyG (P : Program) (md : Region.Mode) (ops : Array Oper) (C : World → Prop) (R : World → World → Prop) (F : Nat → Option (Known R)) (Q : Array Bool → Facts → Act → Prop) : Nat → Array Bool → Facts → Act → Prop
 | 0,listed,S,a => Inh C S → Q listed S a
 | fuel + 1,listed,S,a => Inh C S →
  Region.ready md ops listed ≠ [] ∧
  ∀ i ∈ Region.ready md ops listed,gOp P ops C R F i (wpAnyG P md ops C R F Q fuel (listed.setIfInBounds i true)) S a
variable {F : Nat → Option (Known R)} {Q : Array Bool → Facts → Act → Prop}
theorem wpAnyG_inh {n : Nat} {listed : Array Bool} {S : Facts} {a : Act} (h : Inh C S → wpAnyG P md ops C R F Q n listed S a) : wpAnyG P md ops C R F Q n listed S a:=by
 cases n <;> exact fun hi => h hi hi
theorem grow_on {i : Nat} {o : Oper} {S : Facts} {a : Act} {w : World} {g : Known R} {K : Facts → Act → Prop} {N : Act → World → Prop} (hCR : ∀ w w',C w → R w w' → C w') (hk : S.kept R) (hw : C w) (hS : S.all w)
  (hwant : Region.wanted o (yielded ops a.tmps) = true) (hok : okFor P ops C R F i o S a g) (hK : ∀ x,K (S.add o (g.fact x)) (a.put o.dst (g.val x)))
  (hN : ∀ S' a' w',S'.kept R → C w' → S'.all w' → K S' a' → N a' w') :
  growAt P o a w fun u w' => N (a.put o.dst u) w':=by
 unfold okFor at hok
 rw [if_pos hwant] at hok
 cases hF : F i with
 | none =>
  simp only [hF] at hok
  obtain ⟨v,rfl,hr⟩:=hok
  have hr:=hr w hw (Facts.at_of_all hS)
  have hK:=hK ()
  simp only [Known.exact,Facts.add_none] at hK
  unfold readAt at hr
  unfold growAt
  generalize (execOp a.eval o).run P w = r at *
  cases r with
  | ok n w' =>
   cases n <;> simp only [readUpon] at hr <;> simp only [growUpon]
   case value u => obtain ⟨rfl,rfl⟩:=hr; exact hN S _ _ hk hw hS hK
   case skip => obtain ⟨rfl,rfl⟩:=hr; exact hN S _ _ hk hw hS hK
  | halt x w' => simp only [readUpon] at hr
 | some g' =>
  simp only [hF] at hok
  obtain ⟨rfl,hr⟩:=hok
  have hr:=hr w hw (Facts.at_of_all hS)
  have on : ∀ u w',(R w w' ∧ ∃ x,u = g.val x ∧ ∀ φ,g.fact x = some φ → φ w') → N (a.put o.dst u) w':=by
   rintro u w' ⟨hR,x,rfl,hx⟩
   exact hN _ _ _ (Facts.kept_add hk o g x) (hCR _ _ hw hR) (Facts.all_add.2 ⟨hx,Facts.all_kept hk hS hR⟩) (hK x)
  unfold growAt at hr ⊢
  generalize (execOp a.eval o).run P w = r at *
  cases r with
  | ok n w' =>
   cases n <;> simp only [growUpon] at hr ⊢
   case value u => exact on _ _ hr
   case skip => exact on _ _ hr
   case enter f args =>
    obtain ⟨rfl,hc⟩:=hr
    exact ⟨rfl,hc.mono fun e w'' ⟨u,he,hG⟩ => ⟨u,he,on _ _ hG⟩⟩
  | halt x w' => simp only [growUpon] at hr
theorem wp_of_grow {o : Oper} {a : Act} {w : World} {N : Act → World → Prop} {Q' : Exit → Act → World → Prop} (h : growAt P o a w fun u w' => N (a.put o.dst u) w') : o.wp P a w N Q':=by
 unfold growAt at h
 unfold Oper.wp
 generalize (execOp a.eval o).run P w = r at *
 cases r with
 | ok n w' =>
  cases n <;> simp only [growUpon] at h <;> simp only [Oper.upon]
  case value u => exact h
  case skip => exact h
  case enter f args =>
   obtain ⟨rfl,hc⟩:=h
   refine hc.mono fun e w'' ⟨u,he,hG⟩ => ?_
   subst he
   exact hG
 | halt x w' => simp only [growUpon] at h
theorem ready_fuel {listed : Array Bool} {X : Prop} (h : Region.ready md ops listed ≠ []) : Region.ready md ops listed = [] → X:=fun e => absurd e h
theorem wpAny_of_G {Q' : Exit → Act → World → Prop} (hCR : ∀ w w',C w → R w w' → C w') (rest : Nat) (hQ : ∀ listed S a w,C w → S.all w → Q listed S a → wpAny P md ops Q' rest listed a w) :
  ∀ (fuel : Nat) (listed : Array Bool) (S : Facts) (a : Act) (w : World),S.kept R → C w → S.all w → wpAnyG P md ops C R F Q fuel listed S a → wpAny P md ops Q' (fuel + rest) listed a w
 | 0,_,_,_,w,_,hw,hS,h => by rw [Nat.zero_add]; exact hQ _ _ _ _ hw hS (h ⟨w,hw,hS⟩)
 | fuel + 1,listed,S,a,w,hk,hw,hS,h => by
  have h:=h ⟨w,hw,hS⟩
  rw [show fuel + 1 + rest = (fuel + rest) + 1 by omega]
  refine ⟨ready_fuel h.1,fun i hi => ?_⟩
  have h2:=h.2 i hi
  unfold gOp at h2
  unfold wpOp
  cases ho : ops[i]? with
  | none => simp only [ho] at h2 ⊢; exact wpAny_of_G hCR rest hQ fuel _ S a w hk hw hS h2
  | some o =>
   simp only [ho] at h2 ⊢
   obtain ⟨g,hok,hK⟩:=h2
   by_cases hwant : Region.wanted o (yielded ops a.tmps) = true
   ·rw [if_pos hwant]
    exact .inl (wp_of_grow (grow_on hCR hk hw hS hwant hok hK fun S' a' w' hk' hw' hS' hA => wpAny_of_G hCR rest hQ fuel _ S' a' w' hk' hw' hS' hA))
   ·unfold okFor at hok
    rw [if_neg hwant] at hok ⊢
    subst hok
    have hK:=hK ()
    simp only [Known.exact,Facts.add_none] at hK
    exact wpAny_of_G hCR rest hQ fuel _ S _ w hk hw hS hK
theorem okFor_out (hCR : ∀ w w',C w → R w w' → C w') {i : Nat} {o : Oper} {S : Facts} {a : Act} {g : Known R} (hk : S.kept R) (h : okFor P ops C R F i o S a g) (hI : Inh C S) : ∃ x,Inh C (S.add o (g.fact x)):=by
 obtain ⟨w,hw,hS⟩:=hI
 unfold okFor at h
 by_cases hwant : Region.wanted o (yielded ops a.tmps) = true
 ·rw [if_pos hwant] at h
  cases hF : F i with
  | none =>
   simp only [hF] at h
   obtain ⟨v,rfl,_⟩:=h
   exact ⟨(),w,hw,by simp only [Known.exact,Facts.add_none]; exact hS⟩
  | some g' =>
   simp only [hF] at h
   obtain ⟨rfl,hr⟩:=h
   have hr:=hr w hw (Facts.at_of_all hS)
   unfold growAt at hr
   have on : ∀ u w',(R w w' ∧ ∃ x,u = g.val x ∧ ∀ φ,g.fact x = some φ → φ w') → ∃ x,Inh C (S.add o (g.fact x)):=by
    rintro u w' ⟨hR,x,rfl,hx⟩
    exact ⟨x,w',hCR _ _ hw hR,Facts.all_add.2 ⟨hx,Facts.all_kept hk hS hR⟩⟩
   generalize (execOp a.eval o).run P w = r at *
   cases r with
   | ok n w' =>
    cases n <;> simp only [growUpon] at hr
    case value u => exact on _ _ hr
    case skip => exact on _ _ hr
    case enter f args =>
     obtain ⟨rfl,hc⟩:=hr
     obtain ⟨e,w'',_,⟨u,_,hG⟩,_⟩:=hc []
     exact on _ _ hG
   | halt x w' => simp only [growUpon] at hr
 ·rw [if_neg hwant] at h
  subst h
  exact ⟨(),w,hw,by simp only [Known.exact,Facts.add_none]; exact hS⟩
theorem okFor_one {i : Nat} {o : Oper} {S : Facts} {a : Act} {g g' : Known R} (h : okFor P ops C R F i o S a g) (h' : okFor P ops C R F i o S a g') (hI : Inh C S) : g = g':=by
 obtain ⟨w,hw,hS⟩:=hI
 unfold okFor at h h'
 by_cases hwant : Region.wanted o (yielded ops a.tmps) = true
 ·rw [if_pos hwant] at h h'
  cases hF : F i with
  | none =>
   simp only [hF] at h h'
   obtain ⟨v,rfl,hv⟩:=h
   obtain ⟨v',rfl,hv'⟩:=h'
   have hv:=hv w hw (Facts.at_of_all hS)
   have hv':=hv' w hw (Facts.at_of_all hS)
   unfold readAt at hv hv'
   have : v = v':=by
    generalize (execOp a.eval o).run P w = r at *
    cases r with
    | ok n w' => cases n <;> simp only [readUpon] at hv hv' <;> grind
    | halt x w' => simp only [readUpon] at hv
   rw [this]
  | some q =>
   simp only [hF] at h h'
   rw [h.1,h'.1]
 ·rw [if_neg hwant] at h h'
  rw [h,h']
theorem okFor_more {i : Nat} {o : Oper} {S S' : Facts} {a : Act} {g : Known R} (h : okFor P ops C R F i o S a g) (hS : ∀ p,S p → S' p) : okFor P ops C R F i o S' a g:=by
 have hat : ∀ w,S'.at ops o w → S.at ops o w:=fun w hw p hp => hw p (hS p hp)
 unfold okFor at *
 split
 ·rename_i hwant
  rw [if_pos hwant] at h
  cases hF : F i with
  | none => simp only [hF] at h ⊢; obtain ⟨v,e,hv⟩:=h; exact ⟨v,e,fun w hw ha => hv w hw (hat w ha)⟩
  | some q => simp only [hF] at h ⊢; exact ⟨h.1,fun w hw ha => h.2 w hw (hat w ha)⟩
 ·rename_i hwant
  rw [if_neg hwant] at h; exact h
theorem okFor_apart {j : Nat} {oi oj : Oper} {S : Facts} {a : Act} {u : Value} {φ : Option (World → Prop)} {g : Known R} (hap : oi.apart ops oj = true) (hsj : ∀ cs b,oj.op ≠ .select cs b)
  (h : okFor P ops C R F j oj (S.add oi φ) (a.put oi.dst u) g) : okFor P ops C R F j oj S a g:=by
 obtain ⟨h1,h2,h3⟩:=Oper.apart_spec hap
 have hat : ∀ w,S.at ops oj w → (S.add oi φ).at ops oj w:=by
  rintro w hw p (⟨ψ,hψ,rfl⟩ | hp) hap'
  ·simp only [hap] at hap'; cases hap'
  ·exact hw p hp hap'
 unfold okFor growAt readAt at *
 rw [wanted_put oj a oi.dst u h1,execOp_put oj hsj a oi.dst u h1] at h
 split
 ·rename_i hwant
  rw [if_pos hwant] at h
  cases hF : F j with
  | none => simp only [hF] at h ⊢; obtain ⟨v,e,hv⟩:=h; exact ⟨v,e,fun w hw ha => hv w hw (hat w ha)⟩
  | some q => simp only [hF] at h ⊢; exact ⟨h.1,fun w hw ha => h.2 w hw (hat w ha)⟩
 ·rename_i hwant
  rw [if_neg hwant] at h; exact h
theorem okFor_keep {i : Nat} {oi oj : Oper} {S : Facts} {a : Act} {u : Value} {g : Known R} (hap : oi.apart ops oj = true) (hsi : ∀ cs b,oi.op ≠ .select cs b)
  (h : okFor P ops C R F i oi S a g) : okFor P ops C R F i oi S (a.put oj.dst u) g:=by
 obtain ⟨h1,h2,h3⟩:=Oper.apart_spec hap
 unfold okFor growAt readAt at *
 rw [wanted_put oi a oj.dst u h3,execOp_put oi hsi a oj.dst u h3]
 exact h
theorem wpAnyG_first (hCR : ∀ w w',C w → R w w' → C w') {n i : Nat} {oi : Oper} (hi : ops[i]? = some oi) (hsel : ∀ (j : Nat) (o : Oper) cs b,ops[j]? = some o → o.op ≠ .select cs b) (hin : i < n)
  (htail : ∀ listed,HeadInv md ops n listed → ∀ i,i < n → listed.getD i true = false → ∀ j ∈ Region.ready md ops listed,j < n)
  (hdone : ∀ listed S a,Q listed S a → ∀ j ∈ Region.ready md ops listed,n ≤ j) :
  ∀ (fuel : Nat) (listed : Array Bool) (S : Facts) (a : Act) (g : Known R),S.kept R → HeadInv md ops n listed →
   (∀ j oj,ops[j]? = some oj → j ≠ i → listed.getD j true = false → (∀ e ∈ oj.after,Region.binds md e = true → e.on ≠ i) → oi.apart ops oj = true) →
   i ∈ Region.ready md ops listed → okFor P ops C R F i oi S a g →
   (∀ x,wpAnyG P md ops C R F Q fuel (listed.setIfInBounds i true) (S.add oi (g.fact x)) (a.put oi.dst (g.val x))) → wpAnyG P md ops C R F Q (fuel + 1) listed S a:=by
 intro fuel
 induction fuel with
 | zero =>
  intro listed S a g hk inv _ hr hok H hI
  have hun:=(mem_ready.1 hr).1
  refine ⟨fun h => (by rw [h] at hr; cases hr),fun j hj => ?_⟩
  have hjn:=htail listed inv i hin hun j hj
  by_cases hji : j = i
  ·subst hji; unfold gOp; simp only [hi]; exact ⟨g,hok,H⟩
  ·obtain ⟨x,hx⟩:=okFor_out hCR hk hok hI
   have:=hdone _ _ _ (H x hx) j (ready_mono hj hji)
   omega
 | succ fuel ih =>
  intro listed S a g hk inv hfree hr hok H hI
  have hun:=(mem_ready.1 hr).1
  refine ⟨fun h => (by rw [h] at hr; cases hr),fun j hj => ?_⟩
  have hjn:=htail listed inv i hin hun j hj
  by_cases hji : j = i
  ·subst hji; unfold gOp; simp only [hi]; exact ⟨g,hok,H⟩
  ·obtain ⟨hjun,oj,hoj,hall⟩:=mem_ready.1 hj
   have hnot : ∀ e ∈ oj.after,Region.binds md e = true → e.on ≠ i:=fun e he hb heq => by
    have h1:=hall e he hb
    rw [heq,getD_both hun] at h1
    cases h1
   have hap:=hfree j oj hoj hji hjun hnot
   have hsi : ∀ cs b,oi.op ≠ .select cs b:=fun cs b => hsel i oi cs b hi
   have hsj : ∀ cs b,oj.op ≠ .select cs b:=fun cs b => hsel j oj cs b hoj
   have hfree' : ∀ k ok,ops[k]? = some ok → k ≠ i → (listed.setIfInBounds j true).getD k true = false →
     (∀ e ∈ ok.after,Region.binds md e = true → e.on ≠ i) → oi.apart ops ok = true:=fun k ok hk hki hun hno => by
    refine hfree k ok hk hki ?_ hno
    by_cases hjk : j = k
    ·subst hjk; exact hjun
    ·rw [getD_set_ne true hjk] at hun; exact hun
   have step : ∀ x,Inh C (S.add oi (g.fact x)) → ∃ gj,okFor P ops C R F j oj S a gj ∧ ∀ y,wpAnyG P md ops C R F Q fuel ((listed.setIfInBounds i true).setIfInBounds j true) ((S.add oi (g.fact x)).add oj (gj.fact y)) ((a.put oi.dst (g.val x)).put oj.dst (gj.val y)):=by
    intro x hx
    have h2:=(H x hx).2 j (ready_mono hj hji)
    unfold gOp at h2
    simp only [hoj] at h2
    obtain ⟨gj,hgj,hK⟩:=h2
    exact ⟨gj,okFor_apart hap hsj hgj,hK⟩
   obtain ⟨x1,hx1⟩:=okFor_out hCR hk hok hI
   obtain ⟨gj,hgj,_⟩:=step x1 hx1
   unfold gOp
   simp only [hoj]
   refine ⟨gj,hgj,fun y => ?_⟩
   refine ih (listed.setIfInBounds j true) (S.add oj (gj.fact y)) (a.put oj.dst (gj.val y)) g (Facts.kept_add hk oj gj y) (inv.set hj hjn) hfree' (ready_mono hr (Ne.symm hji))
    (okFor_keep hap hsi (okFor_more hok fun p hp => .inr hp)) fun x => wpAnyG_inh fun hI2 => ?_
   have hx : Inh C (S.add oi (g.fact x)):=by
    obtain ⟨w,hw,hS⟩:=hI2
    rw [Facts.add_comm] at hS
    exact ⟨w,hw,(Facts.all_add.1 hS).2⟩
   obtain ⟨gj',hgj',hK⟩:=step x hx
   obtain rfl:=okFor_one hgj hgj' hI
   have:=hK y
   rw [Facts.add_comm,Act.put_comm a _ _ (fun d hd => (Oper.apart_spec hap).2.1 d hd),Array.setIfInBounds_comm _ _ (Ne.symm hji)] at this
   exact this
def wpG (P : Program) (ops : Array Oper) (C : World → Prop) (R : World → World → Prop) (F : Nat → Option (Known R)) (Q : Facts → Act → Prop) : Nat → List Oper → Facts → Act → Prop
 | _,[],S,a => Q S a
 | k,o :: rest,S,a => if Region.wanted o (yielded ops a.tmps) = true then
   match F k with
   | none => ∃ v,(∀ w,C w → S.at ops o w → readAt P o a w v) ∧ wpG P ops C R F Q (k + 1) rest S (a.put o.dst v)
   | some g => (∀ w,C w → S.at ops o w → growAt P o a w fun u w' => R w w' ∧ ∃ x,u = g.val x ∧ ∀ φ,g.fact x = some φ → φ w') ∧ ∀ x,wpG P ops C R F Q (k + 1) rest (S.add o (g.fact x)) (a.put o.dst (g.val x))
  else wpG P ops C R F Q (k + 1) rest S (a.put o.dst undef)
theorem wpG_out {Q : Facts → Act → Prop} {k : Nat} {o : Oper} {rest : List Oper} {S : Facts} {a : Act} (h : wpG P ops C R F Q k (o :: rest) S a) :
  ∃ g,okFor P ops C R F k o S a g ∧ ∀ x,wpG P ops C R F Q (k + 1) rest (S.add o (g.fact x)) (a.put o.dst (g.val x)):=by
 unfold wpG at h
 unfold okFor
 split at h
 ·rename_i hwant
  simp only [hwant,if_true]
  cases hF : F k with
  | none => simp only [hF] at h; obtain ⟨v,h1,h2⟩:=h; exact ⟨.exact R v,⟨v,rfl,h1⟩,fun _ => by simpa only [Known.exact,Facts.add_none] using h2⟩
  | some g => simp only [hF] at h; exact ⟨g,⟨rfl,h.1⟩,h.2⟩
 ·rename_i hwant
  exact ⟨.exact R undef,by rw [if_neg hwant],fun _ => by simpa only [Known.exact,Facts.add_none] using h⟩
theorem wpAnyG_lex {Q : Facts → Act → Prop} (hCR : ∀ w w',C w → R w w' → C w') {n g : Nat} (hs : Region.noSelect ops = true)
  (htail : ∀ listed,HeadInv md ops n listed → ∀ i,i < n → listed.getD i true = false → ∀ j ∈ Region.ready md ops listed,j < n) :
  ∀ (l : List Oper) (k : Nat) (listed : Array Bool) (S : Facts) (a : Act),S.kept R → (∀ j,j < l.length → l[j]? = ops[k + j]?) → k + l.length = n → HeadInv md ops n listed →
  Region.lexHead md ops g l.length k listed = true → wpG P ops C R F Q k l S a → wpAnyG P md ops C R F (fun listed' S' a' => Region.seqB md ops g n listed' = true ∧ Q S' a') l.length listed S a
 | [],k,listed,_,_,_,_,hk,_,hB,h => fun _ => by
  have : k = n:=by simpa using hk
  subst this
  exact ⟨by simpa [Region.lexHead] using hB,h⟩
 | o :: l,k,listed,S,a,hk,hl,hkn,inv,hB,h => by
  have h0 : ops[k]? = some o:=by simpa using (hl 0 (by simp)).symm
  simp only [List.length_cons,Region.lexHead,Bool.and_eq_true] at hB
  obtain ⟨⟨hr,hf⟩,hB'⟩:=hB
  have hkn' : k < n:=by simp only [List.length_cons] at hkn; omega
  have hr' : k ∈ Region.ready md ops listed:=by simpa using hr
  obtain ⟨gg,hg,hK⟩:=wpG_out h
  exact wpAnyG_first hCR h0 (Region.noSelect_spec hs) hkn' htail (fun listed' S' a' hL => seqB_ready hL.1) l.length listed S a gg hk inv (Region.free_spec h0 hf) hr' hg
   fun x => wpAnyG_lex hCR hs htail l (k + 1) _ _ _ (Facts.kept_add hk o gg x) (fun j hj => by have:=hl (j + 1) (by simp; omega); simpa [Nat.add_assoc,Nat.add_comm 1 j] using this) (by simp only [List.length_cons] at hkn; omega) (inv.set hr' hkn') hB' (hK x)
def splitB (ops : Array Oper) (n : Nat) : Bool :=
 Region.noSelect ops && (decide (n = ops.size) || (decide (n < ops.size) && Region.sinkB .any ops n && Region.chainB .any ops n)) && Region.lexHead .any ops (ops.size - n) n 0 (Array.replicate ops.size false)
theorem split_tail {n : Nat} (h : splitB ops n = true) : Region.noSelect ops = true ∧ n ≤ ops.size ∧ Region.lexHead .any ops (ops.size - n) n 0 (Array.replicate ops.size false) = true ∧
  ∀ listed,HeadInv .any ops n listed → ∀ i,i < n → listed.getD i true = false → ∀ j ∈ Region.ready .any ops listed,j < n:=by
 simp only [splitB,Bool.and_eq_true,Bool.or_eq_true,decide_eq_true_eq] at h
 obtain ⟨⟨hs,hn⟩,hl⟩:=h
 rcases hn with rfl | ⟨⟨hn,h1⟩,h2⟩
 ·exact ⟨hs,Nat.le_refl _,hl,fun listed _ i _ _ j hj => by obtain ⟨_,o,ho,_⟩:=mem_ready.1 hj; exact (Array.getElem?_eq_some_iff.1 ho).1⟩
 ·refine ⟨hs,Nat.le_of_lt hn,hl,fun listed inv i hi hun j hj => ?_⟩
  rcases Nat.lt_or_ge j n with h | h
  ·exact h
  ·exact absurd hj (tail_waits h1 h2 hn inv _ i rfl hi hun j h)
theorem wp_region_grown {id : Nat} {Q : Exit → Act → World → Prop} {a : Act} {w : World} {l : List Oper} (F : Nat → Option (Known R)) (n : Nat) (hm : P.follows .mixedOrders = true) (hB : splitB l.toArray n = true)
  (hCR : ∀ w w',C w → R w w' → C w') (hC : C w.drew)
  (h : wpG P l.toArray C R F (fun S a' => ∀ w',C w' → S.all w' → wpList P l.toArray Q (l.drop n) a' w') 0 (l.take n) Facts.none a) : (Code.region id l.toArray true).wp P Q a w:=by
 obtain ⟨hs,hn,hlex,htail⟩:=split_tail hB
 have hk : Facts.none.kept R:=fun p hp => hp.elim
 have ha : ∀ w',Facts.none.all w':=fun w' p hp => hp.elim
 have hn' : n ≤ l.length:=by simpa using hn
 have htl : (l.take n).length = n:=by simp; omega
 have hdl : (l.drop n).length = l.toArray.size - n:=by simp
 have inv0 : HeadInv .any l.toArray n (Array.replicate l.toArray.size false) :=
  ⟨by simp,fun j oj _ hl => (by rw [getD_replicate_false] at hl; cases hl),fun t _ ht => getD_in (by simpa using ht) (getD_replicate_false _ _)⟩
 have H:=wpAnyG_lex hCR hs htail (l.take n) 0 _ Facts.none a hk (fun j hj => by
  have hj' : j < n:=by rw [htl] at hj; exact hj
  simp [hj']) (by simpa using htl) inv0 (by rw [htl]; exact hlex) h
 have:=wpAny_of_G (Q':=Q) hCR (l.toArray.size - n) (fun listed S a' w' hw hS hL => by
  have:=wpAny_of_seq (md:=.any) (Q':=Q) (l.drop n) n listed a' w' (fun j => by simp [List.getElem?_drop]) (by rw [hdl]; exact hL.1) (hL.2 w' hw hS)
  rwa [hdl] at this) _ _ _ _ _ hk hC (ha _) H
 rw [htl,show n + (l.toArray.size - n) = l.toArray.size by omega] at this
 exact wp_region_any hm this
end
end Go.Proofs.YtehllcbnheicoaaGreatDoor
namespace Go.Proofs.YtehllcbnheicoaaGreatDoor
open Go.RowKit
attribute [go_sem] growAt growUpon
def Bel (w w' : World) : Prop:=Below w.heap.size w w'
theorem Bel.refl (w : World) : Bel w w:=Below.refl _ _
theorem Bel.trans {a b c : World} (h : Bel a b) (k : Bel b c) : Bel a c:=bt h k
def knownAt {R : World → World → Prop} : List (Nat × Known R) → Nat → Option (Known R)
 | [],_ => none
 | (n,g) :: l,k => if n = k then some g else knownAt l k
def plainOp : Op → Bool
 | .move _ | .assign _ | .pick .. | .load .. | .binOp .. | .unOp .. | .convert .. | .slice .. | .fieldAddr .. | .field .. | .indexAddr .. | .index .. | .extract .. | .build .. | .makeInterface .. | .makeFunc .. => true
 | .call { callee:=.builtin .len,.. } | .call { callee:=.builtin .cap,.. } | .call { callee:=.builtin .min,.. } | .call { callee:=.builtin .max,.. } => true
 | _ => false
section
variable {P : Program} {ops : Array Oper} {C : World → Prop} {R : World → World → Prop} {F : Nat → Option (Known R)} {Q : Facts → Act → Prop}
theorem no_enter {α : Type} {r : Result α} {g : α → Value} {f : FuncId} {args : Array Value} {w : World} : r.andThen (fun x w => .ok (Next.value (g x)) w) ≠ .ok (.enter f args) w:=by
 cases r <;> simp [Result.andThen]
theorem plain_no_enter {ρ : Operand → Value} {o : Oper} (h : plainOp o.op = true) {w w' : World} {f : FuncId} {args : Array Value} : (execOp ρ o).run P w ≠ .ok (.enter f args) w':=by
 unfold execOp
 unfold plainOp at h
 split at h
 all_goals first
  | (rename_i he; simp only [he]; simp only [Sem.run_bind,Sem.run_pure]; first | exact no_enter | exact no_enter (g:=fun x => x) | (simp; done))
  | (rename_i he; simp only [he,resolve,invoke,builtin,Sem.run_bind,Sem.run_pure,Result.andThen_ok]; exact no_enter (g:=fun x => x))
  | cases h
theorem readAt_of_quiet {o : Oper} {a : Act} {C' : World → Prop} {w : World} {v : Value} (hp : plainOp o.op = true) (h : o.quietAt P a C' w v) : readAt P o a w v:=by
 unfold Oper.quietAt at h
 unfold readAt
 have hne:=fun f args w' => plain_no_enter (P:=P) (ρ:=a.eval) hp (w:=w) (w':=w') (f:=f) (args:=args)
 generalize (execOp a.eval o).run P w = r at *
 cases r with
 | ok n w' =>
  cases n <;> simp only [Oper.quietUpon] at h <;> simp only [readUpon]
  case value u => exact h
  case skip => exact h
  case enter f args => exact absurd rfl (hne f args w')
 | halt x w' => simp only [Oper.quietUpon] at h
theorem wpG_skip {k : Nat} {o : Oper} {rest : List Oper} {S : Facts} {a : Act} (hw : Region.wanted o (yielded ops a.tmps) = false)
  (h : ∀ K : Act → Prop,(∀ a,wpG P ops C R F Q (k + 1) rest S a → K a) → wpQuiet P ops C K [o] a) : wpG P ops C R F Q k (o :: rest) S a:=by
 have:=h _ fun _ h => h
 unfold wpQuiet at this
 rw [if_neg (by rw [hw]; exact Bool.false_ne_true)] at this
 unfold wpG
 rw [if_neg (by rw [hw]; exact Bool.false_ne_true)]
 exact this
theorem wpG_quiet {k : Nat} {o : Oper} {rest : List Oper} {S : Facts} {a : Act} (hF : F k = none) (hp : plainOp o.op = true)
  (h : ∀ K : Act → Prop,(∀ a,wpG P ops C R F Q (k + 1) rest S a → K a) → wpQuiet P ops (fun _ => True) K [o] a) : wpG P ops C R F Q k (o :: rest) S a:=by
 have:=h _ fun _ h => h
 unfold wpQuiet at this
 unfold wpG
 split
 ·rename_i hw
  rw [if_pos hw] at this
  obtain ⟨v,h1,h2⟩:=this
  simp only [hF]
  exact ⟨v,fun w hw _ => readAt_of_quiet hp (h1 w trivial),h2⟩
 ·rename_i hw
  rw [if_neg hw] at this
  exact this
theorem wpG_known {k : Nat} {o : Oper} {rest : List Oper} {S : Facts} {a : Act} (g : Known R) (hF : F k = some g) (hw : Region.wanted o (yielded ops a.tmps) = true)
  (h1 : ∀ (w' : World) (G : Value → World → Prop),C w' → S.at ops o w' → (∀ x w'',R w' w'' → (∀ φ,g.fact x = some φ → φ w'') → G (g.val x) w'') → growAt P o a w' G)
  (h2 : ∀ x (K : Act → Prop),(∀ a,wpG P ops C R F Q (k + 1) rest (S.add o (g.fact x)) a → K a) → K (a.put o.dst (g.val x))) : wpG P ops C R F Q k (o :: rest) S a:=by
 unfold wpG
 rw [if_pos hw]
 simp only [hF]
 exact ⟨fun w' hC hS => h1 w' _ hC hS fun x w'' hR hφ => ⟨hR,x,rfl,hφ⟩,fun x => h2 x _ fun _ h => h⟩
theorem wpG_exact {k : Nat} {o : Oper} {rest : List Oper} {S : Facts} {a : Act} {v : Value} (hF : F k = some (.exact R v)) (hw : Region.wanted o (yielded ops a.tmps) = true)
  (h1 : ∀ (w' : World) (G : Value → World → Prop),C w' → S.at ops o w' → (∀ w'',R w' w'' → G v w'') → growAt P o a w' G)
  (h2 : ∀ (K : Act → Prop),(∀ a,wpG P ops C R F Q (k + 1) rest S a → K a) → K (a.put o.dst v)) : wpG P ops C R F Q k (o :: rest) S a:=by
 refine wpG_known (.exact R v) hF hw (fun w' G hC hS hG => h1 w' G hC hS fun w'' hR => hG () w'' hR (fun _ h => by cases h)) (fun x K hK => h2 K fun a ha => hK a ?_)
 simp only [Known.exact,Facts.add_none]
 exact ha
theorem wpG_nilOk {k : Nat} {o : Oper} {rest : List Oper} {S : Facts} {a : Act} {x : Operand} {p : Addr} (hF : F k = none) (ho : o.op = .nilCheck x) (hx : a.eval x = .pointer (some p)) (hw : Region.wanted o (yielded ops a.tmps) = true)
  (h : ∀ (K : Act → Prop),(∀ a,wpG P ops C R F Q (k + 1) rest S a → K a) → K (a.put o.dst (.pointer (some p)))) : wpG P ops C R F Q k (o :: rest) S a:=by
 unfold wpG
 rw [if_pos hw]
 simp only [hF]
 refine ⟨.pointer (some p),fun w _ _ => ?_,h _ fun _ h => h⟩
 unfold readAt execOp
 rw [ho]
 simp only [hx,Sem.run_pure,readUpon,and_self]
theorem at0 {S : Facts} {o o' : Oper} {φ : World → Prop} {w : World} (h : (S.add o (some φ)).at ops o' w) (ha : o.apart ops o' = false) : φ w:=(Facts.at_some h).1 ha
theorem at_on {S : Facts} {o o' : Oper} {φ : Option (World → Prop)} {w : World} (h : (S.add o φ).at ops o' w) : S.at ops o' w:=fun p hp => h p (.inr hp)
theorem at1 {S : Facts} {o o' o1 : Oper} {φ : World → Prop} {φ1 : Option (World → Prop)} {w : World} (h : ((S.add o (some φ)).add o1 φ1).at ops o' w) (ha : o.apart ops o' = false) : φ w:=at0 (at_on h) ha
theorem all0 {S : Facts} {o : Oper} {φ : World → Prop} {w : World} (h : (S.add o (some φ)).all w) : φ w:=(Facts.all_some.1 h).1
theorem region_known {id : Nat} {Q : Exit → Act → World → Prop} {a : Act} {w : World} {l : List Oper} (L : List (Nat × Known Bel)) (hm : P.follows .mixedOrders = true) (hB : splitB l.toArray l.length = true)
  (h : wpG P l.toArray (Bel w) Bel (knownAt L) (fun S a' => ∀ w',Bel w w' → S.all w' → Q .normal a' w') 0 l Facts.none a) : (Code.region id l.toArray true).wp P Q a w :=
 wp_region_grown (knownAt L) l.length hm hB (fun _ _ h k => Bel.trans h k) (b_drew w) (by rw [List.take_length,List.drop_length]; exact h)
theorem region_tail {id : Nat} {Q : Exit → Act → World → Prop} {a : Act} {w : World} {l : List Oper} (n : Nat) (L : List (Nat × Known Bel)) (hm : P.follows .mixedOrders = true) (hB : splitB l.toArray n = true)
  (h : wpG P l.toArray (Bel w) Bel (knownAt L) (fun S a' => ∀ w',Bel w w' → S.all w' → wpList P l.toArray Q (l.drop n) a' w') 0 (l.take n) Facts.none a) : (Code.region id l.toArray true).wp P Q a w :=
 wp_region_grown (knownAt L) n hm hB (fun _ _ h k => Bel.trans h k) (b_drew w) h
theorem calls_told {f : FuncId} {args : Array Value} {w : World} {v : Value} {G : Value → World → Prop} (hG : ∀ w'',Bel w w'' → G v w'') (h : Calls P f args w fun e w' => e = .returned v ∧ Below w.heap.size w w') :
  Calls P f args w fun e w'' => ∃ u,e = .returned u ∧ G u w'':=h.mono fun _ _ ⟨he,hb⟩ => ⟨v,he,hG _ hb⟩
end
end Go.Proofs.YtehllcbnheicoaaGreatDoor
