/- Lemmas for MapperTells: walks, plain laws. -/
import Derived.StillTail
import Derived.OrdersIn
import Derived.TacticsIn
import Derived.AtR
import Derived.Test.YtckhfapcmjlmbaaGreatDoorMapperTellsK5
set_option linter.unusedSimpArgs false
set_option linter.unusedVariables false
set_option maxRecDepth 100000
set_option maxHeartbeats 16000000
namespace Go.Proofs.YtckhfapcmjlmbaaGreatDoor
open Go.RowKit Oct
section
def aK:Rec (LU_) where
 cell s:=[.string (bs s)]
 e:=9
 n:=1
 bytes:=16
 z:=.string ByteArray.empty
 len:=fun _=>rfl
 one:=by intro x u h;simp at h;subst h;rfl
 info:=by kernel_rfl
 zs:=rfl
 pos:=by decide
 bpos:=by decide
theorem an {w:World}{v:Value}{l:LL_}(h:aK.Row w v l):∃ a cap,v=.slice a l.length cap∧l.length≤cap∧∀ k (hk:k<l.length),∃ b off,a=some ⟨b,off,none⟩∧w.cell? ⟨b,off+k,none⟩=some (.string (bs l[k])):=by
 obtain⟨a,cap,hv,hle,hc⟩:=h.open;refine⟨a,cap,hv,hle,fun k hk=>?_⟩;obtain⟨b,off,ha,hu⟩:=hc k hk;have:=hu 0 _ rfl;rw[show aK.n=1 from rfl,Nat.mul_one,Nat.add_zero]at this;exact⟨b,off,ha,this⟩
end
section
section
variable {P:Program}{ops:Array Oper}{md:Region.Mode}{C:World→Prop}{R:World→World→Prop}
structure bn (R:World→World→Prop) where
 α:Type
 val:α→Value
 fact:α→Option (World→Prop)
 stable:∀ x φ,fact x=some φ→∀ w w',φ w→R w w'→φ w'
def bn.exact(R:World→World→Prop)(v:Value):bn R:=⟨Unit,fun _=>v,fun _=>none,fun _ _ h=>by cases h⟩
abbrev aB:=(Oper×(World→Prop))→Prop
def aB.none:aB:=fun _=>False
def aB.add (o:Oper)(φ:Option (World→Prop))(S:aB):aB:=fun q=>(∃ ψ,φ=some ψ∧q=(o,ψ))∨S q
def aB.all (S:aB)(w:World):Prop:=∀ p,S p→p.2 w
def aB.at (S:aB)(ops:Array Oper)(o:Oper)(w:World):Prop:=∀ p,S p→p.1.apart ops o=false→p.2 w
def aB.kept (R:World→World→Prop)(S:aB):Prop:=∀ p,S p→∀ w w',p.2 w→R w w'→p.2 w'
theorem Dc (o:Oper)(S:aB):S.add o Option.none=S:=by
 funext q;simp[aB.add]
theorem aB.add_comm (o o':Oper)(φ φ':Option (World→Prop))(S:aB):(S.add o φ).add o' φ'=(S.add o' φ').add o φ:=by
 funext q;simp only[aB.add,eq_iff_iff];grind
theorem aB.all_add {S:aB}{o:Oper}{φ:Option (World→Prop)}{w:World}:(S.add o φ).all w↔(∀ ψ,φ=some ψ→ψ w)∧S.all w:=by
 constructor
 ·intro h;exact⟨fun ψ hψ=>h (o,ψ) (.inl ⟨ψ,hψ,rfl⟩),fun p hp=>h p (.inr hp)⟩
 ·rintro⟨h1,h2⟩ p (⟨ψ,hψ,rfl⟩|hp)
  ·exact h1 ψ hψ
  ·exact h2 p hp
theorem aB.all_some {S:aB}{o:Oper}{φ:World→Prop}{w:World}:(S.add o (some φ)).all w↔φ w∧S.all w:=by
 rw[aB.all_add];simp
theorem Db {w:World}:aB.none.all w↔True:=by simp[aB.all,aB.none]
theorem aB.at_some {S:aB}{o o':Oper}{φ:World→Prop}{w:World}(h:(S.add o (some φ)).at ops o' w):(o.apart ops o'=false→φ w)∧S.at ops o' w :=
 ⟨fun ha=>h (o,φ) (.inl ⟨φ,rfl,rfl⟩) ha,fun p hp=>h p (.inr hp)⟩
theorem De {S:aB}{o:Oper}{w:World}(h:S.all w):S.at ops o w:=fun p hp _=>h p hp
theorem Dh {S:aB}(h:S.kept R)(o:Oper)(g:bn R)(x:g.α):(S.add o (g.fact x)).kept R:=by
 rintro p (⟨ψ,hψ,rfl⟩|hp)
 ·exact g.stable x ψ hψ
 ·exact h p hp
theorem Dp {S:aB}(h:S.kept R){w w':World}(ha:S.all w)(hR:R w w'):S.all w':=fun p hp=>h p hp w w' (ha p hp) hR
def ez (P:Program)(w:World)(G:Value→World→Prop):Result Next→Prop
 | .ok (.value u) w'=>G u w'
 | .ok .skip w'=>G undef w'
 | .ok (.enter f args) w'=>w'=w∧Calls P f args w fun e w''=>∃ u,e=.returned u∧G u w''
 | _=>False
def dc (P:Program)(o:Oper)(a:Act)(w:World)(G:Value→World→Prop):Prop:=ez P w G ((execOp a.eval o).run P w)
def fL (w:World)(v:Value):Result Next→Prop
 | .ok (.value u) w'=>w'=w∧u=v
 | .ok .skip w'=>w'=w∧v=undef
 | _=>False
def ic (P:Program)(o:Oper)(a:Act)(w:World)(v:Value):Prop:=fL w v ((execOp a.eval o).run P w)
def dJ (P:Program)(ops:Array Oper)(C:World→Prop)(R:World→World→Prop)(F:Nat→Option (bn R))(i:Nat)(o:Oper)(S:aB)(a:Act)(g:bn R):Prop :=
 if Region.wanted o (yielded ops a.tmps)=true then
  match F i with
  | none=>∃ v,g=.exact R v∧∀ w,C w→S.at ops o w→ic P o a w v
  | some g'=>g=g'∧∀ w,C w→S.at ops o w→dc P o a w fun u w'=>R w w'∧∃ x,u=g'.val x∧∀ φ,g'.fact x=some φ→φ w'
 else g=.exact R undef
def gOp (P:Program)(ops:Array Oper)(C:World→Prop)(R:World→World→Prop)(F:Nat→Option (bn R))(i:Nat)(K:aB→Act→Prop)(S:aB)(a:Act):Prop :=
 match ops[i]? with
 | none=>K S a
 | some o=>∃ g,dJ P ops C R F i o S a g∧∀ x,K (S.add o (g.fact x)) (a.put o.dst (g.val x))
def Inh (C:World→Prop)(S:aB):Prop:=∃ w,C w∧S.all w
def iH (P:Program)(md:Region.Mode)(ops:Array Oper)(C:World→Prop)(R:World→World→Prop)(F:Nat→Option (bn R))(Q:Array Bool→aB→Act→Prop):Nat→Array Bool→aB→Act→Prop
 | 0,listed,S,a=>Inh C S→Q listed S a
 | fuel+1,listed,S,a=>Inh C S →
  Region.ready md ops listed≠[] ∧
  ∀ i∈Region.ready md ops listed,gOp P ops C R F i (iH P md ops C R F Q fuel (listed.setIfInBounds i true)) S a
variable {F:Nat→Option (bn R)}{Q:Array Bool→aB→Act→Prop}
theorem sW {n:Nat}{listed:Array Bool}{S:aB}{a:Act}(h:Inh C S→iH P md ops C R F Q n listed S a):iH P md ops C R F Q n listed S a:=by
 cases n<;>exact fun hi=>h hi hi
theorem AK {i:Nat}{o:Oper}{S:aB}{a:Act}{w:World}{g:bn R}{K:aB→Act→Prop}{N:Act→World→Prop}(hCR:∀ w w',C w→R w w'→C w')(hk:S.kept R)(hw:C w)(hS:S.all w)(hwant:Region.wanted o (yielded ops a.tmps)=true)(hok:dJ P ops C R F i o S a g)(hK:∀ x,K (S.add o (g.fact x)) (a.put o.dst (g.val x)))(hN:∀ S' a' w',S'.kept R→C w'→S'.all w'→K S' a'→N a' w'):dc P o a w fun u w'=>N (a.put o.dst u) w':=by
 unfold dJ at hok;rw[if_pos hwant]at hok
 cases hF:F i with
 | none =>
  simp only[hF]at hok;obtain⟨v,rfl,hr⟩:=hok;have hr:=hr w hw (De hS);have hK:=hK ();simp only[bn.exact,Dc]at hK;unfold ic at hr;unfold dc;generalize (execOp a.eval o).run P w=r at *
  cases r with
  | ok n w' =>
   cases n<;>simp only[fL]at hr<;>simp only[ez]
   case value u=>obtain⟨rfl,rfl⟩:=hr;exact hN S _ _ hk hw hS hK
   case skip=>obtain⟨rfl,rfl⟩:=hr;exact hN S _ _ hk hw hS hK
  | halt x w'=>simp only[fL]at hr
 | some g' =>
  simp only[hF]at hok;obtain⟨rfl,hr⟩:=hok;have hr:=hr w hw (De hS)
  have on:∀ u w',(R w w'∧∃ x,u=g.val x∧∀ φ,g.fact x=some φ→φ w')→N (a.put o.dst u) w':=by
   rintro u w' ⟨hR,x,rfl,hx⟩;exact hN _ _ _ (Dh hk o g x) (hCR _ _ hw hR) (aB.all_add.2 ⟨hx,Dp hk hS hR⟩) (hK x)
  unfold dc at hr⊢;generalize (execOp a.eval o).run P w=r at *
  cases r with
  | ok n w' =>
   cases n<;>simp only[ez]at hr⊢
   case value u=>exact on _ _ hr
   case skip=>exact on _ _ hr
   case enter f args =>
    obtain⟨rfl,hc⟩:=hr;exact⟨rfl,hc.mono fun e w'' ⟨u,he,hG⟩=>⟨u,he,on _ _ hG⟩⟩
  | halt x w'=>simp only[ez]at hr
theorem sU {o:Oper}{a:Act}{w:World}{N:Act→World→Prop}{Q':Exit→Act→World→Prop}(h:dc P o a w fun u w'=>N (a.put o.dst u) w'):o.wp P a w N Q':=by
 unfold dc at h;unfold Oper.wp;generalize (execOp a.eval o).run P w=r at *
 cases r with
 | ok n w' =>
  cases n<;>simp only[ez]at h<;>simp only[Oper.upon]
  case value u=>exact h
  case skip=>exact h
  case enter f args =>
   obtain⟨rfl,hc⟩:=h;refine hc.mono fun e w'' ⟨u,he,hG⟩=>?_;subst he;exact hG
 | halt x w'=>simp only[ez]at h
theorem tB {listed:Array Bool}{X:Prop}(h:Region.ready md ops listed≠[]):Region.ready md ops listed=[]→X:=fun e=>absurd e h
theorem gY {Q':Exit→Act→World→Prop}(hCR:∀ w w',C w→R w w'→C w')(rest:Nat)(hQ:∀ listed S a w,C w→S.all w→Q listed S a→wpAny P md ops Q' rest listed a w):∀ (fuel:Nat) (listed:Array Bool) (S:aB) (a:Act) (w:World),S.kept R→C w→S.all w→iH P md ops C R F Q fuel listed S a→wpAny P md ops Q' (fuel+rest) listed a w
 | 0,_,_,_,w,_,hw,hS,h=>by rw[DE];exact hQ _ _ _ _ hw hS (h ⟨w,hw,hS⟩)
 | fuel+1,listed,S,a,w,hk,hw,hS,h=>by
  have h:=h ⟨w,hw,hS⟩;rw[show fuel+1+rest=(fuel+rest)+1 by omega];refine⟨tB h.1,fun i hi=>?_⟩;have h2:=h.2 i hi;unfold gOp at h2;unfold wpOp
  cases ho:ops[i]? with
  | none=>simp only[ho]at h2⊢;exact gY hCR rest hQ fuel _ S a w hk hw hS h2
  | some o =>
   simp only[ho]at h2⊢;obtain⟨g,hok,hK⟩:=h2
   by_cases hwant:Region.wanted o (yielded ops a.tmps)=true
   ·rw[if_pos hwant]
    exact .inl (sU (AK hCR hk hw hS hwant hok hK fun S' a' w' hk' hw' hS' hA=>gY hCR rest hQ fuel _ S' a' w' hk' hw' hS' hA))
   ·unfold dJ at hok
    rw[if_neg hwant]at hok⊢;subst hok;have hK:=hK ();simp only[bn.exact,Dc]at hK;exact gY hCR rest hQ fuel _ S _ w hk hw hS hK
theorem pf (hCR:∀ w w',C w→R w w'→C w'){i:Nat}{o:Oper}{S:aB}{a:Act}{g:bn R}(hk:S.kept R)(h:dJ P ops C R F i o S a g)(hI:Inh C S):∃ x,Inh C (S.add o (g.fact x)):=by
 obtain⟨w,hw,hS⟩:=hI;unfold dJ at h
 by_cases hwant:Region.wanted o (yielded ops a.tmps)=true
 ·rw[if_pos hwant]at h
  cases hF:F i with
  | none =>
   simp only[hF]at h;obtain⟨v,rfl,_⟩:=h;exact⟨(),w,hw,by simp only[bn.exact,Dc];exact hS⟩
  | some g' =>
   simp only[hF]at h;obtain⟨rfl,hr⟩:=h;have hr:=hr w hw (De hS);unfold dc at hr
   have on:∀ u w',(R w w'∧∃ x,u=g.val x∧∀ φ,g.fact x=some φ→φ w')→∃ x,Inh C (S.add o (g.fact x)):=by
    rintro u w' ⟨hR,x,rfl,hx⟩;exact⟨x,w',hCR _ _ hw hR,aB.all_add.2 ⟨hx,Dp hk hS hR⟩⟩
   generalize (execOp a.eval o).run P w=r at *
   cases r with
   | ok n w' =>
    cases n<;>simp only[ez]at hr
    case value u=>exact on _ _ hr
    case skip=>exact on _ _ hr
    case enter f args =>
     obtain⟨rfl,hc⟩:=hr;obtain⟨e,w'',_,⟨u,_,hG⟩,_⟩:=hc [];exact on _ _ hG
   | halt x w'=>simp only[ez]at hr
 ·rw[if_neg hwant]at h
  subst h;exact⟨(),w,hw,by simp only[bn.exact,Dc];exact hS⟩
theorem wX {i:Nat}{o:Oper}{S:aB}{a:Act}{g g':bn R}(h:dJ P ops C R F i o S a g)(h':dJ P ops C R F i o S a g')(hI:Inh C S):g=g':=by
 obtain⟨w,hw,hS⟩:=hI;unfold dJ at h h'
 by_cases hwant:Region.wanted o (yielded ops a.tmps)=true
 ·rw[if_pos hwant]at h h'
  cases hF:F i with
  | none =>
   simp only[hF]at h h';obtain⟨v,rfl,hv⟩:=h;obtain⟨v',rfl,hv'⟩:=h';have hv:=hv w hw (De hS);have hv':=hv' w hw (De hS);unfold ic at hv hv'
   have:v=v':=by
    generalize (execOp a.eval o).run P w=r at *
    cases r with
    | ok n w'=>cases n<;>simp only[fL]at hv hv'<;>grind
    | halt x w'=>simp only[fL]at hv
   rw[this]
  | some q =>
   simp only[hF]at h h';rw[h.1,h'.1]
 ·rw[if_neg hwant]at h h'
  rw[h,h']
theorem tV {i:Nat}{o:Oper}{S S':aB}{a:Act}{g:bn R}(h:dJ P ops C R F i o S a g)(hS:∀ p,S p→S' p):dJ P ops C R F i o S' a g:=by
 have hat:∀ w,S'.at ops o w→S.at ops o w:=fun w hw p hp=>hw p (hS p hp);unfold dJ at *
 split
 ·rename_i hwant
  rw[if_pos hwant]at h
  cases hF:F i with
  | none=>simp only[hF]at h⊢;obtain⟨v,e,hv⟩:=h;exact⟨v,e,fun w hw ha=>hv w hw (hat w ha)⟩
  | some q=>simp only[hF]at h⊢;exact⟨h.1,fun w hw ha=>h.2 w hw (hat w ha)⟩
 ·rename_i hwant
  rw[if_neg hwant]at h;exact h
theorem rL {j:Nat}{oi oj:Oper}{S:aB}{a:Act}{u:Value}{φ:Option (World→Prop)}{g:bn R}(hap:oi.apart ops oj=true)(hsj:∀ cs b,oj.op≠.select cs b)(h:dJ P ops C R F j oj (S.add oi φ) (a.put oi.dst u) g):dJ P ops C R F j oj S a g:=by
 obtain⟨h1,h2,h3⟩:=Oper.apart_spec hap
 have hat:∀ w,S.at ops oj w→(S.add oi φ).at ops oj w:=by
  rintro w hw p (⟨ψ,hψ,rfl⟩|hp) hap'
  ·simp only[hap]at hap';cases hap'
  ·exact hw p hp hap'
 unfold dJ dc ic at *;rw[wanted_put oj a oi.dst u h1,execOp_put oj hsj a oi.dst u h1]at h
 split
 ·rename_i hwant
  rw[if_pos hwant]at h
  cases hF:F j with
  | none=>simp only[hF]at h⊢;obtain⟨v,e,hv⟩:=h;exact⟨v,e,fun w hw ha=>hv w hw (hat w ha)⟩
  | some q=>simp only[hF]at h⊢;exact⟨h.1,fun w hw ha=>h.2 w hw (hat w ha)⟩
 ·rename_i hwant
  rw[if_neg hwant]at h;exact h
theorem tW {i:Nat}{oi oj:Oper}{S:aB}{a:Act}{u:Value}{g:bn R}(hap:oi.apart ops oj=true)(hsi:∀ cs b,oi.op≠.select cs b)(h:dJ P ops C R F i oi S a g):dJ P ops C R F i oi S (a.put oj.dst u) g:=by
 obtain⟨h1,h2,h3⟩:=Oper.apart_spec hap;unfold dJ dc ic at *;rw[wanted_put oi a oj.dst u h3,execOp_put oi hsi a oj.dst u h3];exact h
theorem pG (hCR:∀ w w',C w→R w w'→C w'){n i:Nat}{oi:Oper}(hi:ops[i]?=some oi)(hsel:∀ (j:Nat) (o:Oper) cs b,ops[j]?=some o→o.op≠.select cs b)(hin:i<n)(htail:∀ listed,HeadInv md ops n listed→∀ i,i<n→listed.getD i true=false→∀ j∈Region.ready md ops listed,j<n)(hdone:∀ listed S a,Q listed S a→∀ j∈Region.ready md ops listed,n≤j):∀ (fuel:Nat) (listed:Array Bool) (S:aB) (a:Act) (g:bn R),S.kept R→HeadInv md ops n listed → (∀ j oj,ops[j]?=some oj→j≠i→listed.getD j true=false→(∀ e∈oj.after,Region.binds md e=true→e.on≠i)→oi.apart ops oj=true) → i∈Region.ready md ops listed→dJ P ops C R F i oi S a g → (∀ x,iH P md ops C R F Q fuel (listed.setIfInBounds i true) (S.add oi (g.fact x)) (a.put oi.dst (g.val x)))→iH P md ops C R F Q (fuel+1) listed S a:=by
 intro fuel
 induction fuel with
 | zero =>
  intro listed S a g hk inv _ hr hok H hI;have hun:=(mem_ready.1 hr).1;refine⟨fun h=>(by rw[h]at hr;cases hr),fun j hj=>?_⟩;have hjn:=htail listed inv i hin hun j hj
  by_cases hji:j=i
  ·subst hji;unfold gOp;simp only[hi];exact⟨g,hok,H⟩
  ·obtain⟨x,hx⟩:=pf hCR hk hok hI
   have:=hdone _ _ _ (H x hx) j (ready_mono hj hji);omega
 | succ fuel ih =>
  intro listed S a g hk inv hfree hr hok H hI;have hun:=(mem_ready.1 hr).1;refine⟨fun h=>(by rw[h]at hr;cases hr),fun j hj=>?_⟩;have hjn:=htail listed inv i hin hun j hj
  by_cases hji:j=i
  ·subst hji;unfold gOp;simp only[hi];exact⟨g,hok,H⟩
  ·obtain⟨hjun,oj,hoj,hall⟩:=mem_ready.1 hj
   have hnot:∀ e∈oj.after,Region.binds md e=true→e.on≠i:=fun e he hb heq=>by
    have h1:=hall e he hb;rw[heq,getD_both hun]at h1
    cases h1
   have hap:=hfree j oj hoj hji hjun hnot;have hsi:∀ cs b,oi.op≠.select cs b:=fun cs b=>hsel i oi cs b hi;have hsj:∀ cs b,oj.op≠.select cs b:=fun cs b=>hsel j oj cs b hoj
   have hfree':∀ k ok,ops[k]?=some ok→k≠i→(listed.setIfInBounds j true).getD k true=false →
     (∀ e∈ok.after,Region.binds md e=true→e.on≠i)→oi.apart ops ok=true:=fun k ok hk hki hun hno=>by
    refine hfree k ok hk hki ?_ hno
    by_cases hjk:j=k
    ·subst hjk;exact hjun
    ·rw[getD_set_ne true hjk]at hun;exact hun
   have step:∀ x,Inh C (S.add oi (g.fact x))→∃ gj,dJ P ops C R F j oj S a gj∧∀ y,iH P md ops C R F Q fuel ((listed.setIfInBounds i true).setIfInBounds j true) ((S.add oi (g.fact x)).add oj (gj.fact y)) ((a.put oi.dst (g.val x)).put oj.dst (gj.val y)):=by
    intro x hx;have h2:=(H x hx).2 j (ready_mono hj hji);unfold gOp at h2;simp only[hoj]at h2;obtain⟨gj,hgj,hK⟩:=h2;exact⟨gj,rL hap hsj hgj,hK⟩
   obtain⟨x1,hx1⟩:=pf hCR hk hok hI;obtain⟨gj,hgj,_⟩:=step x1 hx1;unfold gOp;simp only[hoj];refine⟨gj,hgj,fun y=>?_⟩
   refine ih (listed.setIfInBounds j true) (S.add oj (gj.fact y)) (a.put oj.dst (gj.val y)) g (Dh hk oj gj y) (inv.set hj hjn) hfree' (ready_mono hr (Ne.symm hji))
    (tW hap hsi (tV hok fun p hp=>.inr hp)) fun x=>sW fun hI2=>?_
   have hx:Inh C (S.add oi (g.fact x)):=by
    obtain⟨w,hw,hS⟩:=hI2;rw[aB.add_comm]at hS;exact⟨w,hw,(aB.all_add.1 hS).2⟩
   obtain⟨gj',hgj',hK⟩:=step x hx;obtain rfl:=wX hgj hgj' hI;have:=hK y;rw[aB.add_comm,Act.put_comm a _ _ (fun d hd=>(Oper.apart_spec hap).2.1 d hd),Array.setIfInBounds_comm _ _ (Ne.symm hji)]at this;exact this
def wpG (P:Program)(ops:Array Oper)(C:World→Prop)(R:World→World→Prop)(F:Nat→Option (bn R))(Q:aB→Act→Prop):Nat→List Oper→aB→Act→Prop
 | _,[],S,a=>Q S a
 | k,o::rest,S,a=>if Region.wanted o (yielded ops a.tmps)=true then
   match F k with
   | none=>∃ v,(∀ w,C w→S.at ops o w→ic P o a w v)∧wpG P ops C R F Q (k+1) rest S (a.put o.dst v)
   | some g=>(∀ w,C w→S.at ops o w→dc P o a w fun u w'=>R w w'∧∃ x,u=g.val x∧∀ φ,g.fact x=some φ→φ w')∧∀ x,wpG P ops C R F Q (k+1) rest (S.add o (g.fact x)) (a.put o.dst (g.val x))
  else wpG P ops C R F Q (k+1) rest S (a.put o.dst undef)
theorem zX {Q:aB→Act→Prop}{k:Nat}{o:Oper}{rest:List Oper}{S:aB}{a:Act}(h:wpG P ops C R F Q k (o::rest) S a):∃ g,dJ P ops C R F k o S a g∧∀ x,wpG P ops C R F Q (k+1) rest (S.add o (g.fact x)) (a.put o.dst (g.val x)):=by
 unfold wpG at h;unfold dJ
 split at h
 ·rename_i hwant
  simp only[hwant,if_true]
  cases hF:F k with
  | none=>simp only[hF]at h;obtain⟨v,h1,h2⟩:=h;exact⟨.exact R v,⟨v,rfl,h1⟩,fun _=>by simpa only[bn.exact,Dc] using h2⟩
  | some g=>simp only[hF]at h;exact⟨g,⟨rfl,h.1⟩,h.2⟩
 ·rename_i hwant
  exact⟨.exact R undef,by rw[if_neg hwant],fun _=>by simpa only[bn.exact,Dc] using h⟩
theorem my {Q:aB→Act→Prop}(hCR:∀ w w',C w→R w w'→C w'){n g:Nat}(hs:Region.noSelect ops=true)(htail:∀ listed,HeadInv md ops n listed→∀ i,i<n→listed.getD i true=false→∀ j∈Region.ready md ops listed,j<n):∀ (l:List Oper) (k:Nat) (listed:Array Bool) (S:aB) (a:Act),S.kept R→(∀ j,j<l.length→l[j]?=ops[k+j]?)→k+l.length=n→HeadInv md ops n listed → Region.lexHead md ops g l.length k listed=true→wpG P ops C R F Q k l S a→iH P md ops C R F (fun listed' S' a'=>Region.seqB md ops g n listed'=true∧Q S' a') l.length listed S a
 | [],k,listed,_,_,_,_,hk,_,hB,h=>fun _=>by
  have:k=n:=by simpa using hk
  subst this;exact⟨by simpa[Region.lexHead] using hB,h⟩
 | o::l,k,listed,S,a,hk,hl,hkn,inv,hB,h=>by
  have h0:ops[k]?=some o:=by simpa using (hl 0 (by simp)).symm
  simp only[Du,Region.lexHead,DS]at hB;obtain⟨⟨hr,hf⟩,hB'⟩:=hB;have hkn':k<n:=by simp only[Du]at hkn;omega
  have hr':k∈Region.ready md ops listed:=by simpa using hr
  obtain⟨gg,hg,hK⟩:=zX h
  exact pG hCR h0 (Region.noSelect_spec hs) hkn' htail (fun listed' S' a' hL=>seqB_ready hL.1) l.length listed S a gg hk inv (Region.free_spec h0 hf) hr' hg
   fun x=>my hCR hs htail l (k+1) _ _ _ (Dh hk o gg x) (fun j hj=>by have:=hl (j+1) (by simp;omega);simpa[Dy,Nat.add_comm 1 j] using this) (by simp only[Du]at hkn;omega) (inv.set hr' hkn') hB' (hK x)
def jJ (ops:Array Oper)(n:Nat):Bool :=
 Region.noSelect ops&&(decide (n=ops.size)||(decide (n<ops.size)&&Region.sinkB .any ops n&&Region.chainB .any ops n))&&Region.lexHead .any ops (ops.size-n) n 0 (Array.replicate ops.size false)
theorem tb {n:Nat}(h:jJ ops n=true):Region.noSelect ops=true∧n≤ops.size∧Region.lexHead .any ops (ops.size-n) n 0 (Array.replicate ops.size false)=true ∧∀ listed,HeadInv .any ops n listed→∀ i,i<n→listed.getD i true=false→∀ j∈Region.ready .any ops listed,j<n:=by
 simp only[jJ,DS,Bool.or_eq_true,decide_eq_true_eq]at h;obtain⟨⟨hs,hn⟩,hl⟩:=h;rcases hn with rfl|⟨⟨hn,h1⟩,h2⟩
 ·exact⟨hs,DC _,hl,fun listed _ i _ _ j hj=>by obtain⟨_,o,ho,_⟩:=mem_ready.1 hj;exact(Array.getElem?_eq_some_iff.1 ho).1⟩
 ·refine⟨hs,DA hn,hl,fun listed inv i hi hun j hj=>?_⟩
  rcases Nat.lt_or_ge j n with h|h
  ·exact h
  ·exact absurd hj (tail_waits h1 h2 hn inv _ i rfl hi hun j h)
theorem fk {id:Nat}{Q:Exit→Act→World→Prop}{a:Act}{w:World}{l:List Oper}(F:Nat→Option (bn R))(n:Nat)(hm:P.follows .mixedOrders=true)(hB:jJ l.toArray n=true)(hCR:∀ w w',C w→R w w'→C w')(hC:C w.drew)(h:wpG P l.toArray C R F (fun S a'=>∀ w',C w'→S.all w'→wpList P l.toArray Q (l.drop n) a' w') 0 (l.take n) aB.none a):(Code.region id l.toArray true).wp P Q a w:=by
 obtain⟨hs,hn,hlex,htail⟩:=tb hB;have hk:aB.none.kept R:=fun p hp=>hp.elim;have ha:∀ w',aB.none.all w':=fun w' p hp=>hp.elim;have hn':n≤l.length:=by simpa using hn
 have htl:(l.take n).length=n:=by simp;omega
 have hdl:(l.drop n).length=l.toArray.size-n:=by simp
 have inv0:HeadInv .any l.toArray n (Array.replicate l.toArray.size false) :=
  ⟨by simp,fun j oj _ hl=>(by rw[getD_replicate_false]at hl;cases hl),fun t _ ht=>getD_in (by simpa using ht) (getD_replicate_false _ _)⟩
 have H:=my hCR hs htail (l.take n) 0 _ aB.none a hk (fun j hj=>by
  have hj':j<n:=by rw[htl]at hj;exact hj
  simp[hj']) (by simpa using htl) inv0 (by rw[htl];exact hlex) h
 have:=gY (Q':=Q) hCR (l.toArray.size-n) (fun listed S a' w' hw hS hL=>by
  have:=wpAny_of_seq (md:=.any) (Q':=Q) (l.drop n) n listed a' w' (fun j=>by simp[List.getElem?_drop]) (by rw[hdl];exact hL.1) (hL.2 w' hw hS)
  rwa [hdl]at this) _ _ _ _ _ hk hC (ha _) H
 rw[htl,show n+(l.toArray.size-n)=l.toArray.size by omega]at this;exact wp_region_any hm this
end
end
section
attribute [go_sem] dc ez
def Bel (w w':World):Prop:=Below w.heap.size w w'
theorem Bel.refl (w:World):Bel w w:=DF _ _
theorem Bel.trans {a b c:World}(h:Bel a b)(k:Bel b c):Bel a c:=bt h k
def gp {R:World→World→Prop}:List (Nat×bn R)→Nat→Option (bn R)
 | [],_=>none
 | (n,g)::l,k=>if n=k then some g else gp l k
def mm:Op→Bool
 | .move _|.assign _|.pick ..|.load ..|.binOp ..|.unOp ..|.convert ..|.slice ..|.fieldAddr ..|.field ..|.indexAddr ..|.index ..|.extract ..|.build ..|.makeInterface ..|.makeFunc ..=>true
 | .call { callee:=.builtin .len,.. }|.call { callee:=.builtin .cap,.. }|.call { callee:=.builtin .min,.. }|.call { callee:=.builtin .max,.. }=>true
 | _=>false
section
variable {P:Program}{ops:Array Oper}{C:World→Prop}{R:World→World→Prop}{F:Nat→Option (bn R)}{Q:aB→Act→Prop}
theorem ni {α:Type}{r:Result α}{g:α→Value}{f:FuncId}{args:Array Value}{w:World}:r.andThen (fun x w=>.ok (Next.value (g x)) w)≠.ok (.enter f args) w:=by
 cases r<;>simp[Result.andThen]
theorem mT {ρ:Operand→Value}{o:Oper}(h:mm o.op=true){w w':World}{f:FuncId}{args:Array Value}:(execOp ρ o).run P w≠.ok (.enter f args) w':=by
 unfold execOp;unfold mm at h
 split at h
 all_goals first
  | (rename_i he;simp only[he];simp only[Sem.run_bind,Sem.run_pure];first|exact ni|exact ni (g:=fun x=>x)|(simp;done))
  | (rename_i he;simp only[he,resolve,invoke,builtin,Sem.run_bind,Sem.run_pure,Result.andThen_ok];exact ni (g:=fun x=>x))
  | cases h
theorem lZ {o:Oper}{a:Act}{C':World→Prop}{w:World}{v:Value}(hp:mm o.op=true)(h:o.quietAt P a C' w v):ic P o a w v:=by
 unfold Oper.quietAt at h;unfold ic;have hne:=fun f args w'=>mT (P:=P) (ρ:=a.eval) hp (w:=w) (w':=w') (f:=f) (args:=args);generalize (execOp a.eval o).run P w=r at *
 cases r with
 | ok n w' =>
  cases n<;>simp only[Oper.quietUpon]at h<;>simp only[fL]
  case value u=>exact h
  case skip=>exact h
  case enter f args=>exact absurd rfl (hne f args w')
 | halt x w'=>simp only[Oper.quietUpon]at h
theorem wpG_skip {k:Nat}{o:Oper}{rest:List Oper}{S:aB}{a:Act}(hw:Region.wanted o (yielded ops a.tmps)=false)(h:∀ K:Act→Prop,(∀ a,wpG P ops C R F Q (k+1) rest S a→K a)→wpQuiet P ops C K [o] a):wpG P ops C R F Q k (o::rest) S a:=by
 have:=h _ fun _ h=>h;unfold wpQuiet at this;rw[if_neg (by rw[hw];exact Bool.false_ne_true)]at this;unfold wpG;rw[if_neg (by rw[hw];exact Bool.false_ne_true)];exact this
theorem wpG_quiet {k:Nat}{o:Oper}{rest:List Oper}{S:aB}{a:Act}(hF:F k=none)(hp:mm o.op=true)(h:∀ K:Act→Prop,(∀ a,wpG P ops C R F Q (k+1) rest S a→K a)→wpQuiet P ops (fun _=>True) K [o] a):wpG P ops C R F Q k (o::rest) S a:=by
 have:=h _ fun _ h=>h;unfold wpQuiet at this;unfold wpG
 split
 ·rename_i hw
  rw[if_pos hw]at this;obtain⟨v,h1,h2⟩:=this;simp only[hF];exact⟨v,fun w hw _=>lZ hp (h1 w trivial),h2⟩
 ·rename_i hw
  rw[if_neg hw]at this;exact this
theorem aP {k:Nat}{o:Oper}{rest:List Oper}{S:aB}{a:Act}(g:bn R)(hF:F k=some g)(hw:Region.wanted o (yielded ops a.tmps)=true)(h1:∀ (w':World) (G:Value→World→Prop),C w'→S.at ops o w'→(∀ x w'',R w' w''→(∀ φ,g.fact x=some φ→φ w'')→G (g.val x) w'')→dc P o a w' G)(h2:∀ x (K:Act→Prop),(∀ a,wpG P ops C R F Q (k+1) rest (S.add o (g.fact x)) a→K a)→K (a.put o.dst (g.val x))):wpG P ops C R F Q k (o::rest) S a:=by
 unfold wpG;rw[if_pos hw];simp only[hF];exact⟨fun w' hC hS=>h1 w' _ hC hS fun x w'' hR hφ=>⟨hR,x,rfl,hφ⟩,fun x=>h2 x _ fun _ h=>h⟩
theorem aj {k:Nat}{o:Oper}{rest:List Oper}{S:aB}{a:Act}{v:Value}(hF:F k=some (.exact R v))(hw:Region.wanted o (yielded ops a.tmps)=true)(h1:∀ (w':World) (G:Value→World→Prop),C w'→S.at ops o w'→(∀ w'',R w' w''→G v w'')→dc P o a w' G)(h2:∀ (K:Act→Prop),(∀ a,wpG P ops C R F Q (k+1) rest S a→K a)→K (a.put o.dst v)):wpG P ops C R F Q k (o::rest) S a:=by
 refine aP (.exact R v) hF hw (fun w' G hC hS hG=>h1 w' G hC hS fun w'' hR=>hG () w'' hR (fun _ h=>by cases h)) (fun x K hK=>h2 K fun a ha=>hK a ?_);simp only[bn.exact,Dc];exact ha
theorem wpG_nilOk {k:Nat}{o:Oper}{rest:List Oper}{S:aB}{a:Act}{x:Operand}{p:Addr}(hF:F k=none)(ho:o.op=.nilCheck x)(hx:a.eval x=.pointer (some p))(hw:Region.wanted o (yielded ops a.tmps)=true)(h:∀ (K:Act→Prop),(∀ a,wpG P ops C R F Q (k+1) rest S a→K a)→K (a.put o.dst (.pointer (some p)))):wpG P ops C R F Q k (o::rest) S a:=by
 unfold wpG;rw[if_pos hw];simp only[hF];refine⟨.pointer (some p),fun w _ _=>?_,h _ fun _ h=>h⟩;unfold ic execOp;rw[ho];simp only[hx,Sem.run_pure,fL,and_self]
theorem at0 {S:aB}{o o':Oper}{φ:World→Prop}{w:World}(h:(S.add o (some φ)).at ops o' w)(ha:o.apart ops o'=false):φ w:=(aB.at_some h).1 ha
theorem CN {S:aB}{o o':Oper}{φ:Option (World→Prop)}{w:World}(h:(S.add o φ).at ops o' w):S.at ops o' w:=fun p hp=>h p (.inr hp)
theorem at1 {S:aB}{o o' o1:Oper}{φ:World→Prop}{φ1:Option (World→Prop)}{w:World}(h:((S.add o (some φ)).add o1 φ1).at ops o' w)(ha:o.apart ops o'=false):φ w:=at0 (CN h) ha
theorem oA {S:aB}{o:Oper}{φ:World→Prop}{w:World}(h:(S.add o (some φ)).all w):φ w:=(aB.all_some.1 h).1
theorem ay {id:Nat}{Q:Exit→Act→World→Prop}{a:Act}{w:World}{l:List Oper}(L:List (Nat×bn Bel))(hm:P.follows .mixedOrders=true)(hB:jJ l.toArray l.length=true)(h:wpG P l.toArray (Bel w) Bel (gp L) (fun S a'=>∀ w',Bel w w'→S.all w'→Q .normal a' w') 0 l aB.none a):(Code.region id l.toArray true).wp P Q a w :=
 fk (gp L) l.length hm hB (fun _ _ h k=>Bel.trans h k) (b_drew w) (by rw[List.take_length,List.drop_length];exact h)
theorem ba {id:Nat}{Q:Exit→Act→World→Prop}{a:Act}{w:World}{l:List Oper}(n:Nat)(L:List (Nat×bn Bel))(hm:P.follows .mixedOrders=true)(hB:jJ l.toArray n=true)(h:wpG P l.toArray (Bel w) Bel (gp L) (fun S a'=>∀ w',Bel w w'→S.all w'→wpList P l.toArray Q (l.drop n) a' w') 0 (l.take n) aB.none a):(Code.region id l.toArray true).wp P Q a w :=
 fk (gp L) n hm hB (fun _ _ h k=>Bel.trans h k) (b_drew w) h
theorem aO {f:FuncId}{args:Array Value}{w:World}{v:Value}{G:Value→World→Prop}(hG:∀ w'',Bel w w''→G v w'')(h:Calls P f args w fun e w'=>e=.returned v∧Below w.heap.size w w'):Calls P f args w fun e w''=>∃ u,e=.returned u∧G u w'':=h.mono fun _ _ ⟨he,hb⟩=>⟨v,he,hG _ hb⟩
end
theorem cG {T T':Prop}(k:T')(h:Hid T'→T:=by intro k;(repeat(first|(refine wpG_skip (by kernel_rfl) (fun K hK=>?_);go_big_quiet_skip;refine wpQuiet_nil (hK _ ?_);clear hK K)|(refine wpG_quiet (by rfl) (by rfl) (fun K hK=>?_);go_big_quiet_want;go_big_quiet_op;go_big_quiet_on;refine wpQuiet_nil (hK _ ?_);clear hK K)|(refine wpG_nilOk rfl rfl rfl (by kernel_rfl) (fun K hK=>?_);go_simp;refine hK _ ?_;clear hK K)));exact k.o):T:=h k
theorem cO {T T':Prop}(k:T')(h:Hid T'→T:=by intro k;go_simp;refine hK _ ?_;(repeat(first|(refine wpG_skip (by kernel_rfl) (fun K hK=>?_);go_big_quiet_skip;refine wpQuiet_nil (hK _ ?_);clear hK K)|(refine wpG_quiet (by rfl) (by rfl) (fun K hK=>?_);go_big_quiet_want;go_big_quiet_op;go_big_quiet_on;refine wpQuiet_nil (hK _ ?_);clear hK K)|(refine wpG_nilOk rfl rfl rfl (by kernel_rfl) (fun K hK=>?_);go_simp;refine hK _ ?_;clear hK K)));exact k.o):T:=h k
theorem gE_ {P:Program}{ops:Array Oper}{C:World→Prop}{R:World→World→Prop}{F:Nat→Option (bn R)}{Q:aB→Act→Prop}{k:Nat}{o:Oper}{rest:List Oper}{S:aB}{a:Act}{v:Value}(h1:∀ (w':World) (G:Value→World→Prop),C w'→S.at ops o w'→(∀ w'',R w' w''→G v w'')→dc P o a w' G)(h2:∀ (K:Act→Prop),(∀ a,wpG P ops C R F Q (k+1) rest S a→K a)→K (a.put o.dst v))(hF:F k=some (.exact R v):=by rfl)(hw:Region.wanted o (yielded ops a.tmps)=true:=by kernel_rfl):wpG P ops C R F Q k (o::rest) S a:=aj hF hw h1 h2
theorem gk_ {P:Program}{ops:Array Oper}{C:World→Prop}{R:World→World→Prop}{F:Nat→Option (bn R)}{Q:aB→Act→Prop}{k:Nat}{o:Oper}{rest:List Oper}{S:aB}{a:Act}(g:bn R)(h1:∀ (w':World) (G:Value→World→Prop),C w'→S.at ops o w'→(∀ x w'',R w' w''→(∀ φ,g.fact x=some φ→φ w'')→G (g.val x) w'')→dc P o a w' G)(h2:∀ x (K:Act→Prop),(∀ a,wpG P ops C R F Q (k+1) rest (S.add o (g.fact x)) a→K a)→K (a.put o.dst (g.val x)))(hF:F k=some g:=by rfl)(hw:Region.wanted o (yielded ops a.tmps)=true:=by kernel_rfl):wpG P ops C R F Q k (o::rest) S a:=aP g hF hw h1 h2
theorem rk_ {P:Program}{id:Nat}{Q:Exit→Act→World→Prop}{a:Act}{w:World}{l:List Oper}(L:List (Nat×bn Bel))(h:wpG P l.toArray (Bel w) Bel (gp L) (fun S a'=>∀ w',Bel w w'→S.all w'→Q .normal a' w') 0 l aB.none a)(hm:P.follows .mixedOrders=true:=by kernel_rfl)(hB:jJ l.toArray l.length=true:=by kernel_rfl):(Code.region id l.toArray true).wp P Q a w:=ay L hm hB h
end
section
section
variable {P:Program}
theorem cV {X:Nat→Prop}{w w':World}{bZ:Nat}{e:TypeId}{size:Nat}{v:Value}{n:Nat}{xs:List Value}(h:w.ownsRow bZ e size v n xs)(hc:Chg X w w')(hX:∀ k,bZ≤k→¬X k):w'.ownsRow bZ e size v n xs:=by
 obtain⟨h1,h2⟩:=h;refine⟨h1,?_⟩;rcases h2 with h2|⟨g,cap,cur,hv,hg,hh,r⟩
 ·exact .inl h2
 ·exact .inr ⟨g,cap,cur,hv,hg,hc.at hh (hX g hg),r⟩
theorem pB {F:Fence}{k:Nat}{ops:Array Oper}{rest:List Oper}{o:Oper}{a:Act}{Q:Exit→Act→World→Prop}(wr:World)(news:List Value)(e:TypeId)(hgd:o.guard=none)(s x:Operand)(t:TypeId)(ho:o.op=.call { callee:=.builtin .append,args:=#[s,x],argTypes:=#[t,t] })(bZ:Nat)(z:Value)(size bytes:Nat)(ht:P.underlying t=some (.slice e))(hinfo:(P.info? e).map (fun i=>(i.zero,i.size,i.bytes))=some (some z,size,bytes))(hzs:z.cells.size=size)(hsz:0<size)(v:Value)(n:Nat)(xs:List Value)(hs:a.eval s=v)(hown:wr.ownsRow bZ e size v n xs)(c:Nat)(hx:a.eval x=.slice (some ⟨wr.heap.size,0,none⟩) 1 c)(hl:news.length=size)(h1:∀ u∈news,u.oneCell'=true)(hbytes:(n+1)*bytes≤140737488355328)(hby:0<bytes)(hbase:bZ≤wr.heap.size)(h:∀ g cap w',w'.ownsRow bZ e size (.slice (some ⟨g,0,none⟩) (n+1) cap) (n+1) (xs++news)→Below bZ wr w'→wpListIn F k P ops Q rest (a.put o.dst (.slice (some ⟨g,0,none⟩) (n+1) cap)) w'):wpListIn F k P ops Q (o::rest) a (wr.alloc (.cells news.toArray e)):=by
 obtain⟨i,hi,hz,hi1,hi2⟩:=info_parts hinfo;have hn:n+1≤(n+1)*bytes:=Nat.le_mul_of_pos_right _ hby;refine wpListIn_append_own _ hgd s x t ho bZ e i z size bytes ht hi hz hi1 hi2 hzs hsz v n xs hs (hown.alloc _) ⟨wr.heap.size,0,none⟩ 1 c news hx (by simpa using hl) ?_ h1 (by unfold maxLen;omega) hbytes (by simp;omega) ?_
 ·exact Gj
 ·intro v' w' h2 h3 _
  obtain⟨g,cap,rfl⟩:=ownsRow_succ h2;exact GI
def iu (s bZ:Nat)(t e:TypeId)(size:Nat)(U:World)(n:Nat)(cells:List Value):Prop:=∃ v,U.heap[s]?=some (.cells #[v] t (0,0))∧U.ownsRow bZ e size v n cells
theorem iu.chg {s bZ:Nat}{t e:TypeId}{size:Nat}{U U':World}{n:Nat}{cells:List Value}{X:Nat→Prop}(h:iu s bZ t e size U n cells)(hc:Chg X U U')(hX:∀ k,X k→k≠s∧k<bZ):iu s bZ t e size U' n cells:=by
 obtain⟨v,h1,h2⟩:=h;exact⟨v,hc.at h1 fun hx=>(hX s hx).1 rfl,cV h2 hc fun k hk hx=>by have:=(hX k hx).2;omega⟩
theorem iu.stored {s bZ g cap:Nat}{t e:TypeId}{size:Nat}{U W:World}{v:Value}{n:Nat}{cells:List Value}(hsb:s<bZ)(hs:U.heap[s]?=some (.cells #[v] t (0,0)))(hB:Below bZ U W)(hown:W.ownsRow bZ e size (.slice (some ⟨g,0,none⟩) n cap) n cells):iu s bZ t e size (W.setCell ⟨s,0,none⟩ (.slice (some ⟨g,0,none⟩) n cap)) n cells∧Chg (fun k=>k=s∨bZ≤k) U (W.setCell ⟨s,0,none⟩ (.slice (some ⟨g,0,none⟩) n cap)) :=
 ⟨⟨_,one_setCell (v:=v) ((hB.block s hsb).trans hs),ownsRow_setCell_below hown hsb _⟩,(Dn hB fun k hk=>.inr hk).trans (Chg.setCell _ _ _ (.inl rfl))⟩
def eP (n:Nat)(cells:List Value):bn Bel:=⟨Option Addr×Nat,fun x=>.slice x.1 n x.2,fun x=>some fun w=>aJ w (.slice x.1 n x.2) n cells,fun _ _ h _ _ hφ hB=>by cases h;exact aJ.below hφ hB⟩
@[go_sem] theorem BB (n:Nat) (cells:List Value) (a:Option Addr) (c:Nat):(eP n cells).val (a,c)=.slice a n c:=rfl
theorem gN {w':World}{G:Value→World→Prop}{n:Nat}{cells:List Value}{cs:Array Value}{e:TypeId}(hG:∀ x w'',Bel w' w''→(∀ φ,(eP n cells).fact x=some φ→φ w'')→G ((eP n cells).val x) w'')(hcs:cs=cells.toArray):G (.slice (some ⟨w'.heap.size,0,none⟩) n n) (w'.alloc (.cells cs e)):=by
 subst hcs;exact hG (some ⟨w'.heap.size,0,none⟩,n) _ (af w' _) (fun φ h=>by cases h;exact aJ.new w' cells n e n)
theorem cE {f:FuncId}{fn:Func}{c:Code}{args:Array Value}{w:World}{R:Ending→World→Prop}(hf:P.funcs[f]?=some fn)(hb:fn.body=some c)(h:c.wp P (bodyPostM Fence.wide 1 P fn R) { tmps:=args++Array.replicate (fn.ntmps-args.size) undef,defers:=[] } w):Calls P f args w R :=
 (callsIn_wide (n:=1)).1 (callsIn_of_wp_marks (F:=Fence.wide) hf hb trivial (wpIn_wide.2 h))
theorem fD {fn:Func}{R:Ending→World→Prop}{a:Act}{w:World}{D:Nat}{v:Value}(hd:a.defers=[{ target:=.collected D,args:=#[] }])(hK:w.heap[D]?=some (.deferred (some [])))(hr:(results fn a.tmps).run P (w.putObj D (.deferred none))=.ok v (w.putObj D (.deferred none)))(hR:R (.returned v) (w.putObj D (.deferred none))):bodyPostM Fence.wide 1 P fn R .ret a w:=by
 unfold bodyPostM;simp only[hd];exact⟨by simp,.inl ⟨_,_,rfl,run_takeDeferred hK,v,hr,hR⟩⟩
theorem tX {fn:Func}{R:Ending→World→Prop}{a:Act}{w:World}{v:Value}(hd:a.defers=[])(hr:(results fn a.tmps).run P w=.ok v w)(hR:R (.returned v) w):bodyPostM Fence.wide 1 P fn R .ret a w:=by
 unfold bodyPostM;simp only[hd];exact⟨v,hr,hR⟩
end
end
section
def qe (md:Region.Mode)(ops:Array Oper):Bool :=
 (List.range ops.size).all fun i=>match ops[i]? with
  | some o=>o.after.all fun e=>!Region.binds md e||decide (e.on<i)
  | none=>true
def kK (P:Program)(md:Region.Mode)(ops:Array Oper)(I:Array Bool→Act→World→Prop)(Q:Exit→Act→World→Prop):Nat→List Oper→Prop
 | _,[]=>True
 | k,o::rest=>(∀ listed a w,I listed a w→listed.getD k true=false→(∀ e∈o.after,Region.binds md e=true→listed.getD e.on false=true) →
   (if Region.wanted o (yielded ops a.tmps)=true then o.wp P a w (fun a' w'=>I (listed.setIfInBounds k true) a' w') Q else I (listed.setIfInBounds k true) (a.put o.dst undef) w))∧kK P md ops I Q (k+1) rest
section
variable {P:Program}{md:Region.Mode}{ops:Array Oper}{I:Array Bool→Act→World→Prop}{Q:Exit→Act→World→Prop}
theorem lR:∀ (l:List Oper) (k i:Nat) (o:Oper),kK P md ops I Q k l→l[i]?=some o → ∀ listed a w,I listed a w→listed.getD (k+i) true=false→(∀ e∈o.after,Region.binds md e=true→listed.getD e.on false=true) → (if Region.wanted o (yielded ops a.tmps)=true then o.wp P a w (fun a' w'=>I (listed.setIfInBounds (k+i) true) a' w') Q else I (listed.setIfInBounds (k+i) true) (a.put o.dst undef) w)
 | [],_,_,_,_,h=>by simp at h
 | o::l,k,0,o',hs,h=>by
  simp only[List.getElem?_cons_zero,Option.some.injEq]at h;subst h;exact hs.1
 | o::l,k,i+1,o',hs,h=>by
  have:=lR l (k+1) i o' hs.2 (by simpa using h);rw[show k+(i+1)=k+1+i by omega];exact this
theorem nW (hl:qe md ops=true){listed:Array Bool}(hs:listed.size=ops.size)(hr:Region.ready md ops listed=[]):∀ n i,i<n→i<ops.size→listed.getD i false=true:=by
 intro n
 induction n with
 | zero=>intro i h;omega
 | succ n ih =>
  intro i hi his;have ho:ops[i]?=some ops[i]:=Array.getElem?_eq_getElem his;have h1:=List.all_eq_true.1 hl i (List.mem_range.2 his);simp only[ho,Array.all_eq_true_iff_forall_mem]at h1
  cases hb:listed.getD i true with
  | true =>
   have hx:i<listed.size:=by omega
   simp only[Array.getD_eq_getD_getElem?,Array.getElem?_eq_getElem hx,Option.getD_some]at hb⊢;exact hb
  | false =>
   have:i∈Region.ready md ops listed:=mem_ready.2 ⟨hb,_,ho,fun e he hbi=>by
    have h2:=h1 e he;rw[hbi]at h2;have h3:e.on<i:=by simpa using h2
    exact ih e.on (by omega) (by omega)⟩
   rw[hr]at this
   cases this
theorem iZ:∀ (l:List Bool) (i:Nat),l[i]?=some false→(l.set i true).count false+1=l.count false
 | [],_,h=>by simp at h
 | b::l,0,h=>by simp at h;subst h;simp
 | b::l,i+1,h=>by
  have:=iZ l i (by simpa using h)
  cases b<;>simp[List.set_cons_succ,List.count_cons]<;>omega
theorem vy (hlex:qe md ops=true)(hend:∀ listed a w,I listed a w→listed.size=ops.size→(∀ i,i<ops.size→listed.getD i false=true)→Q .normal a w)(hstep:kK P md ops I Q 0 ops.toList):∀ (fuel:Nat) (listed:Array Bool) (a:Act) (w:World),listed.size=ops.size→listed.toList.count false≤fuel→I listed a w→wpAny P md ops Q fuel listed a w:=by
 intro fuel
 induction fuel with
 | zero =>
  intro listed a w hs hc hI
  have hr:Region.ready md ops listed=[]:=by
   rw[List.eq_nil_iff_forall_not_mem];intro j hj;obtain⟨h1,o,h2,_⟩:=mem_ready.1 hj;have hjs:j<listed.size:=by rw[hs];exact(Array.getElem?_eq_some_iff.1 h2).1
   have:false∈listed.toList:=by
    simp only[Array.getD_eq_getD_getElem?,Array.getElem?_eq_getElem hjs,Option.getD_some]at h1;rw[←h1];simp
   have:=List.count_pos_iff.2 this;omega
  exact⟨hr,hend listed a w hI hs fun i hi=>nW hlex hs hr (i+1) i (by omega) hi⟩
 | succ fuel ih =>
  intro listed a w hs hc hI;refine⟨fun hr=>hend listed a w hI hs fun i hi=>nW hlex hs hr (i+1) i (by omega) hi,fun i hi=>?_⟩;obtain⟨h1,o,h2,h3⟩:=mem_ready.1 hi;have his:i<listed.size:=by rw[hs];exact(Array.getElem?_eq_some_iff.1 h2).1
  have hget:listed.toList[i]?=some false:=by
   simp only[Array.getD_eq_getD_getElem?,Array.getElem?_eq_getElem his,Option.getD_some]at h1;rw[Array.getElem?_toList,Array.getElem?_eq_getElem his,h1]
  have hcc:=iZ _ _ hget
  have hnext:∀ a' w',I (listed.setIfInBounds i true) a' w'→wpAny P md ops Q fuel (listed.setIfInBounds i true) a' w':=fun a' w' hI' =>
   ih _ a' w' (by simpa using hs) (by rw[Array.toList_setIfInBounds];omega) hI'
  have hk:=lR ops.toList 0 i o hstep (by simpa using h2) listed a w hI (by simpa using h1) h3;rw[DE]at hk;unfold wpOp;simp only[h2]
  split
  ·rename_i hw
   rw[if_pos hw]at hk;exact .inl (Oper.wp_mono hnext hk)
  ·rename_i hw
   rw[if_neg hw]at hk;exact hnext _ _ hk
theorem mL {id:Nat}{a:Act}{w:World}{l:List Oper}(I:Array Bool→Act→World→Prop)(hm:P.follows .mixedOrders=true)(hlex:qe .any l.toArray=true)(h0:I (Array.replicate l.length false) a w.drew)(hend:∀ listed a w,I listed a w→listed.size=l.length→(∀ i,i<l.length→listed.getD i false=true)→Q .normal a w)(hstep:kK P .any l.toArray I Q 0 l):(Code.region id l.toArray true).wp P Q a w :=
 wp_region_any hm (vy hlex (fun listed a w h hs hall=>hend listed a w h (by simpa using hs) (fun i hi=>hall i (by simpa using hi))) (by simpa using hstep) _ _ _ _ (by simp) (by simp) (by simpa using h0))
end
end
section
theorem yR (v n:Int)(h:n<1∨8<n):l9 v n=([],2):=by
 have:lI v n=false:=by unfold lI;simp;omega
 simp[l9,this]
theorem Be (n:Nat):(2:Int) ^ (8*n)=((256 ^ n:Nat):Int):=by rw[Int.pow_mul];simp
theorem tP (v n:Int)(h:1≤n)(h':n≤8)(h3:v.toNat<256 ^ n.toNat):l9 v n=(num v.toNat n.toNat,0):=by
 have:lI v n=true:=by unfold lI;simp;omega
 simp[l9,this]
theorem Aj (v n:Int)(h3:¬v.toNat<256 ^ n.toNat):l9 v n=([],2):=by
 have:lI v n=false:=by unfold lI;simp;omega
 simp[l9,this]
theorem Ai (v n:Int)(h:1≤n)(h':n≤8)(h0:0≤v)(h3:(v / 2 ^ (8*n).toNat != 0)=false):l9 v n=(num v.toNat n.toNat,0):=by
 refine tP v n h h' ?_;obtain⟨n,rfl⟩:=Int.eq_ofNat_of_zero_le (show 0≤n by omega);obtain⟨v,rfl⟩:=Int.eq_ofNat_of_zero_le h0;have e:(8*(n:Int)).toNat=8*n:=by omega
 rw[e,Be,bne_eq_false_iff_eq]at h3
 norm_cast at h3
 exact(Nat.div_eq_zero_iff_lt (Nat.pow_pos (by decide))).1 h3
theorem yS (v n:Int)(h:1≤n)(h0:0≤v)(h3:(v / 2 ^ (8*n).toNat != 0)=true):l9 v n=([],2):=by
 refine Aj v n ?_;obtain⟨n,rfl⟩:=Int.eq_ofNat_of_zero_le (show 0≤n by omega);obtain⟨v,rfl⟩:=Int.eq_ofNat_of_zero_le h0;have e:(8*(n:Int)).toNat=8*n:=by omega
 rw[e,Be,bne_iff_ne]at h3;intro h5;apply h3
 norm_cast
 exact Nat.div_eq_of_lt h5
theorem FK {T:Prop} (h:T:=by
 go_enter Tryz.func80,Tryz.ntmps80;go_wp2_with (go_at_call 85;refine(jq _ _ _ (by omega) (by omega) h3 h4).mono ?_;rintro e w' ⟨rfl,hB⟩);go_ret2;exact⟨rfl,hB⟩
):T:=h
theorem pE (v n:Int)(w:World)(h3:0≤v)(h4:v<18446744073709551616):Calls Tryz.prog 80 #[.int .u64 v,.int .i64 n] w fun e w'=>e=.returned (.tuple #[.string (bs (l9 v n).1),.int .i64 (l9 v n).2])∧Bw_ w w':=by
 by_cases hn:n<1∨8<n
 ·go_enter Tryz.func80,Tryz.ntmps80
  have hp:=Hid.o (yR v n hn);rw[yR v n hn];rcases hn with hn|hn
  all_goals
   go_wp2;go_ret2;exact⟨rfl,DF _ _⟩
 ·by_cases h8:n=8
  ·subst h8
   rw[tP v 8 (by omega) (by omega) (by simp;omega)];exact FK
  ·have hlo:1≤n:=by omega
   have hhi:n≤7:=by omega
   cases hv:(v / 2 ^ (8*n).toNat != 0)
   ·rw[Ai v n hlo (by omega) h3 hv]
    exact FK
   ·rw[yS v n hlo h3 hv]
    go_enter Tryz.func80,Tryz.ntmps80;go_wp2;go_ret2;exact⟨rfl,DF _ _⟩
theorem BF (l:LU_)(h:l.length<1∨8<l.length):sj l=(0,2):=by unfold sj;rw[if_neg (by omega)]
theorem BE (l:LU_)(h:1≤l.length)(h':l.length≤8):sj l=((val l:Int),0):=by unfold sj;rw[if_pos (by omega)]
theorem zl (s:ByteArray):s.data.toList.length=s.size:=by simp
theorem xK (s:ByteArray)(w:World)(hs:s.size≤maxLen):Calls Tryz.prog 149 #[.string s] w fun e w'=>e=.returned (.tuple #[.int .u64 (sj s.data.toList).1,.int .i64 (sj s.data.toList).2])∧w=w':=by
 unfold maxLen at hs;have hl:=zl s
 by_cases h1:s.size<1∨8<s.size
 ·rw[BF s.data.toList (by omega)]
  clear hl;rcases h1 with h1|h1
  all_goals
   go_enter Tryz.func149,Tryz.ntmps149;go_wp2;go_ret2;exact⟨rfl,rfl⟩
 ·rw[BE s.data.toList (by omega) (by omega)]
  go_enter Tryz.func149,Tryz.ntmps149;go_wp2
  go_loop [2,15] (fun v i=>∃ k x:Nat,k≤s.size∧i=.int .i64 k∧v=.int .u64 x∧x<256 ^ k∧Hid (x=val (s.data.toList.take k))) (fun _ i=>s.size-(intOf i).toNat)
  case atStart=>exact⟨0,0,by omega,rfl,rfl,by decide,rfl⟩
  case round =>
   obtain⟨k,x,hk,rfl,rfl,hx,hH⟩:=hrel
   by_cases h0:k<s.size
   ·have hp:256 ^ k≤256 ^ 7:=Nat.pow_le_pow_right (by decide) (by omega)
    have hp0:0<256 ^ k:=Nat.pow_pos (by decide);have hc:=s[k].toNat_lt;have hp8:(2:Nat) ^ (8*k)=256 ^ k:=by rw[Nat.pow_mul]
    have hmul:s[k].toNat*256 ^ k≤255*256 ^ k:=DV _ (by omega);have E:=Cz x s[k].toNat (8*k) (by omega) (by rw[hp8];exact hx) (by rw[hp8];omega);have V:=qF s.data.toList k (by omega);have e:(s.data.toList[k]'(by omega))=s[k]:=by simp;rfl
    rw[e]at V;rw[hp8]at E;have E:=zH E;have V:=zH V;have hx2:Hid (x+s[k].toNat*256 ^ k<256 ^ (k+1)):=by show _<_;rw[Nat.pow_succ];omega
    clear hp hp0 hp8 hmul hc;rename_i E1 V1;clear E1 V1;go_wp2
    go_round
    case rel=>exact⟨k+1,x+s[k].toNat*256 ^ k,by omega,by go_num,gI E.o,hx2.o,by show _=_;rw[V.o,hH.o]⟩
    case measure=>simp[intOf];omega
   ·obtain rfl:k=s.size:=by omega
    go_wp2;go_ret2;have hh:x=val s.data.toList:=by rw[hH.o,DB (by omega)]
    subst hh;exact⟨rfl,rfl⟩
end
end Go.Proofs.YtckhfapcmjlmbaaGreatDoor
namespace Go.Proofs.YtckhfapcmjlmbaaGreatDoor.Oct
end Go.Proofs.YtckhfapcmjlmbaaGreatDoor.Oct
namespace Go.Proofs.YtckhfapcmjlmbaaGreatDoor.Oct
def text (l:List UInt8):List UInt8×Int:=if l.length≤65535 then (num l.length 2++l,0) else ([],5)
def aQ (l:List UInt8):List UInt8×Nat×Int :=
 if l.length<2 then ([],0,6) else if l.length<2+val (l.take 2) then ([],0,6) else ((l.drop 2).take (val (l.take 2)),2+val (l.take 2),0)
def texts:List (List UInt8)→List UInt8
 | []=>[]
 | l::r=>num l.length 2++l++texts r
def dP (r:List (List UInt8)):Bool:=r.all fun l=>decide (l.length≤65535)
def row (r:List (List UInt8)):List UInt8×Int :=
 if r.length≤65535 then if dP r then (num r.length 2++texts r,0) else ([],5) else ([],5)
def cS:Nat→List UInt8→Option (List (List UInt8))
 | 0,l=>if l=[] then some [] else none
 | k+1,l=>if (aQ l).2.2=0 then (cS k (l.drop (aQ l).2.1)).map ((aQ l).1::·) else none
def ib (l:List UInt8):Option (List (List UInt8)) :=
 if l.length<2 then none else cS (val (l.take 2)) (l.drop 2)
theorem s7 (r:List (List UInt8))(l:List UInt8):texts (r++[l])=texts r++(num l.length 2++l):=by
 induction r with
 | nil=>simp[texts]
 | cons a r ih=>simp[texts,ih]
theorem uK (l:List UInt8):val (l.take 2)<65536:=by
 have h:=pH (l.take 2);have h2:(l.take 2).length≤2:=by simp;omega
 have:=o5 h2;omega
theorem Ci (l:List UInt8)(h:2≤l.length):val (l.take 2)=l[0].toNat+256*l[1].toNat:=by
 match l,h with
 | a::b::l,_=>simp[val]
theorem fx (l:List UInt8)(h:l.length≤65535):text l=(num l.length 2++l,0):=if_pos h
theorem gl (l:List UInt8)(h:¬l.length≤65535):text l=([],5):=if_neg h
theorem g5 (r:List (List UInt8))(k:Nat)(h:k<r.length):texts (r.take (k+1))=texts (r.take k)++(num r[k].length 2++r[k]):=by
 rw[Dz h,s7]
theorem g6 (a b:List (List UInt8)):texts (a++b)=texts a++texts b:=by
 induction a with
 | nil=>rfl
 | cons x a ih=>simp[texts,ih]
theorem gz (r:List (List UInt8))(k:Nat):(texts (r.take k)).length≤(texts r).length:=by
 have h:=congrArg (fun r=>(texts r).length) (List.take_append_drop k r);simp only[g6,DL]at h;omega
theorem j8 (r:List (List UInt8))(k:Nat)(h:k<r.length):r[k].length≤(texts r).length:=by
 have:=gz r (k+1);rw[g5 r k h]at this;simp at this;omega
theorem pu (r:List (List UInt8))(k:Nat)(h:k<r.length)(h':dP (r.take k)=true)(h2:r[k].length≤65535):dP (r.take (k+1))=true:=by
 rw[Dz h];simp only[dP,List.all_append]at h'⊢;simp[h',h2]
theorem sq (r:List (List UInt8))(k:Nat)(h:k<r.length)(h2:¬r[k].length≤65535):dP r=false:=by
 rw[dP,List.all_eq_false];exact⟨r[k],DY h,by simpa using h2⟩
theorem qX (r:List (List UInt8))(h:¬r.length≤65535):row r=([],5):=if_neg h
theorem yq (r:List (List UInt8))(h:r.length≤65535)(h':dP r=true):row r=(num r.length 2++texts r,0):=by rw[row,if_pos h,if_pos h']
theorem yt (r:List (List UInt8))(h:r.length≤65535)(h':dP r=false):row r=([],5):=by rw[row,if_pos h,h'];rfl
theorem kq (l:List UInt8)(h:(aQ l).2.2=0):(aQ l).2.1≤l.length∧2≤(aQ l).2.1:=by
 unfold aQ at h⊢
 split at h
 ·simp at h
 ·split at h
  ·simp at h
  ·rename_i h1 h2
   rw[if_neg h1,if_neg h2];exact⟨by dsimp only;omega,by dsimp only;omega⟩
theorem pX (k:Nat)(l:List UInt8)(h:(aQ l).2.2=0):cS (k+1) l=(cS k (l.drop (aQ l).2.1)).map ((aQ l).1::·):=if_pos h
theorem pY (k:Nat)(l:List UInt8)(h:¬(aQ l).2.2=0):cS (k+1) l=none:=if_neg h
def gV (l0:List UInt8)(k0 m:Nat)(r:List (List UInt8))(l:List UInt8):Prop:=cS k0 l0=(cS m l).map (r++·)
theorem gV.start (l0:List UInt8)(k0:Nat):gV l0 k0 k0 [] l0:=by simp[gV]
theorem gV.step {l0:List UInt8}{k0 m:Nat}{r:List (List UInt8)}{l:List UInt8}(h:gV l0 k0 (m+1) r l)(ho:(aQ l).2.2=0):gV l0 k0 m (r++[(aQ l).1]) (l.drop (aQ l).2.1):=by
 unfold gV at h⊢;rw[h,pX m l ho,Option.map_map];congr 1;funext x;simp
theorem gV.no {l0:List UInt8}{k0 m:Nat}{r:List (List UInt8)}{l:List UInt8}(h:gV l0 k0 (m+1) r l)(ho:¬(aQ l).2.2=0):cS k0 l0=none:=by
 rw[h,pY m l ho];rfl
theorem gV.fin {l0:List UInt8}{k0:Nat}{r:List (List UInt8)}{l:List UInt8}(h:gV l0 k0 0 r l):cS k0 l0=if l=[] then some r else none:=by
 rw[h,cS];split<;>simp
theorem od (l:List UInt8)(h:l.length<2):ib l=none:=if_pos h
theorem tC (l:List UInt8)(h:¬l.length<2):ib l=cS (val (l.take 2)) (l.drop 2):=if_neg h
end Go.Proofs.YtckhfapcmjlmbaaGreatDoor.Oct
namespace Go.Proofs.YtckhfapcmjlmbaaGreatDoor
open Go.RowKit Oct
section
def txV (r:LU_×Int):Value:=.tuple #[.string (bs r.1),.int .i64 r.2]
theorem cd (a:LU_)(c:Int):txV (a,c)=.tuple #[.string (bs a),.int .i64 c]:=rfl
theorem gU (l:LU_)(w:World)(hs:l.length≤140737488355328):Calls Tryz.prog 82 #[.string (bs l)] w fun e w'=>e=.returned (txV (text l))∧Bw_ w w':=by
 by_cases h:l.length≤65535
 ·rw[fx l h,cd]
  go_enter Tryz.func82,Tryz.ntmps82;go_wp2_with (go_at_call 85;refine(jq _ _ _ (by omega) (by omega) (by omega) (by omega)).mono ?_;rintro e w' ⟨rfl,hB⟩);go_ret2;exact⟨by rw[←fF];rfl,hB⟩
 ·rw[gl l h,cd]
  go_enter Tryz.func82,Tryz.ntmps82;go_wp2;go_ret2;exact⟨rfl,DF _ _⟩
theorem dZ (l:LU_)(w:World)(hs:l.length≤140737488355328):Calls Tryz.prog 90 #[.string (bs l)] w fun e w'=>e=.returned (txV (text l))∧Bw_ w w':=by
 by_cases h:l.length≤65535
 ·rw[fx l h,cd]
  go_enter Tryz.func90,Tryz.ntmps90;go_wp2_with (go_at_call 89;refine(kB _ _ _ (by omega) (by omega) (by omega) (by omega)).mono ?_;rintro e w' ⟨rfl,hB⟩);go_ret2;exact⟨by rw[←fF];rfl,hB⟩
 ·rw[gl l h,cd]
  go_enter Tryz.func90,Tryz.ntmps90;go_wp2;go_ret2;exact⟨rfl,DF _ _⟩
def rdV (r:LU_×Nat×Int):Value:=.tuple #[.string (bs r.1),.int .i64 r.2.1,.int .i64 r.2.2]
theorem yG (a:LU_)(b:Nat)(c:Int):rdV (a,b,c)=.tuple #[.string (bs a),.int .i64 b,.int .i64 c]:=rfl
theorem Bt {a a':LU_}{b:Int}{b':Nat}{c:Int}(h1:a=a')(h2:b=(b':Int)):Ending.returned (.tuple #[.string (bs a),.int .i64 b,.int .i64 c])=.returned (rdV (a',b',c)):=by subst h1;subst h2;rfl
theorem rk (l:LU_)(h:l.length<2):aQ l=([],0,6):=if_pos h
theorem wC (l:LU_)(h:¬l.length<2)(h':l.length<2+val (l.take 2)):aQ l=([],0,6):=by rw[aQ,if_neg h,if_pos h']
theorem yF (l:LU_)(h:¬l.length<2)(h':¬l.length<2+val (l.take 2)):aQ l=((l.drop 2).take (val (l.take 2)),2+val (l.take 2),0):=by rw[aQ,if_neg h,if_neg h']
theorem eQ (l:LU_)(w:World)(hs:l.length≤140737488355328):Calls Tryz.prog 148 #[.string (bs l)] w fun e w'=>e=.returned (rdV (aQ l))∧Bw_ w w':=by
 by_cases h:l.length<2
 ·rw[rk l h,yG]
  go_enter Tryz.func148,Tryz.ntmps148;go_wp2;go_ret3;exact⟨rfl,DF _ _⟩
 ·have HV:=zH (Ci l (by omega))
  have z0:0<l.length:=by omega
  have z1:1<l.length:=by omega
  have y1:(1:Int)<(l.length:Int):=by omega
  have c0:=l[0].toNat_lt;have c1:=l[1].toNat_lt
  by_cases h2:l.length<2+val (l.take 2)
  ·rw[wC l h h2,yG]
   have h3:(l.length:Int)<2+(l[0].toNat:Int)+(l[1].toNat:Int)*256:=by have:=HV.o;omega
   go_enter Tryz.func148,Tryz.ntmps148;go_wp2;go_quiet (fail);go_wp2;go_ret3;exact⟨rfl,C9 _ _⟩
  ·rw[yF l h h2]
   have h3:2+(l[0].toNat:Int)+(l[1].toNat:Int)*256≤(l.length:Int):=by have:=HV.o;omega
   go_enter Tryz.func148,Tryz.ntmps148;go_wp2;go_quiet (fail);go_wp2;go_ret3;exact⟨Bt (by have:=HV.o;congr 1;omega) (by have:=HV.o;omega),C9 _ _⟩
end
