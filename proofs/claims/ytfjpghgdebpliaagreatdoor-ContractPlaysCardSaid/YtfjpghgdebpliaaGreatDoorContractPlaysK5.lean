/- Lemmas. -/
import Derived.StillTail
import Derived.OrdersIn
import Derived.TacticsIn
import Derived.Test.YtfjpghgdebpliaaGreatDoorContractPlaysK4
import Derived.Test.YtfjpghgdebpliaaGreatDoorContractPlaysK6
set_option linter.unusedSimpArgs false
set_option linter.unusedVariables false
set_option maxRecDepth 100000
set_option maxHeartbeats 16000000
namespace Go.Proofs.YtfjpghgdebpliaaGreatDoor
open Go.Proofs.Tryz
open Go.RowKit Oct
def aP:Rec (q) where
 cell s:=[.string (bs s)]
 e:=9
 n:=1
 bytes:=16
 z:=.string ByteArray.empty
 len:=fun _=>rfl
 one:=by intro x u h;simp at h;subst h;rfl
 info:=by kernel_rfl
 zs:=rfl
 pos:=by decide
 bpos:=by decide
def kd:Rec (Nat×Nat) where
 cell s:=[.int .i64 s.1,.int .i64 s.2]
 e:=149
 n:=2
 bytes:=16
 z:=.agg #[.int .i64 0,.int .i64 0]
 len:=fun _=>rfl
 one:=by intro x u h;simp at h;rcases h with rfl|rfl<;>rfl
 info:=by kernel_rfl
 zs:=rfl
 pos:=by decide
 bpos:=by decide
theorem au {w:Z}{v:V_}{l:LL_}(h:aP.Row w v l):∃ a ah,v=.slice a l.length ah∧l.length≤ah∧∀ k (hk:k<l.length),∃ b aL,a=some ⟨b,aL,none⟩∧w.cell? ⟨b,aL+k,none⟩=some (s_ l[k]):=by
 obtain⟨a,ah,hv,aq,hc⟩:=h.open;refine⟨a,ah,hv,aq,fun k hk=>?_⟩;obtain⟨b,aL,ha,hu⟩:=hc k hk;have:=hu 0 _ rfl;rw[show aP.n=1 from rfl,Nat.mul_one,Nat.add_zero]at this;exact⟨b,aL,ha,this⟩
theorem MA {T:Prop} (h:T:=by
 obtain⟨a,ah,hv,aq,hc⟩:=h.open;refine⟨a,ah,hv,aq,fun k hk=>?_⟩;obtain⟨b,aL,ha,hu⟩:=hc k hk;exact⟨b,aL,ha,hu 0 _ rfl,hu 1 _ rfl⟩
):T:=h
theorem yf {w:Z}{v:V_}{l:LN_}(h:kd.Row w v l):∃ a ah,v=.slice a l.length ah∧l.length≤ah∧∀ k (hk:k<l.length),∃ b aL,a=some ⟨b,aL,none⟩∧w.cell? ⟨b,aL+k*2,none⟩=some (F (l[k].1:Int))∧w.cell? ⟨b,aL+k*2+1,none⟩=some (F (l[k].2:Int)):=by
 exact MA
def kO (s:q):Bool:=s.length==32
def de (l:LL_):Bool:=l.all kO
theorem ut {l:LL_}(k:Nat)(h:k<l.length)(hk:kO l[k]=false):de l=false:=by
 unfold de;rw[List.all_eq_false];exact⟨l[k],Jz h,by rw[hk];simp⟩
theorem M6 {T:Prop} (h:T:=by
 rw[List.all_eq_true];intro t ht;obtain⟨k,hk,rfl⟩:=List.getElem_of_mem ht;exact h k hk
):T:=h
theorem kY {l:LL_}(h:∀ k (hk:k<l.length),kO l[k]=true):de l=true:=by
 unfold de;exact M6
theorem FE (s:q)(w:Z)(hs:s.length≤140737488355328):C_ 78 #[s_ s] w fun e w'=>e=.returned (.bool (!kO s))∧w=w':=by
 have M:(s.length:Int)≤140737488355328:=Y
 cases h:kO s with
 | false =>
  have h1:((s.length:Int) != 32)=true:=by unfold kO at h;rw[beq_eq_false_iff_ne]at h;rw[bne_iff_ne];omega
  go_enter func78,ntmps78;go_wp2;go_ret;exact⟨rfl,rfl⟩
 | true =>
  have h1:((s.length:Int) != 32)=false:=by unfold kO at h;rw[beq_iff_eq]at h;rw[bne_eq_false_iff_eq];omega
  go_enter func78,ntmps78;go_wp2;go_ret;exact⟨rfl,rfl⟩
theorem BR (v:V_)(l:LL_)(w:Z)(hr:aP.Row w v l)(hl:l.length≤140737488355328)(hm:∀ s∈l,s.length≤140737488355328):C_ 113 #[v,.func (.func 78) #[] #[]] w fun e w'=>(∃ i:Int,e=.returned (F i)∧decide (0≤i)=!de l)∧w=w':=by
 obtain⟨a,ah,rfl,_,hc⟩:=au hr;have HC:=O hc;have HM:=O hm;clear hc hr hm;go_enter func113,ntmps113;go_wp2
 go_loop [8] (fun t=>∃ i:Nat,i≤l.length∧t=F i∧Hid (∀ j (hj:j<l.length),j<i→kO l[j]=true)) (fun t=>l.length-(intOf t).toNat)
 case atStart=>exact⟨0,by omega,rfl,fun j _ h=>absurd h Y⟩
 case round =>
  obtain⟨i,hi,rfl,X⟩:=hrel
  by_cases h0:i<l.length
  ·obtain⟨b,aL,rfl,c1⟩:=HC.o i h0
   have ar:=nn_ i;have a5:(i:Int)<l.length:=Y;have W:=HM.o l[i] (Jz h0);have bo:=O (FE l[i] w W);clear W
   cases hid:kO l[i] with
   | false =>
    have HI:=O hid;clear hid;go_wp2_with fail;refine bo.o.mono ?_;rw[HI.o];rintro e w1⟨rfl,rfl⟩;go_wp2;go_ret;exact⟨⟨_,rfl,by rw[ut i h0 HI.o];simp⟩,rfl⟩
   | true =>
    have HI:=O hid;clear hid;go_wp2_with fail;refine bo.o.mono ?_;rw[HI.o];rintro e w1⟨rfl,rfl⟩;go_wp2
    go_round
    case rel =>
     refine⟨i+1,by omega,by go_num,?_⟩;intro j hj ae
     by_cases e:j=i
     ·subst e;exact HI.o
     ·exact X.o j hj Y
    case measure=>simp[intOf];omega
  ·have HF:=O (kY fun k hk=>X.o k hk Y)
   obtain rfl:i=l.length:=Y;go_wp2;go_ret;exact⟨⟨_,rfl,by rw[HF.o];rfl⟩,rfl⟩
theorem uo (v:V_)(l:LL_)(w:Z)(hr:aP.Row w v l)(hl:l.length≤140737488355328)(hm:∀ s∈l,s.length≤140737488355328):C_ 77 #[v,.func (.func 78) #[] #[]] w fun e w'=>e=.returned (.bool (!de l))∧w=w':=by
 have f:=BR v l w hr hl hm;obtain⟨a,ah,rfl,_,_⟩:=au hr;have b:=O f;clear f hr hm;go_enter func77,ntmps77;go_wp2_with fail;refine b.o.mono ?_;rintro e w1⟨⟨i,rfl,hi⟩,rfl⟩;obtain⟨ap,hq⟩:=H (!de l);rw[←hq]at hi;have HQ:=O hq;clear hq
 cases ap with
 | false =>
  have d:¬(0:Int)≤i:=of_decide_eq_false hi;clear hi;go_wp2;go_ret;exact⟨by rw[←HQ.o];simp[d],rfl⟩
 | true =>
  have d:(0:Int)≤i:=of_decide_eq_true hi;clear hi;go_wp2;go_ret;exact⟨by rw[←HQ.o];simp[d],rfl⟩
section
variable {P:Program}{aM:Array Oper}{E:Region.Mode}{C:Z→Prop}{R:Z→Z→Prop}
structure bu (R:Z→Z→Prop) where
 α:Type
 val:α→V_
 fact:α→Option (Z→Prop)
 stable:∀ x φ,fact x=some φ→∀ w w',φ w→R w w'→φ w'
def bu.exact(R:Z→Z→Prop)(v:V_):bu R:=⟨Unit,fun _=>v,fun _=>none,fun _ _ h=>by cases h⟩
abbrev aD:=(Oper×(Z→Prop))→Prop
def aD.none:aD:=fun _=>False
def aD.add (o:Oper)(φ:Option (Z→Prop))(S:aD):aD:=fun ap=>(∃ ψ,φ=some ψ∧ap=(o,ψ))∨S ap
def aD.all (S:aD)(w:Z):Prop:=∀ p,S p→p.2 w
def aD.at (S:aD)(aM:Array Oper)(o:Oper)(w:Z):Prop:=∀ p,S p→p.1.apart aM o=false→p.2 w
def aD.kept (R:Z→Z→Prop)(S:aD):Prop:=∀ p,S p→∀ w w',p.2 w→R w w'→p.2 w'
theorem IJ (o:Oper)(S:aD):S.add o Option.none=S:=by
 funext ap;simp[aD.add]
theorem aD.add_comm (o F:Oper)(φ φ':Option (Z→Prop))(S:aD):(S.add o φ).add F φ'=(S.add F φ').add o φ:=by
 funext ap;simp only[aD.add,eq_iff_iff];grind
theorem aD.all_add {S:aD}{o:Oper}{φ:Option (Z→Prop)}{w:Z}:(S.add o φ).all w↔(∀ ψ,φ=some ψ→ψ w)∧S.all w:=by
 constructor
 ·intro h;exact⟨fun ψ i=>h (o,ψ) (.inl ⟨ψ,i,rfl⟩),fun p hp=>h p (.inr hp)⟩
 ·rintro⟨h1,h2⟩ p (⟨ψ,i,rfl⟩|hp)
  ·exact h1 ψ i
  ·exact h2 p hp
theorem aD.all_some {S:aD}{o:Oper}{φ:Z→Prop}{w:Z}:(S.add o (some φ)).all w↔φ w∧S.all w:=by
 rw[aD.all_add];simp
theorem IL {w:Z}:aD.none.all w↔True:=by simp[aD.all,aD.none]
theorem aD.at_some {S:aD}{o F:Oper}{φ:Z→Prop}{w:Z}(h:(S.add o (some φ)).at aM F w):(o.apart aM F=false→φ w)∧S.at aM F w :=
 ⟨fun ha=>h (o,φ) (.inl ⟨φ,rfl,rfl⟩) ha,fun p hp=>h p (.inr hp)⟩
theorem IM {S:aD}{o:Oper}{w:Z}(h:S.all w):S.at aM o w:=fun p hp _=>h p hp
theorem IQ {S:aD}(h:S.kept R)(o:Oper)(g:bu R)(x:g.α):(S.add o (g.fact x)).kept R:=by
 rintro p (⟨ψ,i,rfl⟩|hp)
 ·exact g.stable x ψ i
 ·exact h p hp
theorem IY {S:aD}(h:S.kept R){w w':Z}(ha:S.all w)(hR:R w w'):S.all w':=fun p hp=>h p hp w w' (ha p hp) hR
def eN (P:Program)(w:Z)(G:V_→Z→Prop):Result Next→Prop
 | .ok (.value u) w'=>G u w'
 | .ok .skip w'=>G undef w'
 | .ok (.enter f az) w'=>w'=w∧Calls P f az w fun e bc=>∃ u,e=.returned u∧G u bc
 | _=>False
def dJ (P:Program)(o:Oper)(a:Act)(w:Z)(G:V_→Z→Prop):Prop:=eN P w G ((execOp a.eval o).run P w)
def il (w:Z)(v:V_):Result Next→Prop
 | .ok (.value u) w'=>w'=w∧u=v
 | .ok .skip w'=>w'=w∧v=undef
 | _=>False
def jL (P:Program)(o:Oper)(a:Act)(w:Z)(v:V_):Prop:=il w v ((execOp a.eval o).run P w)
def eI (P:Program)(aM:Array Oper)(C:Z→Prop)(R:Z→Z→Prop)(am:Nat→Option (bu R))(i:Nat)(o:Oper)(S:aD)(a:Act)(g:bu R):Prop :=
 if Region.wanted o (yielded aM a.tmps)=true then
  match am i with
  | none=>∃ v,g=.exact R v∧∀ w,C w→S.at aM o w→jL P o a w v
  | some D=>g=D∧∀ w,C w→S.at aM o w→dJ P o a w fun u w'=>R w w'∧∃ x,u=D.val x∧∀ φ,D.fact x=some φ→φ w'
 else g=.exact R undef
def gOp (P:Program)(aM:Array Oper)(C:Z→Prop)(R:Z→Z→Prop)(am:Nat→Option (bu R))(i:Nat)(K:aD→Act→Prop)(S:aD)(a:Act):Prop :=
 match aM[i]? with
 | none=>K S a
 | some o=>∃ g,eI P aM C R am i o S a g∧∀ x,K (S.add o (g.fact x)) (a.put o.dst (g.val x))
def Inh (C:Z→Prop)(S:aD):Prop:=∃ w,C w∧S.all w
def jB (P:Program)(E:Region.Mode)(aM:Array Oper)(C:Z→Prop)(R:Z→Z→Prop)(am:Nat→Option (bu R))(Q:Array Bool→aD→Act→Prop):Nat→Array Bool→aD→Act→Prop
 | 0,s,S,a=>Inh C S→Q s S a
 | aa+1,s,S,a=>Inh C S →
  Region.ready E aM s≠[] ∧
  ∀ i∈Region.ready E aM s,gOp P aM C R am i (jB P E aM C R am Q aa (s.setIfInBounds i true)) S a
variable {am:Nat→Option (bu R)}{Q:Array Bool→aD→Act→Prop}
theorem xC {n:Nat}{s:Array Bool}{S:aD}{a:Act}(h:Inh C S→jB P E aM C R am Q n s S a):jB P E aM C R am Q n s S a:=by
 cases n<;>exact fun hi=>h hi hi
theorem Ad {i:Nat}{o:Oper}{S:aD}{a:Act}{w:Z}{g:bu R}{K:aD→Act→Prop}{N:Act→Z→Prop}(q:∀ w w',C w→R w w'→C w')(hk:S.kept R)(hw:C w)(hS:S.all w)(c:Region.wanted o (yielded aM a.tmps)=true)(bb:eI P aM C R am i o S a g)(hK:∀ x,K (S.add o (g.fact x)) (a.put o.dst (g.val x)))(hN:∀ S' a' w',S'.kept R→C w'→S'.all w'→K S' a'→N a' w'):dJ P o a w fun u w'=>N (a.put o.dst u) w':=by
 unfold eI at bb;rw[if_pos c]at bb
 cases hF:am i with
 | none =>
  simp only[hF]at bb;obtain⟨v,rfl,hr⟩:=bb;have hr:=hr w hw (IM hS);have hK:=hK ();simp only[bu.exact,IJ]at hK;unfold jL at hr;unfold dJ;generalize (execOp a.eval o).run P w=r at *
  cases r with
  | ok n w' =>
   cases n<;>simp only[il]at hr<;>simp only[eN]
   case value u=>obtain⟨rfl,rfl⟩:=hr;exact hN S _ _ hk hw hS hK
   case skip=>obtain⟨rfl,rfl⟩:=hr;exact hN S _ _ hk hw hS hK
  | halt x w'=>simp only[il]at hr
 | some D =>
  simp only[hF]at bb;obtain⟨rfl,hr⟩:=bb;have hr:=hr w hw (IM hS)
  have b:∀ u w',(R w w'∧∃ x,u=g.val x∧∀ φ,g.fact x=some φ→φ w')→N (a.put o.dst u) w':=by
   rintro u w'⟨hR,x,rfl,hx⟩;exact hN _ _ _ (IQ hk o g x) (q _ _ hw hR) (aD.all_add.2 ⟨hx,IY hk hS hR⟩) (hK x)
  unfold dJ at hr⊢;generalize (execOp a.eval o).run P w=r at *
  cases r with
  | ok n w' =>
   cases n<;>simp only[eN]at hr⊢
   case value u=>exact b _ _ hr
   case skip=>exact b _ _ hr
   case enter f az =>
    obtain⟨rfl,hc⟩:=hr;exact⟨rfl,hc.mono fun e bc ⟨u,he,hG⟩=>⟨u,he,b _ _ hG⟩⟩
  | halt x w'=>simp only[eN]at hr
theorem xA {o:Oper}{a:Act}{w:Z}{N:Act→Z→Prop}{d:Exit→Act→Z→Prop}(h:dJ P o a w fun u w'=>N (a.put o.dst u) w'):o.wp P a w N d:=by
 unfold dJ at h;unfold Oper.wp;generalize (execOp a.eval o).run P w=r at *
 cases r with
 | ok n w' =>
  cases n<;>simp only[eN]at h<;>simp only[Oper.upon]
  case value u=>exact h
  case skip=>exact h
  case enter f az =>
   obtain⟨rfl,hc⟩:=h;refine hc.mono fun e bc ⟨u,he,hG⟩=>?_;subst he;exact hG
 | halt x w'=>simp only[eN]at h
def mP (o:Oper):Bool:=match o.op with|.defer _=>false|_=>true
theorem tg {l n:Nat}{o:Oper}{a:Act}{w:Z}{N:Act→Z→Prop}{d:Exit→Act→Z→Prop}(hd:mP o=true)(h:dJ P o a w fun u w'=>N (a.put o.dst u) w'):o.wpIn (Fence.wide.inRound l) n P a w N d:=by
 refine⟨fun _ _=>trivial,?_⟩;rw[Oper.semAt_eq _ _ _ (fun c hc=>by unfold mP at hd;rw[hc]at hd;cases hd)];unfold dJ at h;generalize (execOp a.eval o).run P w=r at *
 cases r with
 | ok m w' =>
  cases m<;>simp only[eN]at h<;>simp only[Oper.uponIn]
  case value u=>exact h
  case skip=>exact h
  case enter f az =>
   obtain⟨rfl,hc⟩:=h;refine⟨fun hx=>(by cases hx),?_⟩;show CallsIn Fence.wide (n-1) P f az w' _;refine callsIn_wide.2 (hc.mono fun e bc ⟨u,he,hG⟩=>?_);subst he;exact hG
 | halt x w'=>simp only[eN]at h
theorem p5 {s:Array Bool}{X:Prop}(h:Region.ready E aM s≠[]):Region.ready E aM s=[]→X:=fun e=>absurd e h
theorem jA {d:Exit→Act→Z→Prop}(q:∀ w w',C w→R w w'→C w')(rest:Nat)(hQ:∀ s S a w,C w→S.all w→Q s S a→wpAny P E aM d rest s a w):∀ (aa:Nat) (s:Array Bool) (S:aD) (a:Act) (w:Z),S.kept R→C w→S.all w→jB P E aM C R am Q aa s S a→wpAny P E aM d (aa+rest) s a w
 | 0,_,_,_,w,_,hw,hS,h=>by rw[I9];exact hQ _ _ _ _ hw hS (h ⟨w,hw,hS⟩)
 | aa+1,s,S,a,w,hk,hw,hS,h=>by
  have h:=h ⟨w,hw,hS⟩;rw[show aa+1+rest=(aa+rest)+1 by omega];refine⟨p5 h.1,fun i hi=>?_⟩;have h2:=h.2 i hi;unfold gOp at h2;unfold wpOp
  cases ho:aM[i]? with
  | none=>simp only[ho]at h2⊢;exact jA q rest hQ aa _ S a w hk hw hS h2
  | some o =>
   simp only[ho]at h2⊢;obtain⟨g,bb,hK⟩:=h2
   by_cases c:Region.wanted o (yielded aM a.tmps)=true
   ·rw[if_pos c]
    exact .inl (xA (Ad q hk hw hS c bb hK fun S' a' w' H b e hA=>jA q rest hQ aa _ S' a' w' H b e hA))
   ·unfold eI at bb
    rw[if_neg c]at bb⊢;subst bb;have hK:=hK ();simp only[bu.exact,IJ]at hK;exact jA q rest hQ aa _ S _ w hk hw hS hK
theorem gS {l n:Nat}{d:Exit→Act→Z→Prop}(hd:∀ (j:Nat) (o:Oper),aM[j]?=some o→mP o=true)(q:∀ w w',C w→R w w'→C w')(rest:Nat)(hQ:∀ s S a w,C w→S.all w→Q s S a→wpAnyIn (Fence.wide.inRound l) n P E aM d rest s a w):∀ (aa:Nat) (s:Array Bool) (S:aD) (a:Act) (w:Z),S.kept R→C w→S.all w→jB P E aM C R am Q aa s S a→wpAnyIn (Fence.wide.inRound l) n P E aM d (aa+rest) s a w
 | 0,_,_,_,w,_,hw,hS,h=>by rw[I9];exact hQ _ _ _ _ hw hS (h ⟨w,hw,hS⟩)
 | aa+1,s,S,a,w,hk,hw,hS,h=>by
  have h:=h ⟨w,hw,hS⟩;rw[show aa+1+rest=(aa+rest)+1 by omega];refine⟨p5 h.1,fun i hi=>?_⟩;have h2:=h.2 i hi;unfold gOp at h2;unfold wpOpIn
  cases ho:aM[i]? with
  | none=>simp only[ho]at h2⊢;exact gS hd q rest hQ aa _ S a w hk hw hS h2
  | some o =>
   simp only[ho]at h2⊢;obtain⟨g,bb,hK⟩:=h2
   by_cases c:Region.wanted o (yielded aM a.tmps)=true
   ·rw[if_pos c]
    exact tg (hd i o ho) (Ad q hk hw hS c bb hK fun S' a' w' H b e hA=>gS hd q rest hQ aa _ S' a' w' H b e hA)
   ·unfold eI at bb
    rw[if_neg c]at bb⊢;subst bb;have hK:=hK ();simp only[bu.exact,IJ]at hK;exact⟨fun _ _=>trivial,gS hd q rest hQ aa _ S _ w hk hw hS hK⟩
theorem sw (q:∀ w w',C w→R w w'→C w'){i:Nat}{o:Oper}{S:aD}{a:Act}{g:bu R}(hk:S.kept R)(h:eI P aM C R am i o S a g)(hI:Inh C S):∃ x,Inh C (S.add o (g.fact x)):=by
 obtain⟨w,hw,hS⟩:=hI;unfold eI at h
 by_cases c:Region.wanted o (yielded aM a.tmps)=true
 ·rw[if_pos c]at h
  cases hF:am i with
  | none =>
   simp only[hF]at h;obtain⟨v,rfl,_⟩:=h;exact⟨(),w,hw,by simp only[bu.exact,IJ];exact hS⟩
  | some D =>
   simp only[hF]at h;obtain⟨rfl,hr⟩:=h;have hr:=hr w hw (IM hS);unfold dJ at hr
   have b:∀ u w',(R w w'∧∃ x,u=g.val x∧∀ φ,g.fact x=some φ→φ w')→∃ x,Inh C (S.add o (g.fact x)):=by
    rintro u w'⟨hR,x,rfl,hx⟩;exact⟨x,w',q _ _ hw hR,aD.all_add.2 ⟨hx,IY hk hS hR⟩⟩
   generalize (execOp a.eval o).run P w=r at *
   cases r with
   | ok n w' =>
    cases n<;>simp only[eN]at hr
    case value u=>exact b _ _ hr
    case skip=>exact b _ _ hr
    case enter f az =>
     obtain⟨rfl,hc⟩:=hr;obtain⟨e,bc,_,⟨u,_,hG⟩,_⟩:=hc [];exact b _ _ hG
   | halt x w'=>simp only[eN]at hr
 ·rw[if_neg c]at h
  subst h;exact⟨(),w,hw,by simp only[bu.exact,IJ];exact hS⟩
theorem Bw {i:Nat}{o:Oper}{S:aD}{a:Act}{g D:bu R}(h:eI P aM C R am i o S a g)(h':eI P aM C R am i o S a D)(hI:Inh C S):g=D:=by
 obtain⟨w,hw,hS⟩:=hI;unfold eI at h h'
 by_cases c:Region.wanted o (yielded aM a.tmps)=true
 ·rw[if_pos c]at h h'
  cases hF:am i with
  | none =>
   simp only[hF]at h h';obtain⟨v,rfl,hv⟩:=h;obtain⟨v',rfl,a2⟩:=h';have hv:=hv w hw (IM hS);have a2:=a2 w hw (IM hS);unfold jL at hv a2
   have:v=v':=by
    generalize (execOp a.eval o).run P w=r at *
    cases r with
    | ok n w'=>cases n<;>simp only[il]at hv a2<;>grind
    | halt x w'=>simp only[il]at hv
   rw[this]
  | some ap =>
   simp only[hF]at h h';rw[h.1,h'.1]
 ·rw[if_neg c]at h h'
  rw[h,h']
theorem yF {i:Nat}{o:Oper}{S S':aD}{a:Act}{g:bu R}(h:eI P aM C R am i o S a g)(hS:∀ p,S p→S' p):eI P aM C R am i o S' a g:=by
 have aC:∀ w,S'.at aM o w→S.at aM o w:=fun w hw p hp=>hw p (hS p hp);unfold eI at *
 split
 ·rename_i c
  rw[if_pos c]at h
  cases hF:am i with
  | none=>simp only[hF]at h⊢;obtain⟨v,e,hv⟩:=h;exact⟨v,e,fun w hw ha=>hv w hw (aC w ha)⟩
  | some ap=>simp only[hF]at h⊢;exact⟨h.1,fun w hw ha=>h.2 w hw (aC w ha)⟩
 ·rename_i c
  rw[if_neg c]at h;exact h
theorem vY {j:Nat}{l f:Oper}{S:aD}{a:Act}{u:V_}{φ:Option (Z→Prop)}{g:bu R}(r:l.apart aM f=true)(O:∀ cs b,f.op≠.select cs b)(h:eI P aM C R am j f (S.add l φ) (a.put l.dst u) g):eI P aM C R am j f S a g:=by
 obtain⟨h1,h2,h3⟩:=Oper.apart_spec r
 have aC:∀ w,S.at aM f w→(S.add l φ).at aM f w:=by
  rintro w hw p (⟨ψ,i,rfl⟩|hp) d
  ·simp only[r]at d;cases d
  ·exact hw p hp d
 unfold eI dJ jL at *;rw[wanted_put f a l.dst u h1,execOp_put f O a l.dst u h1]at h
 split
 ·rename_i c
  rw[if_pos c]at h
  cases hF:am j with
  | none=>simp only[hF]at h⊢;obtain⟨v,e,hv⟩:=h;exact⟨v,e,fun w hw ha=>hv w hw (aC w ha)⟩
  | some ap=>simp only[hF]at h⊢;exact⟨h.1,fun w hw ha=>h.2 w hw (aC w ha)⟩
 ·rename_i c
  rw[if_neg c]at h;exact h
theorem yG {i:Nat}{l f:Oper}{S:aD}{a:Act}{u:V_}{g:bu R}(r:l.apart aM f=true)(T:∀ cs b,l.op≠.select cs b)(h:eI P aM C R am i l S a g):eI P aM C R am i l S (a.put f.dst u) g:=by
 obtain⟨h1,h2,h3⟩:=Oper.apart_spec r;unfold eI dJ jL at *;rw[wanted_put l a f.dst u h3,execOp_put l T a f.dst u h3];exact h
theorem tk (q:∀ w w',C w→R w w'→C w'){n i:Nat}{l:Oper}(hi:aM[i]?=some l)(L:∀ (j:Nat) (o:Oper) cs b,aM[j]?=some o→o.op≠.select cs b)(N:i<n)(c:∀ s,HeadInv E aM n s→∀ i,i<n→s.getD i true=false→∀ j∈Region.ready E aM s,j<n)(u:∀ s S a,Q s S a→∀ j∈Region.ready E aM s,n≤j):∀ (aa:Nat) (s:Array Bool) (S:aD) (a:Act) (g:bu R),S.kept R→HeadInv E aM n s → (∀ j f,aM[j]?=some f→j≠i→s.getD j true=false→(∀ e∈f.after,Region.binds E e=true→e.on≠i)→l.apart aM f=true) → i∈Region.ready E aM s→eI P aM C R am i l S a g → (∀ x,jB P E aM C R am Q aa (s.setIfInBounds i true) (S.add l (g.fact x)) (a.put l.dst (g.val x)))→jB P E aM C R am Q (aa+1) s S a:=by
 intro aa
 induction aa with
 | zero =>
  intro s S a g hk v _ hr bb A hI;have z:=(mem_ready.1 hr).1;refine⟨fun h=>(by rw[h]at hr;cases hr),fun j hj=>?_⟩;have m:=c s v i N z j hj
  by_cases ae:j=i
  ·subst ae;unfold gOp;simp only[hi];exact⟨g,bb,A⟩
  ·obtain⟨x,hx⟩:=sw q hk bb hI
   have:=u _ _ _ (A x hx) j (ready_mono hj ae);omega
 | succ aa H =>
  intro s S a g hk v D hr bb A hI;have z:=(mem_ready.1 hr).1;refine⟨fun h=>(by rw[h]at hr;cases hr),fun j hj=>?_⟩;have m:=c s v i N z j hj
  by_cases ae:j=i
  ·subst ae;unfold gOp;simp only[hi];exact⟨g,bb,A⟩
  ·obtain⟨M,f,F,B⟩:=mem_ready.1 hj
   have t:∀ e∈f.after,Region.binds E e=true→e.on≠i:=fun e he hb ar=>by
    have h1:=B e he hb;rw[ar,getD_both z]at h1
    cases h1
   have r:=D j f F ae M t;have T:∀ cs b,l.op≠.select cs b:=fun cs b=>L i l cs b hi;have O:∀ cs b,f.op≠.select cs b:=fun cs b=>L j f cs b F
   have J:∀ k ok,aM[k]?=some ok→k≠i→(s.setIfInBounds j true).getD k true=false →
     (∀ e∈ok.after,Region.binds E e=true→e.on≠i)→l.apart aM ok=true:=fun k ok hk V z a0=>by
    refine D k ok hk V ?_ a0
    by_cases a3:j=k
    ·subst a3;exact M
    ·rw[getD_set_ne true a3]at z;exact z
   have step:∀ x,Inh C (S.add l (g.fact x))→∃ G,eI P aM C R am j f S a G∧∀ y,jB P E aM C R am Q aa ((s.setIfInBounds i true).setIfInBounds j true) ((S.add l (g.fact x)).add f (G.fact y)) ((a.put l.dst (g.val x)).put f.dst (G.val y)):=by
    intro x hx;have h2:=(A x hx).2 j (ready_mono hj ae);unfold gOp at h2;simp only[F]at h2;obtain⟨G,K,hK⟩:=h2;exact⟨G,vY r O K,hK⟩
   obtain⟨x1,bN⟩:=sw q hk bb hI;obtain⟨G,K,_⟩:=step x1 bN;unfold gOp;simp only[F];refine⟨G,K,fun y=>?_⟩
   refine H (s.setIfInBounds j true) (S.add f (G.fact y)) (a.put f.dst (G.val y)) g (IQ hk f G y) (v.set hj m) J (ready_mono hr (Ne.symm ae))
    (yG r T (yF bb fun p hp=>.inr hp)) fun x=>xC fun cw=>?_
   have hx:Inh C (S.add l (g.fact x)):=by
    obtain⟨w,hw,hS⟩:=cw;rw[aD.add_comm]at hS;exact⟨w,hw,(aD.all_add.1 hS).2⟩
   obtain⟨W,U,hK⟩:=step x hx;obtain rfl:=Bw K U hI;have:=hK y;rw[aD.add_comm,Act.put_comm a _ _ (fun d hd=>(Oper.apart_spec r).2.1 d hd),Array.setIfInBounds_comm _ _ (Ne.symm ae)]at this;exact this
def wpG (P:Program)(aM:Array Oper)(C:Z→Prop)(R:Z→Z→Prop)(am:Nat→Option (bu R))(Q:aD→Act→Prop):Nat→LO_→aD→Act→Prop
 | _,[],S,a=>Q S a
 | k,o::rest,S,a=>if Region.wanted o (yielded aM a.tmps)=true then
   match am k with
   | none=>∃ v,(∀ w,C w→S.at aM o w→jL P o a w v)∧wpG P aM C R am Q (k+1) rest S (a.put o.dst v)
   | some g=>(∀ w,C w→S.at aM o w→dJ P o a w fun u w'=>R w w'∧∃ x,u=g.val x∧∀ φ,g.fact x=some φ→φ w')∧∀ x,wpG P aM C R am Q (k+1) rest (S.add o (g.fact x)) (a.put o.dst (g.val x))
  else wpG P aM C R am Q (k+1) rest S (a.put o.dst undef)
theorem EH {Q:aD→Act→Prop}{k:Nat}{o:Oper}{rest:LO_}{S:aD}{a:Act}(h:wpG P aM C R am Q k (o::rest) S a):∃ g,eI P aM C R am k o S a g∧∀ x,wpG P aM C R am Q (k+1) rest (S.add o (g.fact x)) (a.put o.dst (g.val x)):=by
 unfold wpG at h;unfold eI
 split at h
 ·rename_i c
  simp only[c,if_true]
  cases hF:am k with
  | none=>simp only[hF]at h;obtain⟨v,h1,h2⟩:=h;exact⟨.exact R v,⟨v,rfl,h1⟩,fun _=>by simpa only[bu.exact,IJ] using h2⟩
  | some g=>simp only[hF]at h;exact⟨g,⟨rfl,h.1⟩,h.2⟩
 ·rename_i c
  exact⟨.exact R undef,by rw[if_neg c],fun _=>by simpa only[bu.exact,IJ] using h⟩
theorem lT {Q:aD→Act→Prop}(q:∀ w w',C w→R w w'→C w'){n g:Nat}(hs:Region.noSelect aM=true)(c:∀ s,HeadInv E aM n s→∀ i,i<n→s.getD i true=false→∀ j∈Region.ready E aM s,j<n):∀ (l:LO_) (k:Nat) (s:Array Bool) (S:aD) (a:Act),S.kept R→(∀ j,j<l.length→l[j]?=aM[k+j]?)→k+l.length=n→HeadInv E aM n s → Region.lexHead E aM g l.length k s=true→wpG P aM C R am Q k l S a→jB P E aM C R am (fun b S' a'=>Region.seqB E aM g n b=true∧Q S' a') l.length s S a
 | [],k,s,_,_,_,_,hk,_,hB,h=>fun _=>by
  have:k=n:=by simpa using hk
  subst this;exact⟨by simpa[Region.lexHead] using hB,h⟩
 | o::l,k,s,S,a,hk,hl,e,v,hB,h=>by
  have h0:aM[k]?=some o:=by simpa using (hl 0 i_).symm
  simp only[Jq,Region.lexHead,Jj]at hB;obtain⟨⟨hr,hf⟩,m⟩:=hB;have d:k<n:=by simp only[Jq]at e;omega
  have f:k∈Region.ready E aM s:=by simpa using hr
  obtain⟨r,hg,hK⟩:=EH h
  exact tk q h0 (Region.noSelect_spec hs) d c (fun b S' a' hL=>seqB_ready hL.1) l.length s S a r hk v (Region.free_spec h0 hf) f hg
   fun x=>lT q hs c l (k+1) _ _ _ (IQ hk o r x) (fun j hj=>by have:=hl (j+1) yza;simpa[Ji,Nat.add_comm 1 j] using this) (by simp only[Jq]at e;omega) (v.set f d) m (hK x)
theorem kp {am:Fence}{m:Nat}{d:Exit→Act→Z→Prop}:∀ (l:LO_) (k:Nat) (s:Array Bool) (a:Act) (w:Z),(∀ j,l[j]?=aM[k+j]?) → Region.seqB E aM l.length k s=true→wpListIn am m P aM d l a w→wpAnyIn am m P E aM d l.length s a w
 | [],_,_,_,_,_,hB,h=>⟨by simpa[Region.seqB] using hB,h⟩
 | o::l,k,s,a,w,hl,hB,h=>by
  have h0:aM[k]?=some o:=by simpa using (hl 0).symm
  simp only[Jq,Region.seqB,Jj,decide_eq_true_eq]at hB;refine⟨fun h1=>(by rw[hB.1]at h1;cases h1),fun i hi=>?_⟩;rw[hB.1]at hi;have b:i=k:=by simpa using hi
  subst b;have H:=fun a' w' h'=>kp (am:=am) (m:=m) (d:=d) l (i+1) (s.setIfInBounds i true) a' w' (fun j=>by have:=hl (j+1);simpa[Ji,Nat.add_comm 1 j] using this) hB.2 h';unfold wpOpIn;simp only[h0];unfold wpListIn at h
  split
  ·rename_i hw
   rw[if_pos hw]at h;exact Oper.wpIn_mono (fun a' w' h'=>H a' w' h') h
  ·rename_i hw
   rw[if_neg hw]at h;exact⟨h.1,H _ _ h.2⟩
def jI (aM:Array Oper)(n:Nat):Bool :=
 Region.noSelect aM&&(decide (n=aM.size)||(decide (n<aM.size)&&Region.sinkB .any aM n&&Region.chainB .any aM n))&&Region.lexHead .any aM (aM.size-n) n 0 (Array.replicate aM.size false)
theorem pM {n:Nat}(h:jI aM n=true):Region.noSelect aM=true∧n≤aM.size∧Region.lexHead .any aM (aM.size-n) n 0 (Array.replicate aM.size false)=true ∧∀ s,HeadInv .any aM n s→∀ i,i<n→s.getD i true=false→∀ j∈Region.ready .any aM s,j<n:=by
 simp only[jI,Jj,Bool.or_eq_true,decide_eq_true_eq]at h;obtain⟨⟨hs,hn⟩,hl⟩:=h;rcases hn with rfl|⟨⟨hn,h1⟩,h2⟩
 ·exact⟨hs,I6 _,hl,fun s _ i _ _ j hj=>by obtain⟨_,o,ho,_⟩:=mem_ready.1 hj;exact(Array.getElem?_eq_some_iff.1 ho).1⟩
 ·refine⟨hs,JA hn,hl,fun s v i hi z j hj=>?_⟩
  rcases Nat.lt_or_ge j n with h|h
  ·exact h
  ·exact absurd hj (tail_waits h1 h2 hn v _ i rfl hi z j h)
theorem gM {id:Nat}{Q:Exit→Act→Z→Prop}{a:Act}{w:Z}{l:LO_}(am:Nat→Option (bu R))(n:Nat)(hm:P.follows .mixedOrders=true)(hB:jI l.toArray n=true)(q:∀ w w',C w→R w w'→C w')(hC:C w.drew)(h:wpG P l.toArray C R am (fun S a'=>∀ w',C w'→S.all w'→wpList P l.toArray Q (l.drop n) a' w') 0 (l.take n) aD.none a):(Code.region id l.toArray true).wp P Q a w:=by
 obtain⟨hs,hn,b,c⟩:=pM hB;have hk:aD.none.kept R:=fun p hp=>hp.elim;have ha:∀ w',aD.none.all w':=fun w' p hp=>hp.elim;have x:n≤l.length:=by simpa using hn
 have cr:(l.take n).length=n:=by simp;omega
 have z:(l.drop n).length=l.toArray.size-n:=by simp
 have e:HeadInv .any l.toArray n (Array.replicate l.toArray.size false) :=
  ⟨by simp,fun j f _ hl=>(by rw[getD_replicate_false]at hl;cases hl),fun t _ ht=>getD_in (by simpa using ht) (getD_replicate_false _ _)⟩
 have A:=lT q hs c (l.take n) 0 _ aD.none a hk (fun j hj=>by
  have af:j<n:=by rw[cr]at hj;exact hj
  simp[af]) (by simpa using cr) e (by rw[cr];exact b) h
 have:=jA (d:=Q) q (l.toArray.size-n) (fun s S a' w' hw hS hL=>by
  have:=wpAny_of_seq (md:=.any) (Q':=Q) (l.drop n) n s a' w' (fun j=>by simp[List.getElem?_drop]) (by rw[z];exact hL.1) (hL.2 w' hw hS)
  rwa [z]at this) _ _ _ _ _ hk hC (ha _) A
 rw[cr,show n+(l.toArray.size-n)=l.toArray.size by omega]at this;exact wp_region_any hm this
theorem ms {id k r:Nat}{Q:Exit→Act→Z→Prop}{a:Act}{w:Z}{l:LO_}(am:Nat→Option (bu R))(n:Nat)(hm:P.follows .mixedOrders=true)(hB:jI l.toArray n=true)(hd:l.all mP=true)(q:∀ w w',C w→R w w'→C w')(hC:C w.drew)(h:wpG P l.toArray C R am (fun S a'=>∀ w',C w'→S.all w'→wpListIn (Fence.wide.inRound r) k P l.toArray Q (l.drop n) a' w') 0 (l.take n) aD.none a):(Code.region id l.toArray true).wpIn (Fence.wide.inRound r) k P Q a w:=by
 obtain⟨hs,hn,b,c⟩:=pM hB;have hk:aD.none.kept R:=fun p hp=>hp.elim;have ha:∀ w',aD.none.all w':=fun w' p hp=>hp.elim;have x:n≤l.length:=by simpa using hn
 have cr:(l.take n).length=n:=by simp;omega
 have z:(l.drop n).length=l.toArray.size-n:=by simp
 have e:HeadInv .any l.toArray n (Array.replicate l.toArray.size false) :=
  ⟨by simp,fun j f _ hl=>(by rw[getD_replicate_false]at hl;cases hl),fun t _ ht=>getD_in (by simpa using ht) (getD_replicate_false _ _)⟩
 have A:=lT q hs c (l.take n) 0 _ aD.none a hk (fun j hj=>by
  have af:j<n:=by rw[cr]at hj;exact hj
  simp[af]) (by simpa using cr) e (by rw[cr];exact b) h
 have:=gS (l:=r) (n:=k) (d:=Q) (fun j o ho=>List.all_eq_true.1 hd o (List.mem_of_getElem? (by simpa using ho))) q (l.toArray.size-n) (fun s S a' w' hw hS hL=>by
  have:=kp (E:=.any) (am:=Fence.wide.inRound r) (m:=k) (d:=Q) (l.drop n) n s a' w' (fun j=>by simp[List.getElem?_drop]) (by rw[z];exact hL.1) (hL.2 w' hw hS)
  rwa [z]at this) _ _ _ _ _ hk hC (ha _) A
 rw[cr,show n+(l.toArray.size-n)=l.toArray.size by omega]at this;exact wpIn_region_any hm this
end
section
attribute [go_sem] dJ eN
def Bel (w w':Z):Prop:=Bw_ w w'
theorem Bel.refl (w:Z):Bel w w:=Ja _ _
theorem Bel.trans {a b c:Z}(h:Bel a b)(k:Bel b c):Bel a c:=bt h k
def gw {R:Z→Z→Prop}:List (Nat×bu R)→Nat→Option (bu R)
 | [],_=>none
 | (n,g)::l,k=>if n=k then some g else gw l k
def pq:Op→Bool
 | .move _|.assign _|.pick ..|.load ..|.binOp ..|.unOp ..|.convert ..|.slice ..|.fieldAddr ..|.field ..|.indexAddr ..|.index ..|.extract ..|.build ..|.makeInterface ..|.makeFunc ..=>true
 | .call { callee:=.builtin .len,.. }|.call { callee:=.builtin .cap,.. }|.call { callee:=.builtin .min,.. }|.call { callee:=.builtin .max,.. }=>true
 | _=>false
section
variable {P:Program}{aM:Array Oper}{C:Z→Prop}{R:Z→Z→Prop}{am:Nat→Option (bu R)}{Q:aD→Act→Prop}
theorem qr {α:Type}{r:Result α}{g:α→V_}{f:FuncId}{az:AV_}{w:Z}:r.andThen (fun x w=>.ok (Next.value (g x)) w)≠.ok (.enter f az) w:=by
 cases r<;>simp[Result.andThen]
theorem qk {ρ:Operand→V_}{o:Oper}(h:pq o.op=true){w w':Z}{f:FuncId}{az:AV_}:(execOp ρ o).run P w≠.ok (.enter f az) w':=by
 unfold execOp;unfold pq at h
 split at h
 all_goals first
  | (rename_i he;simp only[he];simp only[Sem.run_bind,Sem.run_pure];first|exact qr|exact qr (g:=fun x=>x)|(simp;done))
  | (rename_i he;simp only[he,resolve,invoke,builtin,Sem.run_bind,Sem.run_pure,Result.andThen_ok];exact qr (g:=fun x=>x))
  | cases h
theorem pg {o:Oper}{a:Act}{C':Z→Prop}{w:Z}{v:V_}(hp:pq o.op=true)(h:o.quietAt P a C' w v):jL P o a w v:=by
 unfold Oper.quietAt at h;unfold jL;have aI:=fun f az w'=>qk (P:=P) (ρ:=a.eval) hp (w:=w) (w':=w') (f:=f) (az:=az);generalize (execOp a.eval o).run P w=r at *
 cases r with
 | ok n w' =>
  cases n<;>simp only[Oper.quietUpon]at h<;>simp only[il]
  case value u=>exact h
  case skip=>exact h
  case enter f az=>exact absurd rfl (aI f az w')
 | halt x w'=>simp only[Oper.quietUpon]at h
theorem wpG_skip {k:Nat}{o:Oper}{rest:LO_}{S:aD}{a:Act}(hw:Region.wanted o (yielded aM a.tmps)=false)(h:∀ K:Act→Prop,(∀ a,wpG P aM C R am Q (k+1) rest S a→K a)→wpQuiet P aM C K [o] a):wpG P aM C R am Q k (o::rest) S a:=by
 have:=h _ fun _ h=>h;unfold wpQuiet at this;rw[if_neg (by rw[hw];exact Bool.false_ne_true)]at this;unfold wpG;rw[if_neg (by rw[hw];exact Bool.false_ne_true)];exact this
theorem wpG_quiet {k:Nat}{o:Oper}{rest:LO_}{S:aD}{a:Act}(hF:am k=none)(hp:pq o.op=true)(h:∀ K:Act→Prop,(∀ a,wpG P aM C R am Q (k+1) rest S a→K a)→wpQuiet P aM (fun _=>True) K [o] a):wpG P aM C R am Q k (o::rest) S a:=by
 have:=h _ fun _ h=>h;unfold wpQuiet at this;unfold wpG
 split
 ·rename_i hw
  rw[if_pos hw]at this;obtain⟨v,h1,h2⟩:=this;simp only[hF];exact⟨v,fun w hw _=>pg hp (h1 w trivial),h2⟩
 ·rename_i hw
  rw[if_neg hw]at this;exact this
theorem aS {k:Nat}{o:Oper}{rest:LO_}{S:aD}{a:Act}(g:bu R)(hF:am k=some g)(hw:Region.wanted o (yielded aM a.tmps)=true)(h1:∀ (w':Z) (G:V_→Z→Prop),C w'→S.at aM o w'→(∀ x bc,R w' bc→(∀ φ,g.fact x=some φ→φ bc)→G (g.val x) bc)→dJ P o a w' G)(h2:∀ x (K:Act→Prop),(∀ a,wpG P aM C R am Q (k+1) rest (S.add o (g.fact x)) a→K a)→K (a.put o.dst (g.val x))):wpG P aM C R am Q k (o::rest) S a:=by
 unfold wpG;rw[if_pos hw];simp only[hF];exact⟨fun w' hC hS=>h1 w' _ hC hS fun x bc hR i=>⟨hR,x,rfl,i⟩,fun x=>h2 x _ fun _ h=>h⟩
theorem aq {k:Nat}{o:Oper}{rest:LO_}{S:aD}{a:Act}{v:V_}(hF:am k=some (.exact R v))(hw:Region.wanted o (yielded aM a.tmps)=true)(h1:∀ (w':Z) (G:V_→Z→Prop),C w'→S.at aM o w'→(∀ bc,R w' bc→G v bc)→dJ P o a w' G)(h2:∀ (K:Act→Prop),(∀ a,wpG P aM C R am Q (k+1) rest S a→K a)→K (a.put o.dst v)):wpG P aM C R am Q k (o::rest) S a:=by
 refine aS (.exact R v) hF hw (fun w' G hC hS hG=>h1 w' G hC hS fun bc hR=>hG () bc hR (fun _ h=>by cases h)) (fun x K hK=>h2 K fun a ha=>hK a ?_);simp only[bu.exact,IJ];exact ha
theorem wpG_nilOk {k:Nat}{o:Oper}{rest:LO_}{S:aD}{a:Act}{x:Operand}{p:Addr}(hF:am k=none)(ho:o.op=.nilCheck x)(hx:a.eval x=.pointer (some p))(hw:Region.wanted o (yielded aM a.tmps)=true)(h:∀ (K:Act→Prop),(∀ a,wpG P aM C R am Q (k+1) rest S a→K a)→K (a.put o.dst (.pointer (some p)))):wpG P aM C R am Q k (o::rest) S a:=by
 unfold wpG;rw[if_pos hw];simp only[hF];refine⟨.pointer (some p),fun w _ _=>?_,h _ fun _ h=>h⟩;unfold jL execOp;rw[ho];simp only[hx,Sem.run_pure,il,and_self]
theorem at0 {S:aD}{o F:Oper}{φ:Z→Prop}{w:Z}(h:(S.add o (some φ)).at aM F w)(ha:o.apart aM F=false):φ w:=(aD.at_some h).1 ha
theorem Il {S:aD}{o F:Oper}{φ:Option (Z→Prop)}{w:Z}(h:(S.add o φ).at aM F w):S.at aM F w:=fun p hp=>h p (.inr hp)
theorem at1 {S:aD}{o F o1:Oper}{φ:Z→Prop}{φ1:Option (Z→Prop)}{w:Z}(h:((S.add o (some φ)).add o1 φ1).at aM F w)(ha:o.apart aM F=false):φ w:=at0 (Il h) ha
theorem mn {S:aD}{o:Oper}{φ:Z→Prop}{w:Z}(h:(S.add o (some φ)).all w):φ w:=(aD.all_some.1 h).1
theorem aE {id:Nat}{Q:Exit→Act→Z→Prop}{a:Act}{w:Z}{l:LO_}(L:List (Nat×bu Bel))(hm:P.follows .mixedOrders=true)(hB:jI l.toArray l.length=true)(h:wpG P l.toArray (Bel w) Bel (gw L) (fun S a'=>∀ w',Bel w w'→S.all w'→Q .normal a' w') 0 l aD.none a):(Code.region id l.toArray true).wp P Q a w :=
 gM (gw L) l.length hm hB (fun _ _ h k=>Bel.trans h k) (b_drew w) (by rw[List.take_length,List.drop_length];exact h)
theorem aU {id:Nat}{Q:Exit→Act→Z→Prop}{a:Act}{w:Z}{l:LO_}(n:Nat)(L:List (Nat×bu Bel))(hm:P.follows .mixedOrders=true)(hB:jI l.toArray n=true)(h:wpG P l.toArray (Bel w) Bel (gw L) (fun S a'=>∀ w',Bel w w'→S.all w'→wpList P l.toArray Q (l.drop n) a' w') 0 (l.take n) aD.none a):(Code.region id l.toArray true).wp P Q a w :=
 gM (gw L) n hm hB (fun _ _ h k=>Bel.trans h k) (b_drew w) h
theorem kx {id k r:Nat}{Q:Exit→Act→Z→Prop}{a:Act}{w:Z}{l:LO_}(n:Nat)(L:List (Nat×bu Bel))(hm:P.follows .mixedOrders=true)(hB:jI l.toArray n=true)(hd:l.all mP=true)(h:wpG P l.toArray (Bel w) Bel (gw L) (fun S a'=>∀ w',Bel w w'→S.all w'→wpListIn (Fence.wide.inRound r) k P l.toArray Q (l.drop n) a' w') 0 (l.take n) aD.none a):(Code.region id l.toArray true).wpIn (Fence.wide.inRound r) k P Q a w :=
 ms (gw L) n hm hB hd (fun _ _ h k=>Bel.trans h k) (b_drew w) h
theorem aT {f:FuncId}{az:AV_}{w:Z}{v:V_}{G:V_→Z→Prop}(hG:∀ bc,Bel w bc→G v bc)(h:Calls P f az w fun e w'=>e=.returned v∧Bw_ w w'):Calls P f az w fun e bc=>∃ u,e=.returned u∧G u bc:=h.mono fun _ _ ⟨he,hb⟩=>⟨v,he,hG _ hb⟩
end
theorem cG {T T':Prop}(k:T')(h:Hid T'→T:=by intro k;(repeat(first|(refine wpG_skip (by kernel_rfl) (fun K hK=>?_);go_big_quiet_skip;refine wpQuiet_nil (hK _ ?_);clear hK K)|(refine wpG_quiet (by rfl) (by rfl) (fun K hK=>?_);go_big_quiet_want;go_big_quiet_op;go_big_quiet_on;refine wpQuiet_nil (hK _ ?_);clear hK K)|(refine wpG_nilOk rfl rfl rfl (by kernel_rfl) (fun K hK=>?_);go_simp;refine hK _ ?_;clear hK K)));exact k.o):T:=h k
theorem cO {T T':Prop}(k:T')(h:Hid T'→T:=by intro k;go_simp;refine hK _ ?_;(repeat(first|(refine wpG_skip (by kernel_rfl) (fun K hK=>?_);go_big_quiet_skip;refine wpQuiet_nil (hK _ ?_);clear hK K)|(refine wpG_quiet (by rfl) (by rfl) (fun K hK=>?_);go_big_quiet_want;go_big_quiet_op;go_big_quiet_on;refine wpQuiet_nil (hK _ ?_);clear hK K)|(refine wpG_nilOk rfl rfl rfl (by kernel_rfl) (fun K hK=>?_);go_simp;refine hK _ ?_;clear hK K)));exact k.o):T:=h k
theorem gE_ {P:Program}{aM:Array Oper}{C:Z→Prop}{R:Z→Z→Prop}{am:Nat→Option (bu R)}{Q:aD→Act→Prop}{k:Nat}{o:Oper}{rest:LO_}{S:aD}{a:Act}{v:V_}(h1:∀ (w':Z) (G:V_→Z→Prop),C w'→S.at aM o w'→(∀ bc,R w' bc→G v bc)→dJ P o a w' G)(h2:∀ (K:Act→Prop),(∀ a,wpG P aM C R am Q (k+1) rest S a→K a)→K (a.put o.dst v))(hF:am k=some (.exact R v):=by rfl)(hw:Region.wanted o (yielded aM a.tmps)=true:=by kernel_rfl):wpG P aM C R am Q k (o::rest) S a:=aq hF hw h1 h2
theorem gl_ {ap T':Prop}{P:Program}{aM:Array Oper}{C:Z→Prop}{R:Z→Z→Prop}{am:Nat→Option (bu R)}{Q:aD→Act→Prop}{k:Nat}{o:Oper}{rest:LO_}{S:aD}{a:Act}{v:V_}(c:ap)(k':T')(hF:am k=some (.exact R v):=by rfl)(hw:Region.wanted o (yielded aM a.tmps)=true:=by kernel_rfl)(h1:∀ (w':Z) (G:V_→Z→Prop),ap→C w'→S.at aM o w'→(∀ bc,R w' bc→G v bc)→dJ P o a w' G:=by intro w' G c hB hS hG;have c':=IF hB c;go_simp;exact hG _ (Bel.refl _))(h2:Hid T'→∀ (K:Act→Prop),(∀ a,wpG P aM C R am Q (k+1) rest S a→K a)→K (a.put o.dst v):=by intro k K hK;go_simp;refine hK _ ?_;(repeat(first|(refine wpG_skip (by kernel_rfl) (fun K hK=>?_);go_big_quiet_skip;refine wpQuiet_nil (hK _ ?_);clear hK K)|(refine wpG_quiet (by rfl) (by rfl) (fun K hK=>?_);go_big_quiet_want;go_big_quiet_op;go_big_quiet_on;refine wpQuiet_nil (hK _ ?_);clear hK K)|(refine wpG_nilOk rfl rfl rfl (by kernel_rfl) (fun K hK=>?_);go_simp;refine hK _ ?_;clear hK K)));exact k.o):wpG P aM C R am Q k (o::rest) S a:=gE_ (fun w' G x y z=>h1 w' G c x y z) (h2 k') hF hw
theorem gj_ {T':Prop}{P:Program}{aM:Array Oper}{C:Z→Prop}{R:Z→Z→Prop}{am:Nat→Option (bu R)}{Q:aD→Act→Prop}{k:Nat}{o:Oper}{rest:LO_}{S:aD}{a:Act}{v:V_}(h1:∀ (w':Z) (G:V_→Z→Prop),C w'→S.at aM o w'→(∀ bc,R w' bc→G v bc)→dJ P o a w' G)(k':T')(hF:am k=some (.exact R v):=by rfl)(hw:Region.wanted o (yielded aM a.tmps)=true:=by kernel_rfl)(h2:Hid T'→∀ (K:Act→Prop),(∀ a,wpG P aM C R am Q (k+1) rest S a→K a)→K (a.put o.dst v):=by intro k K hK;go_simp;refine hK _ ?_;(repeat(first|(refine wpG_skip (by kernel_rfl) (fun K hK=>?_);go_big_quiet_skip;refine wpQuiet_nil (hK _ ?_);clear hK K)|(refine wpG_quiet (by rfl) (by rfl) (fun K hK=>?_);go_big_quiet_want;go_big_quiet_op;go_big_quiet_on;refine wpQuiet_nil (hK _ ?_);clear hK K)|(refine wpG_nilOk rfl rfl rfl (by kernel_rfl) (fun K hK=>?_);go_simp;refine hK _ ?_;clear hK K)));exact k.o):wpG P aM C R am Q k (o::rest) S a:=gE_ h1 (h2 k') hF hw
theorem gk_ {P:Program}{aM:Array Oper}{C:Z→Prop}{R:Z→Z→Prop}{am:Nat→Option (bu R)}{Q:aD→Act→Prop}{k:Nat}{o:Oper}{rest:LO_}{S:aD}{a:Act}(g:bu R)(h1:∀ (w':Z) (G:V_→Z→Prop),C w'→S.at aM o w'→(∀ x bc,R w' bc→(∀ φ,g.fact x=some φ→φ bc)→G (g.val x) bc)→dJ P o a w' G)(h2:∀ x (K:Act→Prop),(∀ a,wpG P aM C R am Q (k+1) rest (S.add o (g.fact x)) a→K a)→K (a.put o.dst (g.val x)))(hF:am k=some g:=by rfl)(hw:Region.wanted o (yielded aM a.tmps)=true:=by kernel_rfl):wpG P aM C R am Q k (o::rest) S a:=aS g hF hw h1 h2
theorem rk_ {P:Program}{id:Nat}{Q:Exit→Act→Z→Prop}{a:Act}{w:Z}{l:LO_}(L:List (Nat×bu Bel))(h:wpG P l.toArray (Bel w) Bel (gw L) (fun S a'=>∀ w',Bel w w'→S.all w'→Q .normal a' w') 0 l aD.none a)(hm:P.follows .mixedOrders=true:=by kernel_rfl)(hB:jI l.toArray l.length=true:=by kernel_rfl):(Code.region id l.toArray true).wp P Q a w:=aE L hm hB h
end
section
variable {P:Program}
theorem eH {X:Nat→Prop}{w w':Z}{bZ:Nat}{e:T_}{size:Nat}{v:V_}{n:Nat}{xs:LV_}(h:w.ownsRow bZ e size v n xs)(hc:Chg X w w')(hX:∀ k,bZ≤k→¬X k):w'.ownsRow bZ e size v n xs:=by
 obtain⟨h1,h2⟩:=h;refine⟨h1,?_⟩;rcases h2 with h2|⟨g,ah,aH,hv,hg,hh,r⟩
 ·exact .inl h2
 ·exact .inr ⟨g,ah,aH,hv,hg,hc.at hh (hX g hg),r⟩
theorem Ci {am:Fence}{k:Nat}{aM:Array Oper}{rest:LO_}{o:Oper}{a:Act}{Q:Exit→Act→Z→Prop}(wr:Z)(l:LV_)(e:T_)(av:o.guard=none)(s x:Operand)(t:T_)(ho:o.op=.call { callee:=.builtin .append,args:=#[s,x],argTypes:=#[t,t] })(bZ:Nat)(z:V_)(size bytes:Nat)(ht:P.underlying t=some (.slice e))(r:(P.info? e).map (fun i=>(i.zero,i.size,i.bytes))=some (some z,size,bytes))(B:z.cells.size=size)(a6:0<size)(v:V_)(n:Nat)(xs:LV_)(hs:a.eval s=v)(aw:wr.ownsRow bZ e size v n xs)(c:Nat)(hx:a.eval x=.slice (some ⟨wr.heap.size,0,none⟩) 1 c)(hl:l.length=size)(h1:∀ u∈l,u.oneCell'=true)(d:(n+1)*bytes≤140737488355328)(aS:0<bytes)(aB:bZ≤wr.heap.size)(h:∀ g ah w',w'.ownsRow bZ e size (.slice (some ⟨g,0,none⟩) (n+1) ah) (n+1) (xs++l)→B_ bZ wr w'→wpListIn am k P aM Q rest (a.put o.dst (.slice (some ⟨g,0,none⟩) (n+1) ah)) w'):wpListIn am k P aM Q (o::rest) a (wr.alloc (.cells l.toArray e)):=by
 obtain⟨i,hi,hz,ao,aG⟩:=info_parts r;have hn:n+1≤(n+1)*bytes:=Nat.le_mul_of_pos_right _ aS;refine wpListIn_append_own _ av s x t ho bZ e i z size bytes ht hi hz ao aG B a6 v n xs hs (aw.alloc _) ⟨wr.heap.size,0,none⟩ 1 c l hx yzh ?_ h1 yzb d yza ?_
 ·exact Mg
 ·intro v' w' h2 h3 _
  obtain⟨g,ah,rfl⟩:=ownsRow_succ h2;exact ML
def mp (s bZ:Nat)(t e:T_)(size:Nat)(U:Z)(n:Nat)(cells:LV_):Prop:=∃ v,U.heap[s]?=some (.cells #[v] t (0,0))∧U.ownsRow bZ e size v n cells
theorem mp.chg {s bZ:Nat}{t e:T_}{size:Nat}{U U':Z}{n:Nat}{cells:LV_}{X:Nat→Prop}(h:mp s bZ t e size U n cells)(hc:Chg X U U')(hX:∀ k,X k→k≠s∧k<bZ):mp s bZ t e size U' n cells:=by
 obtain⟨v,h1,h2⟩:=h;exact⟨v,hc.at h1 fun hx=>(hX s hx).1 rfl,eH h2 hc fun k hk hx=>by have:=(hX k hx).2;omega⟩
theorem mp.stored {s bZ g ah:Nat}{t e:T_}{size:Nat}{U W:Z}{v:V_}{n:Nat}{cells:LV_}(ay:s<bZ)(hs:U.heap[s]?=some (.cells #[v] t (0,0)))(hB:B_ bZ U W)(aw:W.ownsRow bZ e size (.slice (some ⟨g,0,none⟩) n ah) n cells):mp s bZ t e size (W.setCell ⟨s,0,none⟩ (.slice (some ⟨g,0,none⟩) n ah)) n cells∧Chg (fun k=>k=s∨bZ≤k) U (W.setCell ⟨s,0,none⟩ (.slice (some ⟨g,0,none⟩) n ah)) :=
 ⟨⟨_,one_setCell (v:=v) ((hB.block s ay).trans hs),ownsRow_setCell_below aw ay _⟩,(IV hB fun k hk=>.inr hk).trans (Chg.setCell _ _ _ (.inl rfl))⟩
def dc (n:Nat)(cells:LV_):bu Bel:=⟨OA_×Nat,fun x=>.slice x.1 n x.2,fun x=>some fun w=>aO w (.slice x.1 n x.2) n cells,fun _ _ h _ _ i hB=>by cases h;exact aO.below i hB⟩
@[go_sem] theorem GJ (n:Nat) (cells:LV_) (a:OA_) (c:Nat):(dc n cells).val (a,c)=.slice a n c:=rfl
theorem ew {w':Z}{G:V_→Z→Prop}{n:Nat}{cells:LV_}{cs:AV_}{e:T_}(hG:∀ x bc,Bel w' bc→(∀ φ,(dc n cells).fact x=some φ→φ bc)→G ((dc n cells).val x) bc)(aR:cs=cells.toArray):G (.slice (some ⟨w'.heap.size,0,none⟩) n n) (w'.alloc (.cells cs e)):=by
 subst aR;exact hG (some ⟨w'.heap.size,0,none⟩,n) _ (af w' _) (fun φ h=>by cases h;exact aO.new w' cells n e n)
theorem dA {f:FuncId}{fn:Func}{c:Code}{az:AV_}{w:Z}{R:Ending→Z→Prop}(hf:P.funcs[f]?=some fn)(hb:fn.body=some c)(h:c.wp P (bodyPostM Fence.wide 1 P fn R) { tmps:=az++Array.replicate (fn.ntmps-az.size) undef,defers:=[] } w):Calls P f az w R :=
 (callsIn_wide (n:=1)).1 (callsIn_of_wp_marks (F:=Fence.wide) hf hb trivial (wpIn_wide.2 h))
theorem jq {fn:Func}{R:Ending→Z→Prop}{a:Act}{w:Z}{D:Nat}{v:V_}(hd:a.defers=[{ target:=.collected D,args:=#[] }])(hK:w.heap[D]?=some (.deferred (some [])))(hr:(results fn a.tmps).run P (w.putObj D (.deferred none))=.ok v (w.putObj D (.deferred none)))(hR:R (.returned v) (w.putObj D (.deferred none))):bodyPostM Fence.wide 1 P fn R .ret a w:=by
 unfold bodyPostM;simp only[hd];exact⟨by simp,.inl ⟨_,_,rfl,run_takeDeferred hK,v,hr,hR⟩⟩
theorem yI {fn:Func}{R:Ending→Z→Prop}{a:Act}{w:Z}{v:V_}(hd:a.defers=[])(hr:(results fn a.tmps).run P w=.ok v w)(hR:R (.returned v) w):bodyPostM Fence.wide 1 P fn R .ret a w:=by
 unfold bodyPostM;simp only[hd];exact⟨v,hr,hR⟩
end
end Go.Proofs.YtfjpghgdebpliaaGreatDoor
namespace Go.Proofs.YtfjpghgdebpliaaGreatDoor.Oct
open Go.Proofs.Tryz
end Go.Proofs.YtfjpghgdebpliaaGreatDoor.Oct
namespace Go.Proofs.YtfjpghgdebpliaaGreatDoor.Oct
open Go.Proofs.Tryz
def CP (l:List U8_):List U8_×Int:=if l.length≤65535 then (num l.length 2++l,0) else ([],5)
def Dt (l:List U8_):List U8_×Nat×Int :=
 if l.length<2 then ([],0,6) else if l.length<2+val (l.take 2) then ([],0,6) else ((l.drop 2).take (val (l.take 2)),2+val (l.take 2),0)
def texts:List (List U8_)→List U8_
 | []=>[]
 | l::r=>num l.length 2++l++texts r
def eT (r:List (List U8_)):Bool:=r.all fun l=>decide (l.length≤65535)
def row (r:List (List U8_)):List U8_×Int :=
 if r.length≤65535 then if eT r then (num r.length 2++texts r,0) else ([],5) else ([],5)
theorem xL (r:List (List U8_))(l:List U8_):texts (r++[l])=texts r++(num l.length 2++l):=by
 induction r with
 | nil=>simp[texts]
 | cons a r H=>simp[texts,H]
theorem gT (l:List U8_)(h:l.length≤65535):CP l=(num l.length 2++l,0):=if_pos h
theorem iN (l:List U8_)(h:¬l.length≤65535):CP l=([],5):=if_neg h
theorem jG (r:List (List U8_))(k:Nat)(h:k<r.length):texts (r.take (k+1))=texts (r.take k)++(num r[k].length 2++r[k]):=by
 rw[JB h,xL]
theorem jH (a b:List (List U8_)):texts (a++b)=texts a++texts b:=by
 induction a with
 | nil=>rfl
 | cons x a H=>simp[texts,H]
theorem ja (r:List (List U8_))(k:Nat):(texts (r.take k)).length≤(texts r).length:=by
 have h:=congrArg (fun r=>(texts r).length) (List.take_append_drop k r);simp only[jH,Jh]at h;omega
theorem mA (r:List (List U8_))(k:Nat)(h:k<r.length):r[k].length≤(texts r).length:=by
 have:=ja r (k+1);rw[jG r k h]at this;simp at this;omega
theorem sP (r:List (List U8_))(k:Nat)(h:k<r.length)(h':eT (r.take k)=true)(h2:r[k].length≤65535):eT (r.take (k+1))=true:=by
 rw[JB h];simp only[eT,List.all_append]at h'⊢;simp[h',h2]
theorem wQ (r:List (List U8_))(k:Nat)(h:k<r.length)(h2:¬r[k].length≤65535):eT r=false:=by
 rw[eT,List.all_eq_false];exact⟨r[k],Jz h,by simpa using h2⟩
theorem vg (r:List (List U8_))(h:¬r.length≤65535):row r=([],5):=if_neg h
theorem xY (r:List (List U8_))(h:r.length≤65535)(h':eT r=true):row r=(num r.length 2++texts r,0):=by rw[row,if_pos h,if_pos h']
theorem Di (r:List (List U8_))(h:r.length≤65535)(h':eT r=false):row r=([],5):=by rw[row,if_pos h,h'];rfl
end Go.Proofs.YtfjpghgdebpliaaGreatDoor.Oct
namespace Go.Proofs.YtfjpghgdebpliaaGreatDoor
open Go.Proofs.Tryz
open Go.RowKit Oct
def txV (r:q×Int):V_:=.tuple #[.string (bs r.1),.int .i64 r.2]
theorem di (a:q)(c:Int):txV (a,c)=.tuple #[s_ a,F c]:=rfl
theorem jz (l:q)(w:Z)(hs:l.length≤140737488355328):R_ 58 #[s_ l] w (txV (CP l)):=by
 by_cases h:l.length≤65535
 ·rw[gT l h,di]
  go_enter func58,ntmps58;go_wp2_with (go_at_call 61;refine(lF _ _ _ Y Y Y Y).mono ?_;rintro e w'⟨rfl,hB⟩);go_ret2;exact⟨by rw[←ic];rfl,hB⟩
 ·rw[iN l h,di]
  go_enter func58,ntmps58;go_wp2;go_ret2;exact⟨rfl,Ja _ _⟩
theorem fo (l:q)(w:Z)(hs:l.length≤140737488355328):R_ 66 #[s_ l] w (txV (CP l)):=by
 by_cases h:l.length≤65535
 ·rw[gT l h,di]
  go_enter func66,ntmps66;go_wp2_with (go_at_call 65;refine(mN _ _ _ Y Y Y Y).mono ?_;rintro e w'⟨rfl,hB⟩);go_ret2;exact⟨by rw[←ic];rfl,hB⟩
 ·rw[iN l h,di]
  go_enter func66,ntmps66;go_wp2;go_ret2;exact⟨rfl,Ja _ _⟩
theorem ky (v:V_)(r:LL_)(w:Z)(hr:aO w v r.length (fD r))(hs:(texts r).length≤1000000000)(hl:r.length≤1000000000):R_ 39 #[v] w (txV (row r)):=by
 obtain⟨a,ah,rfl,_,hc⟩:=hr
 by_cases h:r.length≤65535
 ·go_enter func39,ntmps39
  go_wp2_with (go_at_call 65;refine(mN _ _ _ Y Y Y Y).mono ?_;rintro e w1⟨rfl,aF⟩)
  go_loopw [4,5] (fun s i wr=>∃ k:Nat,∃ l:q,k≤r.length∧i=F k∧s=s_ l∧l.length≤1000000002∧Hid (l=num r.length 2++texts (r.take k)∧eT (r.take k)=true)∧Bw_ w wr) (fun _ i _=>r.length-(intOf i).toNat)
  case atStart=>exact⟨0,_,by omega,rfl,rfl,by simp,⟨by simp[texts],rfl⟩,aF⟩
  case round =>
   obtain⟨k,l,hk,rfl,rfl,a0,X,hB⟩:=hrel
   by_cases h0:k<r.length
   ·obtain⟨b,aL,rfl,y⟩:=hc k _ (lf r k h0)
    have c:=IF hB y;have hm:=mA r k h0;clear hc
    by_cases h1:r[k].length≤65535
    ·have ht:=O (gT r[k] h1)
     go_wp2_with (go_at_call 66;refine(fo _ _ Y).mono ?_;rw[ht.o,di];rintro e w2⟨rfl,ax⟩);go_roundw
     case rel =>
      obtain⟨rfl,hf⟩:=X.o;refine⟨k+1,_,by omega,by go_num,rfl,?_,⟨?_,sP r k h0 hf h1⟩,hB.trans (ax.mono hB.size)⟩
      ·have:=ja r (k+1)
       rw[jG r k h0]at this;simp at this⊢;omega
      ·rw[jG r k h0];simp
     case measure=>simp[intOf];omega
    ·have ht:=O (iN r[k] h1)
     go_wp2_with (go_at_call 66;refine(fo _ _ Y).mono ?_;rw[ht.o,di];rintro e w2⟨rfl,ax⟩);go_ret2;exact⟨by rw[Di r h (wQ r k h0 h1)];rfl,hB.trans (ax.mono hB.size)⟩
   ·obtain rfl:k=r.length:=Y
    go_wp2;go_ret2;obtain⟨rfl,hf⟩:=X.o;rw[List.take_length]at hf;exact⟨by rw[xY r h hf,List.take_length];rfl,hB⟩
 ·rw[vg r h,di]
  go_enter func39,ntmps39;go_wp2;go_ret2;exact⟨rfl,Ja _ _⟩
theorem uw (v:V_)(r:LL_)(w:Z)(hr:aO w v r.length (fD r))(hs:(texts r).length≤1000000000)(hl:r.length≤1000000000):R_ 36 #[v] w (txV (row r)):=by
 obtain⟨a,ah,rfl,_,hc⟩:=hr
 by_cases h:r.length≤65535
 ·have hb:=Bld.fresh w
  go_enter func36,ntmps36;go_wp2_with (first|(go_at_call 61;refine(lF _ _ _ Y Y Y Y).mono ?_;rintro e w1⟨rfl,aF⟩;have a8:=Bld.below hb aF)|(go_at_call 57;refine(dt _ _ _ _ _ a8 i_).mono ?_;rintro e w2⟨rfl,aY,ax⟩));have N:Bw_ w w2:=((Ja w.heap.size w).alloc (I6 _) _).trans ((aF.mono i_).trans ax);rw[JC]at aY;clear hb a8 aF ax
  go_loopw [19] (fun i wr=>∃ k:Nat,k≤r.length∧i=F k∧Bld w.heap.size w.heap.size (num r.length 2++texts (r.take k)) wr∧Hid (eT (r.take k)=true)∧Bw_ w wr) (fun i _=>r.length-(intOf i).toNat)
  case atStart=>exact⟨0,by omega,rfl,by simpa[texts] using aY,rfl,N⟩
  case round =>
   obtain⟨k,hk,rfl,hb,X,hB⟩:=hrel
   by_cases h0:k<r.length
   ·obtain⟨b,aL,rfl,y⟩:=hc k _ (lf r k h0)
    have c:=IF hB y;have hm:=mA r k h0;have aa:=ja r k;clear hc
    by_cases h1:r[k].length≤65535
    ·have ht:=O (gT r[k] h1)
     go_wp2_with (first|(go_at_call 58;refine(jz _ _ Y).mono ?_;rw[ht.o,di];rintro e w3⟨rfl,al⟩;have aX:=Bld.below hb al)|(go_at_call 57;refine(dt _ _ _ _ _ aX yza).mono ?_;rintro e w4⟨rfl,bC,aQ⟩));go_roundw
     case rel =>
      refine⟨k+1,by omega,by go_num,?_,sP r k h0 X.o h1,hB.trans ((al.mono hB.size).trans aQ)⟩;rw[jG r k h0];simpa using bC
     case measure=>simp[intOf];omega
    ·have ht:=O (iN r[k] h1)
     go_wp2_with (go_at_call 58;refine(jz _ _ Y).mono ?_;rw[ht.o,di];rintro e w3⟨rfl,al⟩);go_ret2;exact⟨by rw[Di r h (wQ r k h0 h1)];rfl,hB.trans (al.mono hB.size)⟩
   ·obtain rfl:k=r.length:=Y
    go_wp2_with (go_at_call 60;refine(iY _ _ _ _ hb).mono ?_;rintro e w3⟨rfl,al⟩);go_ret2;have hf:=X.o;rw[List.take_length]at hf;exact⟨by rw[xY r h hf];rfl,hB.trans al⟩
 ·rw[vg r h,di]
  go_enter func36,ntmps36;go_wp2;go_ret2;exact⟨rfl,Ja _ _⟩
def ub (E:Region.Mode)(aM:Array Oper):Bool :=
 (List.range aM.size).all fun i=>match aM[i]? with
  | some o=>o.after.all fun e=>!Region.binds E e||decide (e.on<i)
  | none=>true
def m8 (P:Program)(E:Region.Mode)(aM:Array Oper)(I:Array Bool→Act→Z→Prop)(Q:Exit→Act→Z→Prop):Nat→LO_→Prop
 | _,[]=>True
 | k,o::rest=>(∀ s a w,I s a w→s.getD k true=false→(∀ e∈o.after,Region.binds E e=true→s.getD e.on false=true) →
   (if Region.wanted o (yielded aM a.tmps)=true then o.wp P a w (fun a' w'=>I (s.setIfInBounds k true) a' w') Q else I (s.setIfInBounds k true) (a.put o.dst undef) w))∧m8 P E aM I Q (k+1) rest
section
variable {P:Program}{E:Region.Mode}{aM:Array Oper}{I:Array Bool→Act→Z→Prop}{Q:Exit→Act→Z→Prop}
theorem oS:∀ (l:LO_) (k i:Nat) (o:Oper),m8 P E aM I Q k l→l[i]?=some o → ∀ s a w,I s a w→s.getD (k+i) true=false→(∀ e∈o.after,Region.binds E e=true→s.getD e.on false=true) → (if Region.wanted o (yielded aM a.tmps)=true then o.wp P a w (fun a' w'=>I (s.setIfInBounds (k+i) true) a' w') Q else I (s.setIfInBounds (k+i) true) (a.put o.dst undef) w)
 | [],_,_,_,_,h=>by simp at h
 | o::l,k,0,F,hs,h=>by
  simp only[List.getElem?_cons_zero,Option.some.injEq]at h;subst h;exact hs.1
 | o::l,k,i+1,F,hs,h=>by
  have:=oS l (k+1) i F hs.2 yze;rw[show k+(i+1)=k+1+i by omega];exact this
theorem ro (hl:ub E aM=true){s:Array Bool}(hs:s.size=aM.size)(hr:Region.ready E aM s=[]):∀ n i,i<n→i<aM.size→s.getD i false=true:=by
 intro n
 induction n with
 | zero=>intro i h;omega
 | succ n H =>
  intro i hi L;have ho:aM[i]?=some aM[i]:=Array.getElem?_eq_getElem L;have h1:=List.all_eq_true.1 hl i (List.mem_range.2 L);simp only[ho,Array.all_eq_true_iff_forall_mem]at h1
  cases hb:s.getD i true with
  | true =>
   have hx:i<s.size:=Y;simp only[Array.getD_eq_getD_getElem?,Array.getElem?_eq_getElem hx,Option.getD_some]at hb⊢;exact hb
  | false =>
   have:i∈Region.ready E aM s:=mem_ready.2 ⟨hb,_,ho,fun e he A=>by
    have h2:=h1 e he;rw[A]at h2;have h3:e.on<i:=by simpa using h2
    exact H e.on Y Y⟩
   rw[hr]at this
   cases this
theorem kW:∀ (l:List Bool) (i:Nat),l[i]?=some false→(l.set i true).count false+1=l.count false
 | [],_,h=>by simp at h
 | b::l,0,h=>by simp at h;subst h;simp
 | b::l,i+1,h=>by
  have:=kW l i yze
  cases b<;>simp[List.set_cons_succ,List.count_cons]<;>omega
theorem At (b:ub E aM=true)(d:∀ s a w,I s a w→s.size=aM.size→(∀ i,i<aM.size→s.getD i false=true)→Q .normal a w)(c:m8 P E aM I Q 0 aM.toList):∀ (aa:Nat) (s:Array Bool) (a:Act) (w:Z),s.size=aM.size→s.toList.count false≤aa→I s a w→wpAny P E aM Q aa s a w:=by
 intro aa
 induction aa with
 | zero =>
  intro s a w hs hc hI
  have hr:Region.ready E aM s=[]:=by
   rw[List.eq_nil_iff_forall_not_mem];intro j hj;obtain⟨h1,o,h2,_⟩:=mem_ready.1 hj;have f:j<s.size:=by rw[hs];exact(Array.getElem?_eq_some_iff.1 h2).1
   have:false∈s.toList:=by
    simp only[Array.getD_eq_getD_getElem?,Array.getElem?_eq_getElem f,Option.getD_some]at h1;rw[←h1];simp
   have:=List.count_pos_iff.2 this;omega
  exact⟨hr,d s a w hI hs fun i hi=>ro b hs hr (i+1) i Y hi⟩
 | succ aa H =>
  intro s a w hs hc hI;refine⟨fun hr=>d s a w hI hs fun i hi=>ro b hs hr (i+1) i Y hi,fun i hi=>?_⟩;obtain⟨h1,o,h2,h3⟩:=mem_ready.1 hi;have L:i<s.size:=by rw[hs];exact(Array.getElem?_eq_some_iff.1 h2).1
  have g:s.toList[i]?=some false:=by
   simp only[Array.getD_eq_getD_getElem?,Array.getElem?_eq_getElem L,Option.getD_some]at h1;rw[Array.getElem?_toList,Array.getElem?_eq_getElem L,h1]
  have bm:=kW _ _ g
  have e:∀ a' w',I (s.setIfInBounds i true) a' w'→wpAny P E aM Q aa (s.setIfInBounds i true) a' w':=fun a' w' k =>
   H _ a' w' (by simpa using hs) (by rw[Array.toList_setIfInBounds];omega) k
  have hk:=oS aM.toList 0 i o c (by simpa using h2) s a w hI (by simpa using h1) h3;rw[I9]at hk;unfold wpOp;simp only[h2]
  split
  ·rename_i hw
   rw[if_pos hw]at hk;exact .inl (Oper.wp_mono e hk)
  ·rename_i hw
   rw[if_neg hw]at hk;exact e _ _ hk
theorem pW {id:Nat}{a:Act}{w:Z}{l:LO_}(I:Array Bool→Act→Z→Prop)(hm:P.follows .mixedOrders=true)(b:ub .any l.toArray=true)(h0:I (Array.replicate l.length false) a w.drew)(d:∀ s a w,I s a w→s.size=l.length→(∀ i,i<l.length→s.getD i false=true)→Q .normal a w)(c:m8 P .any l.toArray I Q 0 l):(Code.region id l.toArray true).wp P Q a w :=
 wp_region_any hm (At b (fun s a w h hs B=>d s a w h (by simpa using hs) (fun i hi=>B i yzm)) (by simpa using c) _ _ _ _ i_ i_ (by simpa using h0))
end
section
variable {am:Fence}{n:Nat}{P:Program}{α:Type}
def tb (am:Fence)(n:Nat)(P:Program)(gf:Nat)(lb:AV_)(Xr G:Z→Z→Prop)(Fin:Z→Prop)(El:α→AV_→Z→Prop)(ag:List α)(W:Z):Prop :=
 ∀ (l:Nat) (J Jx:List α→Z→Prop),
  (∀ aj U U',J aj U→Xr U U'→J aj U')→(∀ aj U U',Jx aj U→Xr U U'→Jx aj U') →
  (∀ aj x vs U,J aj U→El x vs U→aj++[x] <+: ag→YieldAt am (n-1) P l vs U fun e U' =>
   (e=.returned (.bool true)∧J (aj++[x]) U'∧G U U')∨(e=.returned (.bool false)∧Jx (aj++[x]) U')) →
  J [] W→CallsIn am n P gf (#[.func (.yield l) #[] #[]]++lb) W fun e W'=>(∃ v,e=.returned v)∧((J ag W'∧Fin W')∨∃ aj,aj <+: ag∧Jx aj W')
def eX (D:Nat)(U U':Z):Prop:=∀ k,k=D∨k=D+1→k<U.heap.size→U'.heap[k]?=U.heap[k]?
theorem eX.at {D:Nat}{U U':Z}(h:eX D U U'){k:Nat}{o:Obj}(hk:k=D∨k=D+1)(ho:U.heap[k]?=some o):U'.heap[k]?=some o :=
 (h k hk (Array.getElem?_eq_some_iff.1 ho).1).trans ho
theorem I_ {D:Nat}{X:Nat→Prop}{U U':Z}(h:Chg X U U')(hX:∀ k,k=D∨k=D+1→¬X k):eX D U U':=fun k hk aC=>h.block k aC (hX k hk)
def ll (D:Nat)(G:Z→Z→Prop)(I:List α→Z→Prop)(j:Code→List α→Z→Prop)(aj:List α)(U:Z):Exit→Act→Z→Prop
 | .normal,_,U'=>eX D U U'∧G U U'∧I aj U'
 | .ret,_,U'=>eX D U U'∧j .ret aj U'
 | .exit id,_,U'=>eX D U U'∧j (.exit id) aj U'
 | .goto t,_,U'=>eX D U U'∧j (.goto t) aj U'
 | .panic _,_,_=>False
 | .outgrown,_,_=>False
theorem L5 {T:Prop} (h:T:=by
 rintro aj x vs U⟨hi,hl,hk⟩ aS ao;have hy:=run_yield (P:=P) (args:=vs) hl (by rw[i];exact aK x vs U aS);rw[i]at hy;refine⟨fn,_,assign,body,hy,roundIn_of_wpIn af (wpIn_mono (r _ aj x vs U hi aS ao) ?_)⟩;clear hy;intro ea a' M ap
 cases ea with
 | normal=>?_
 | _=>exact ap
 obtain⟨m,al⟩:=ap;have c1:∀ {ab:Nat→Prop},Chg ab U M:=fun {ab}=>IG m;replace hl:=c1.at (X:=fun _=>False) hl (fun h=>h);replace hk:=c1.at (X:=fun _=>False) hk (fun h=>h);replace hi:=hI _ _ _ hi c1;replace aS:=L _ _ _ _ aS c1;have aC:=(Array.getElem?_eq_some_iff.1 hl).1;refine⟨_,run_beginRound hl (by rw[i]),?_⟩;obtain⟨U2,ai⟩:∃ U2,M.putObj (w.heap.size+1) (.loop { rec .ready none with state:=.busy })=U2:=⟨_,rfl⟩
 have a0:U2.heap[w.heap.size+1]?=some (.loop { rec .ready none with state:=.busy }):=by rw[←ai];exact World.putObj_heap_same aC
 have z:U2.heap[w.heap.size]?=some (.deferred (some [])):=by rw[←ai];exact(World.putObj_heap_other (by omega)).trans hk
 have c2:∀ {ab:Nat→Prop},ab (w.heap.size+1)→Chg ab M U2:=fun {ab} hz=>by rw[←ai];exact Chg.putObj _ _ _ hz
 rw[ai];refine wpIn_mono (al U2 (by have:=(Array.getElem?_eq_some_iff.1 a0).1;omega) (hI _ _ _ hi (c2 (.inr rfl))) (L _ _ _ _ aS (c2 (.inr rfl))) (c2 (.inr rfl))) ?_
 have O:∀ (f:Option Code) (U3:Z),U3.heap[w.heap.size+1]?=some (.loop { rec .ready none with state:=.busy })→U3.heap[w.heap.size]?=some (.deferred (some [])) →
   (Instr.endRound (w.heap.size+1) f).run P U3=.ok (.bool f.isNone) (U3.putObj (w.heap.size+1) (.loop (rec (if f.isNone then .ready else .done) f))) ∧
   (U3.putObj (w.heap.size+1) (.loop (rec (if f.isNone then .ready else .done) f))).heap[w.heap.size+1]?=some (.loop (rec (if f.isNone then .ready else .done) f)) ∧
   (U3.putObj (w.heap.size+1) (.loop (rec (if f.isNone then .ready else .done) f))).heap[w.heap.size]?=some (.deferred (some [])):=fun f U3 a4 aq=>by
  have:=run_endRound (P:=P) f a4;rw[i]at this⊢;exact⟨this,World.putObj_heap_same (Array.getElem?_eq_some_iff.1 a4).1,(World.putObj_heap_other (by omega)).trans aq⟩
 have stop:∀ (c:Code) (U3:Z),eX w.heap.size U2 U3→j c (aj++[x]) U3→∃ v U4,(Instr.endRound (w.heap.size+1) (some c)).run P U3=.ok v U4 ∧
   ((Ending.returned v=.returned (.bool true)∧(I (aj++[x]) U4∧U4.heap[w.heap.size+1]?=some (.loop (rec .ready none))∧U4.heap[w.heap.size]?=some (.deferred (some [])))∧G U U4) ∨
    (Ending.returned v=.returned (.bool false)∧∃ c,j c (aj++[x]) U4∧U4.heap[w.heap.size+1]?=some (.loop (rec .done (some c)))∧U4.heap[w.heap.size]?=some (.deferred (some [])))):=fun c U3 hc hx=>by
  obtain⟨hr,b6,bQ⟩:=O (some c) U3 (hc.at (.inr rfl) a0) (hc.at (.inl rfl) z);exact⟨_,_,hr,.inr ⟨rfl,c,H _ _ _ _ hx (Chg.putObj _ _ _ (.inr rfl)),b6,bQ⟩⟩
 rintro e a3 U3 hp
 cases e with
 | normal =>
  obtain⟨hc,y,aw⟩:=hp;obtain⟨hr,b6,bQ⟩:=O none U3 (hc.at (.inr rfl) a0) (hc.at (.inl rfl) z)
  exact⟨_,_,hr,.inl ⟨rfl,⟨hI _ _ _ aw (Chg.putObj _ _ _ (.inr rfl)),b6,bQ⟩,
   hY _ _ _ _ (c1.trans (c2 (.inr rfl))) y (Chg.putObj _ _ _ (.inr rfl))⟩⟩
 | ret=>exact stop .ret U3 hp.1 hp.2
 | exit id=>exact stop (.exit id) U3 hp.1 hp.2
 | goto t=>exact stop (.goto t) U3 hp.1 hp.2
 | panic ch=>exact hp.elim
 | outgrown=>exact hp.elim
):T:=h
theorem L7 {T:Prop} (h:T:=by
 rintro e W2⟨⟨v,rfl⟩,(⟨⟨hi,hl,hk⟩,hf⟩|⟨aj,ao,c,hi,hl,hk⟩)⟩
 ·have aC:=(Array.getElem?_eq_some_iff.1 hl).1
  exact⟨none,_,by have:=run_endLoop (P:=P) hl (by rw[i];simp);rw[i]at this;exact this,u _ (by simp;omega) (hI _ _ _ hi (Chg.putObj _ _ _ (.inr rfl))) (Y _ _ hf (Chg.putObj _ _ _ (.inr rfl))) ((World.putObj_heap_other (by omega)).trans hk)⟩
 ·have aC:=(Array.getElem?_eq_some_iff.1 hl).1
  exact⟨some c,_,by have:=run_endLoop (P:=P) hl (by rw[i];simp);rw[i]at this;exact this,s c aj _ (by simp;omega) ao (H _ _ _ _ hi (Chg.putObj _ _ _ (.inr rfl))) ((World.putObj_heap_other (by omega)).trans hk)⟩
):T:=h
theorem uH {g:Operand}{ps:Array Tmp}{assign body:Code}{Q:Exit→Act→Z→Prop}{a:Act}{w:Z}(ad:am.round=none)(h1:1≤n){gf:Nat}{lb:AV_}(hg:a.eval g=.func (.func gf) #[] lb)(au:am.fn gf)(eg:∀ az w,(callFunc gf az).run P w=.ok (.enter gf az) w){Xr G:Z→Z→Prop}{Fin:Z→Prop}{El:α→AV_→Z→Prop}{ag:List α}(hX:∀ U U',Xr U U'→eX w.heap.size U U')(hY:∀ a b c d,Chg (fun k=>k=w.heap.size∨k=w.heap.size+1) a b→G b c→Chg (fun k=>k=w.heap.size∨k=w.heap.size+1) c d→G a d)(Y:∀ U U',Fin U→Chg (fun k=>k=w.heap.size∨k=w.heap.size+1) U U'→Fin U')(B:∀ W,Bw_ w W→tb am (n-1) P gf lb Xr G Fin El ag W)(aK:∀ x vs U,El x vs U→vs.size=ps.size)(L:∀ x vs U U',El x vs U→Chg (fun k=>k=w.heap.size∨k=w.heap.size+1) U U'→El x vs U')(I:List α→Z→Prop)(j:Code→List α→Z→Prop)(aa:∀ aj U U',I aj U→Xr U U'→I aj U')(hI:∀ aj U U',I aj U→Chg (fun k=>k=w.heap.size∨k=w.heap.size+1) U U'→I aj U')(N:∀ c aj U U',j c aj U→Xr U U'→j c aj U')(H:∀ c aj U U',j c aj U→Chg (fun k=>k=w.heap.size∨k=w.heap.size+1) U U'→j c aj U')(h0:I [] w)(r:∀ (l:Nat) (aj:List α) (x:α) (vs:AV_) (U:Z),I aj U→El x vs U→aj++[x] <+: ag → assign.wpIn (am.inRound l) (n-1-1) P (Exit.then (fun a' M=>Bw_ U M∧∀ U2,w.heap.size+2≤U2.heap.size→I aj U2→El x vs U2→Chg (fun k=>k=w.heap.size∨k=w.heap.size+1) M U2 → body.wpIn (am.inRound l) (n-1-1) P (ll w.heap.size G I j (aj++[x]) U2) a' U2) (fun _ _ _=>False)) { tmps:=(ps.zip vs).foldl (fun t (p,v)=>t.setIfInBounds p v) a.tmps,defers:=[] } U)(u:∀ W,w.heap.size+2≤W.heap.size→I ag W→Fin W→W.heap[w.heap.size]?=some (.deferred (some []))→Q .normal { a with defers:={ target:=.collected w.heap.size,args:=#[] }::a.defers } W)(s:∀ c aj W,w.heap.size+2≤W.heap.size→aj <+: ag→j c aj W→W.heap[w.heap.size]?=some (.deferred (some []))→c.wpIn am n P Q { a with defers:={ target:=.collected w.heap.size,args:=#[] }::a.defers } W):(Code.rangeFunc g ps assign body).wpIn am n P Q a w:=by
 refine wpIn_rangeFunc fun fn af=>?_;rw[ad];obtain⟨rec,i⟩:∃ rec:LoopState→Option Code→Loop,rec=fun st pe=>{ state:=st,pending:=pe,fn,tmps:=a.tmps,params:=ps,assign,body,defers:=w.heap.size }:=⟨_,rfl⟩
 obtain⟨W1,aA⟩:∃ W1,(w.alloc (.deferred (some []))).alloc (.loop (rec .ready none))=W1:=⟨_,rfl⟩
 obtain⟨ah,bd,a8⟩:=jD w (.deferred (some [])) (.loop (rec .ready none));rw[aA]at ah bd a8;have ar:w.heap.size+2≤W1.heap.size:=by have:=(Array.getElem?_eq_some_iff.1 bd).1;omega
 refine⟨w.heap.size+1,[{ target:=.collected w.heap.size,args:=#[] }],W1,{ target:=.fn (.func gf) lb,args:=#[.func (.yield (w.heap.size+1)) #[] #[]] },W1,gf,
  #[.func (.yield (w.heap.size+1)) #[] #[]]++lb,W1,?_,?_,?_,?_,fun _=>h1,?_⟩
 ·exact M4
 ·simp only[resolve,hg]
  simp[go_sem]
 ·exact MQ
 ·simp[invoke,go_sem,eg]
 have J:∀ {U U':Z} {o F:Obj},Xr U U'→U.heap[w.heap.size+1]?=some o→U.heap[w.heap.size]?=some F→U'.heap[w.heap.size+1]?=some o∧U'.heap[w.heap.size]?=some F :=
  fun hc h h'=>⟨(hX _ _ hc).at (.inr rfl) h,(hX _ _ hc).at (.inl rfl) h'⟩
 refine(B W1 a8 (w.heap.size+1)
  (fun aj U=>I aj U∧U.heap[w.heap.size+1]?=some (.loop (rec .ready none))∧U.heap[w.heap.size]?=some (.deferred (some [])))
  (fun aj U=>∃ c,j c aj U∧U.heap[w.heap.size+1]?=some (.loop (rec .done (some c)))∧U.heap[w.heap.size]?=some (.deferred (some [])))
  (fun aj U U' hs hc=>⟨aa _ _ _ hs.1 hc,J hc hs.2.1 hs.2.2⟩)
  (fun aj U U' ⟨c,hs,hl,hk⟩ hc=>⟨c,N _ _ _ _ hs hc,J hc hl hk⟩)
  ?_ ⟨hI _ _ _ h0 (IG a8),bd,ah⟩).mono ?_
 ·exact L5
 ·exact L7
theorem rQ {g:Operand}{ps:Array Tmp}{assign body:Code}{Q:Exit→Act→Z→Prop}{a:Act}{w:Z}{D:Nat}(hD:w.heap.size=D){gf:Nat}{lb:AV_}(hg:a.eval g=.func (.func gf) #[] lb)(eg:∀ az w,(callFunc gf az).run P w=.ok (.enter gf az) w){Xr G:Z→Z→Prop}{Fin:Z→Prop}{El:α→AV_→Z→Prop}{ag:List α}(hX:∀ U U',Xr U U'→eX D U U')(hY:∀ a b c d,Chg (fun k=>k=D∨k=D+1) a b→G b c→Chg (fun k=>k=D∨k=D+1) c d→G a d)(Y:∀ U U',Fin U→Chg (fun k=>k=D∨k=D+1) U U'→Fin U')(B:∀ W,B_ D w W→tb Fence.wide 2 P gf lb Xr G Fin El ag W)(aK:∀ x vs U,El x vs U→vs.size=ps.size)(L:∀ x vs U U',El x vs U→Chg (fun k=>k=D∨k=D+1) U U'→El x vs U')(I:List α→Z→Prop)(j:Code→List α→Z→Prop)(aa:∀ aj U U',I aj U→Xr U U'→I aj U')(hI:∀ aj U U',I aj U→Chg (fun k=>k=D∨k=D+1) U U'→I aj U')(N:∀ c aj U U',j c aj U→Xr U U'→j c aj U')(H:∀ c aj U U',j c aj U→Chg (fun k=>k=D∨k=D+1) U U'→j c aj U')(h0:I [] w)(r:∀ (l:Nat) (aj:List α) (x:α) (vs:AV_) (U:Z),I aj U→El x vs U→aj++[x] <+: ag → assign.wpIn (Fence.wide.inRound l) 1 P (Exit.then (fun a' M=>Bw_ U M∧∀ U2,D+2≤U2.heap.size→I aj U2→El x vs U2→Chg (fun k=>k=D∨k=D+1) M U2 → body.wpIn (Fence.wide.inRound l) 1 P (ll D G I j (aj++[x]) U2) a' U2) (fun _ _ _=>False)) { tmps:=(ps.zip vs).foldl (fun t (p,v)=>t.setIfInBounds p v) a.tmps,defers:=[] } U)(u:∀ W,D+2≤W.heap.size→I ag W→Fin W→W.heap[D]?=some (.deferred (some []))→Q .normal { a with defers:={ target:=.collected D,args:=#[] }::a.defers } W)(s:∀ c aj W,D+2≤W.heap.size→aj <+: ag→j c aj W→W.heap[D]?=some (.deferred (some []))→c.wp P Q { a with defers:={ target:=.collected D,args:=#[] }::a.defers } W):(Code.rangeFunc g ps assign body).wp P Q a w:=by
 subst hD;exact(wpIn_wide (n:=3)).1 (uH rfl d_ hg trivial eg hX hY Y B aK L I j aa hI N H h0 r u fun c aj W h1 h2 h3 h4=>wpIn_wide.2 (s c aj W h1 h2 h3 h4))
end