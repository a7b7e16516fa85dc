/- Lemmas. -/
import Derived.Sort.KeysCollected
import Derived.Test.YtfjpghgdebpliaaGreatDoorContractPlaysK22
set_option linter.unusedSimpArgs false
set_option linter.unusedVariables false
set_option maxRecDepth 100000
set_option maxHeartbeats 16000000
namespace Go.Proofs.YtfjpghgdebpliaaGreatDoor
attribute [local irreducible] wpG
open Go.Proofs.Tryz
open Go.RowKit Oct
abbrev Ent:=q×List PR
abbrev LE_:=List Ent
def entAt:LE_→q→Nat×Bool
 | [],_=>(0,false)
 | e::I,k=>if lt e.1 k=true then ((entAt I k).1+1,(entAt I k).2) else (0,e.1==k)
def aM:LE_→q→Option (LP_)
 | [],_=>none
 | e::I,k=>if lt e.1 k=true then aM I k else if e.1=k then some e.2 else none
def bo:LE_→q→LE_
 | [],_=>[]
 | e::I,k=>if lt e.1 k=true then e::bo I k else if e.1=k then I else e::I
def dm:LE_→q→LP_→LE_
 | [],k,r=>[(k,r)]
 | e::I,k,r=>if lt e.1 k=true then e::dm I k r else if e.1=k then (k,r)::I else (k,r)::e::I
def iH (I:LE_):Prop:=I.Pairwise fun a b=>lt a.1 b.1=true
theorem eo {e:Ent}{I:LE_}{k:q}(h:lt e.1 k=true):entAt (e::I) k=((entAt I k).1+1,(entAt I k).2):=if_pos h
theorem dP {e:Ent}{I:LE_}{k:q}(h:¬lt e.1 k=true):entAt (e::I) k=(0,e.1==k):=if_neg h
theorem lC {e:Ent}{I:LE_}{k:q}(h:lt e.1 k=true):aM (e::I) k=aM I k:=if_pos h
theorem lD {e:Ent}{I:LE_}{k:q}(h:¬lt e.1 k=true):aM (e::I) k=if e.1=k then some e.2 else none:=if_neg h
theorem eO {e:Ent}{I:LE_}{k:q}(h:lt e.1 k=true):bo (e::I) k=e::bo I k:=if_pos h
theorem eP {e:Ent}{I:LE_}{k:q}(h:¬lt e.1 k=true):bo (e::I) k=if e.1=k then I else e::I:=if_neg h
theorem lA {e:Ent}{I:LE_}{k:q}{r:LP_}(h:lt e.1 k=true):dm (e::I) k r=e::dm I k r:=if_pos h
theorem lB {e:Ent}{I:LE_}{k:q}{r:LP_}(h:¬lt e.1 k=true):dm (e::I) k r=if e.1=k then (k,r)::I else (k,r)::e::I:=if_neg h
theorem qQ:∀ (I:LE_) (k:q),(entAt I k).1≤I.length
 | [],_=>I6 _
 | e::I,k=>by
  by_cases h:lt e.1 k=true
  ·rw[eo h]
   exact Nat.succ_le_succ (qQ I k)
  ·rw[dP h]
   exact Jl _
theorem oZ:∀ (I:LE_) (k:q) (i:Nat) (hi:i<I.length),i<(entAt I k).1→lt (I[i]).1 k=true
 | e::I,k,i,hi,h=>by
  by_cases hl:lt e.1 k=true
  ·rw[eo hl]at h
   cases i with
   | zero=>exact hl
   | succ i=>exact oZ I k i yzm Y
  ·rw[dP hl]at h
   omega
theorem oY:∀ (I:LE_) (k:q) (hi:(entAt I k).1<I.length),¬lt (I[(entAt I k).1]).1 k=true∧(entAt I k).2=((I[(entAt I k).1]).1==k)
 | e::I,k,hi=>by
  by_cases hl:lt e.1 k=true
  ·have e1:=eo (I:=I) hl
   have h2:(entAt I k).1<I.length:=by rw[e1]at hi;simpa using hi
   have h:=oY I k h2;simp only[e1,Jd];exact h
  ·have e1:=dP (I:=I) hl
   simp only[e1,Jm];exact⟨hl,trivial⟩
theorem nX:∀ (I:LE_) (k:q),I.length≤(entAt I k).1→(entAt I k).2=false
 | [],_,_=>rfl
 | e::I,k,h=>by
  by_cases hl:lt e.1 k=true
  ·rw[eo hl]at h⊢
   exact nX I k yze
  ·rw[dP hl]at h
   simp at h
theorem lE:∀ (I:LE_) (k:q),(aM I k).isSome=(entAt I k).2
 | [],_=>rfl
 | e::I,k=>by
  by_cases hl:lt e.1 k=true
  ·rw[eo hl,lC hl]
   exact lE I k
  ·rw[dP hl,lD hl]
   by_cases he:e.1=k
   ·simp[he]
   ·simp[he]
theorem sU {I:LE_}{k:q}(h:(entAt I k).2=true):(entAt I k).1<I.length:=by
 rcases Nat.lt_or_ge (entAt I k).1 I.length with h1|h1
 ·exact h1
 ·rw[nX I k h1]at h
  cases h
theorem qO:∀ (I:LE_) (k:q) (hi:(entAt I k).1<I.length),(entAt I k).2=true→aM I k=some (I[(entAt I k).1]).2∧(I[(entAt I k).1]).1=k
 | e::I,k,hi,h=>by
  by_cases hl:lt e.1 k=true
  ·have e1:=eo (I:=I) hl
   have h2:(entAt I k).1<I.length:=by rw[e1]at hi;simpa using hi
   have h3:(entAt I k).2=true:=by rw[e1]at h;exact h
   simp only[e1,Jd,lC hl];exact qO I k h2 h3
  ·have e1:=dP (I:=I) hl
   rw[e1]at h;have he:e.1=k:=by simpa using h
   simp only[e1,Jm,lD hl,if_pos he];exact⟨trivial,he⟩
theorem sT {I:LE_}{k:q}(h:(entAt I k).2=false):aM I k=none:=by
 have:=lE I k;rw[h]at this;simpa using this
theorem mm:∀ {I:LE_} {k:q},(entAt I k).2=false→bo I k=I
 | [],_,_=>rfl
 | e::I,k,h=>by
  by_cases hl:lt e.1 k=true
  ·rw[eo hl]at h
   rw[eO hl,mm h]
  ·rw[dP hl]at h
   rw[eP hl,if_neg yze]
theorem oW:∀ {I:LE_} {k:q},(entAt I k).2=true→bo I k=I.take (entAt I k).1++I.drop ((entAt I k).1+1)
 | [],_,h=>by cases h
 | e::I,k,h=>by
  by_cases hl:lt e.1 k=true
  ·have h2:(entAt I k).2=true:=by rw[eo hl]at h;exact h
   rw[eO hl,oW h2,eo hl];simp
  ·rw[dP hl]at h
   rw[eP hl,if_pos yze,dP hl];simp
theorem jY:∀ {I:LE_} (hr:iH I) (k:q),entAt (bo I k) k=((entAt I k).1,false)
 | [],_,_=>rfl
 | e::I,hr,k=>by
  obtain⟨h1,h2⟩:=List.pairwise_cons.1 hr
  by_cases hl:lt e.1 k=true
  ·rw[eO hl,eo hl,eo hl,jY h2 k]
  ·rw[eP hl,dP hl]
   by_cases he:e.1=k
   ·rw[if_pos he]
    cases I with
    | nil=>rfl
    | cons x xs =>
     have hx:=h1 x (Jn ..);rw[he]at hx;rw[dP (by rw[ia hx];decide)]
     have:(x.1==k)=false:=by
      rw[beq_eq_false_iff_ne];intro ap;rw[ap,gN]at hx
      cases hx
     rw[this]
   ·rw[if_neg he,dP hl]
    have:(e.1==k)=false:=by simpa using he
    rw[this]
theorem sS:∀ {I:LE_} (hr:iH I) (k:q) (r:LP_),dm I k r=(bo I k).take (entAt I k).1++[(k,r)]++(bo I k).drop (entAt I k).1
 | [],_,_,_=>rfl
 | e::I,hr,k,r=>by
  obtain⟨h1,h2⟩:=List.pairwise_cons.1 hr
  by_cases hl:lt e.1 k=true
  ·rw[lA hl,eO hl,eo hl,sS h2 k r]
   simp
  ·rw[lB hl,eP hl,dP hl]
   by_cases he:e.1=k
   ·simp[if_pos he]
   ·simp[if_neg he]
theorem iR:∀ {I:LE_} {k:q} {x:Ent},x∈bo I k→x∈I
 | [],_,_,h=>h
 | e::I,k,x,h=>by
  by_cases hl:lt e.1 k=true
  ·rw[eO hl]at h
   rcases JK.1 h with rfl|h
   ·exact Jn ..
   ·exact Jo _ (iR h)
  ·rw[eP hl]at h
   split at h
   ·exact Jo _ h
   ·exact h
theorem mem_entPut:∀ {I:LE_} {k:q} {r:LP_} {x:Ent},x∈dm I k r→x=(k,r)∨x∈I
 | [],k,r,x,h=>by
  rw[dm,Jp]at h;exact .inl h
 | e::I,k,r,x,h=>by
  by_cases hl:lt e.1 k=true
  ·rw[lA hl]at h
   rcases JK.1 h with rfl|h
   ·exact .inr (Jn ..)
   ·rcases mem_entPut h with h|h
    ·exact .inl h
    ·exact .inr (Jo _ h)
  ·rw[lB hl]at h
   split at h
   ·rcases JK.1 h with rfl|h
    ·exact .inl rfl
    ·exact .inr (Jo _ h)
   ·rcases JK.1 h with rfl|h
    ·exact .inl rfl
    ·exact .inr h
theorem iH.drop:∀ {I:LE_} (hr:iH I) (k:q),iH (bo I k)
 | [],hr,_=>hr
 | e::I,hr,k=>by
  obtain⟨h1,h2⟩:=List.pairwise_cons.1 hr
  by_cases hl:lt e.1 k=true
  ·rw[eO hl]
   exact List.pairwise_cons.2 ⟨fun x hx=>h1 x (iR hx),iH.drop h2 k⟩
  ·rw[eP hl]
   split
   ·exact h2
   ·exact hr
theorem BE {a b:q}(h:¬lt a b=true)(he:a≠b):lt b a=true:=by
 rw[jS]at h⊢;rcases List.le_iff_lt_or_eq.1 (List.not_lt.1 h) with h|h
 ·exact h
 ·exact absurd h.symm he
theorem iH.put:∀ {I:LE_} (hr:iH I) (k:q) (r:LP_),iH (dm I k r)
 | [],_,k,r=>List.pairwise_singleton ..
 | e::I,hr,k,r=>by
  obtain⟨h1,h2⟩:=List.pairwise_cons.1 hr
  by_cases hl:lt e.1 k=true
  ·rw[lA hl]
   refine List.pairwise_cons.2 ⟨fun x hx=>?_,iH.put h2 k r⟩;rcases mem_entPut hx with rfl|hx
   ·exact hl
   ·exact h1 x hx
  ·rw[lB hl]
   by_cases he:e.1=k
   ·rw[if_pos he]
    refine List.pairwise_cons.2 ⟨fun x hx=>?_,h2⟩;have:=h1 x hx;rw[he]at this;exact this
   ·rw[if_neg he]
    have hk:=BE hl he;refine List.pairwise_cons.2 ⟨fun x hx=>?_,hr⟩;rcases JK.1 hx with rfl|hx
    ·exact hk
    ·exact lt_trans' hk (h1 x hx)
theorem entGet_mem:∀ {I:LE_} {k:q} {r:LP_},aM I k=some r→(k,r)∈I
 | e::I,k,r,h=>by
  by_cases hl:lt e.1 k=true
  ·rw[lC hl]at h
   exact Jo _ (entGet_mem h)
  ·rw[lD hl]at h
   split at h
   ·rename_i he
    injection h with h
    subst he h;exact Jn ..
   ·cases h
theorem eK:∀ {I:LE_} (hr:iH I) {k:q} {r:LP_},(k,r)∈I→aM I k=some r
 | e::I,hr,k,r,h=>by
  obtain⟨h1,h2⟩:=List.pairwise_cons.1 hr;rcases JK.1 h with rfl|h
  ·rw[lD (by rw[gN];decide),if_pos rfl]
  ·rw[lC (h1 _ h)]
   exact eK h2 h
theorem oV:∀ {I:LE_} (hr:iH I) (k k':q),aM (bo I k) k'=if k'=k then none else aM I k'
 | I,hr,k,k'=>by
  by_cases he:k'=k
  ·subst he
   rw[if_pos rfl];exact sT (by rw[jY hr])
  ·rw[if_neg he]
   cases h1:aM I k' with
   | some r =>
    have hm:=entGet_mem h1;refine eK (hr.drop k) ?_
    have z:∀ {I:LE_} {x:Ent},x∈I→x.1≠k→x∈bo I k:=by
     intro I
     induction I with
     | nil=>intro x hx;cases hx
     | cons e I H =>
      intro x hx aI
      by_cases hl:lt e.1 k=true
      ·rw[eO hl]
       rcases JK.1 hx with rfl|hx
       ·exact Jn ..
       ·exact Jo _ (H hx aI)
      ·rw[eP hl]
       by_cases h2:e.1=k
       ·rw[if_pos h2]
        rcases JK.1 hx with rfl|hx
        ·exact absurd h2 aI
        ·exact hx
       ·rw[if_neg h2]
        exact hx
    exact z hm he
   | none =>
    cases h2:aM (bo I k) k' with
    | none=>rfl
    | some r =>
     rw[eK hr (iR (entGet_mem h2))]at h1
     cases h1
theorem jf {k:q}{r:LP_}:∀ {I:LE_},(k,r)∈dm I k r∧∀ x∈I,x.1≠k→x∈dm I k r
 | []=>⟨Jp.2 rfl,fun x hx=>by cases hx⟩
 | e::I=>by
  have H:=jf (k:=k) (r:=r) (I:=I)
  by_cases hl:lt e.1 k=true
  ·rw[lA hl]
   refine⟨Jo _ H.1,fun x hx aI=>?_⟩;rcases JK.1 hx with rfl|hx
   ·exact Jn ..
   ·exact Jo _ (H.2 x hx aI)
  ·rw[lB hl]
   by_cases he:e.1=k
   ·rw[if_pos he]
    refine⟨Jn ..,fun x hx aI=>?_⟩;rcases JK.1 hx with rfl|hx
    ·exact absurd he aI
    ·exact Jo _ hx
   ·rw[if_neg he]
    exact⟨Jn ..,fun x hx _=>Jo _ hx⟩
theorem qP {I:LE_}(hr:iH I)(k:q)(r:LP_)(k':q):aM (dm I k r) k'=if k'=k then some r else aM I k':=by
 by_cases he:k'=k
 ·subst he
  rw[if_pos rfl];exact eK (hr.put _ r) jf.1
 ·rw[if_neg he]
  cases h1:aM I k' with
  | some ap=>exact eK (hr.put k r) (jf.2 _ (entGet_mem h1) he)
  | none =>
   cases h2:aM (dm I k r) k' with
   | none=>rfl
   | some ap =>
    rcases mem_entPut (entGet_mem h2) with h3|h3
    ·injection h3 with h3 _
     exact absurd h3 he
    ·rw[eK hr h3]at h1
     cases h1
theorem oX:∀ (I:LE_) (k:q),(bo I k).length≤I.length
 | [],_=>I6 _
 | e::I,k=>by
  by_cases hl:lt e.1 k=true
  ·rw[eO hl]
   have:=oX I k;simp only[Jq];omega
  ·rw[eP hl]
   split<;>simp
theorem wA {I:LE_}(hr:iH I){g:LL_}(hp:g.Perm (I.map (·.1))):g.mergeSort (fun x y=>decide (x≤y))=I.map (·.1):=by
 have h1:(g.mergeSort (fun x y=>decide (x≤y))).Pairwise (fun x y=>decide (x≤y)=true):=by
  refine List.pairwise_mergeSort (fun a b c h1 h2=>?_) (fun a b=>?_) g
  ·rw[decide_eq_true_eq]at *
   exact List.le_trans h1 h2
  ·rw[Bool.or_eq_true,decide_eq_true_eq,decide_eq_true_eq]
   exact List.le_total a b
 have h2:(I.map (·.1)).Pairwise (fun x y=>decide (x≤y)=true):=by
  rw[List.pairwise_map];refine hr.imp ?_;intro a b h;rw[decide_eq_true_eq];rw[jS]at h;exact List.le_of_lt h
 refine List.Perm.eq_of_pairwise (fun a b _ _ h1 h2=>?_) h1 h2 ((List.mergeSort_perm g _).trans hp);rw[decide_eq_true_eq]at h1 h2;exact List.le_antisymm h1 h2
section
open Go.RowKit Oct Go.WideMaps Go.Maps
def Aw (K:Nat→Prop)(w:Z)(v:V_)(r:LP_):Prop:=RP w v r∧(r≠[]→∀ b,v.ownBlock=some b→K b)
theorem RP.has {w:Z}{v:V_}{r:LP_}(h:RP w v r)(hr:r≠[]){b:Nat}(hb:v.ownBlock=some b):∃ aL u,w.cell? ⟨b,aL,none⟩=some u:=by
 obtain⟨⟨a,ah,rfl,hn,hc⟩,_⟩:=h
 cases r with
 | nil=>exact absurd rfl hr
 | cons x xs =>
  obtain⟨b',aL,ha,hu⟩:=hc 0 _ rfl;subst ha
  cases (show some b'=some b from hb)
  exact⟨_,_,hu⟩
theorem RP.lt {w:Z}{v:V_}{r:LP_}(h:RP w v r)(hr:r≠[]){b:Nat}(hb:v.ownBlock=some b):b<w.heap.size:=by
 obtain⟨aL,u,hu⟩:=h.has hr hb;exact aG hu
theorem RP.notMap {w:Z}{v:V_}{r:LP_}(h:RP w v r)(hr:r≠[]){b:Nat}(hb:v.ownBlock=some b){I:Array MapEntry}{cl:Nat}:w.heap[b]?≠some (.map I cl):=by
 intro e;obtain⟨aL,u,hu⟩:=h.has hr hb;simp[World.cell?,e]at hu
theorem IT {w w':Z}{v:V_}(h:aO w v 0 []):aO w' v 0 []:=by
 obtain⟨a,ah,hv,hn,_⟩:=h;exact⟨a,ah,hv,hn,fun j u hu=>by simp at hu⟩
theorem RP.chg {X:Nat→Prop}{w w':Z}{v:V_}{r:LP_}(h:RP w v r)(hc:Chg X w w')(hX:r≠[]→∀ b,v.ownBlock=some b→¬X b):RP w' v r:=by
 by_cases hr:r=[]
 ·subst hr
  exact⟨IT h.1,h.2⟩
 ·obtain⟨⟨a,ah,rfl,hn,bx⟩,h2⟩:=h
  refine⟨⟨a,ah,rfl,hn,fun j u hu=>?_⟩,h2⟩;obtain⟨b,aL,ha,hu⟩:=bx j u hu;exact⟨b,aL,ha,hc.cell hu (hX hr b (by rw[ha];rfl))⟩
theorem Aw.mono {K K':Nat→Prop}{w:Z}{v:V_}{r:LP_}(h:Aw K w v r)(hk:∀ b,b<w.heap.size→K b→K' b):Aw K' w v r:=⟨h.1,fun hr b hb=>hk b (h.1.lt hr hb) (h.2 hr b hb)⟩
theorem Aw.below {K:Nat→Prop}{w w':Z}{v:V_}{r:LP_}(h:Aw K w v r)(hB:Bw_ w w'):Aw K w' v r:=⟨h.1.below hB,h.2⟩
theorem Aw.chg {K X:Nat→Prop}{w w':Z}{v:V_}{r:LP_}(h:Aw K w v r)(hc:Chg X w w')(hX:∀ b,K b→X b→∃ I cl,w.heap[b]?=some (.map I cl)):Aw K w' v r :=
 ⟨h.1.chg hc fun hr b hb hx=>by
  obtain⟨I,cl,e⟩:=hX b (h.2 hr b hb) hx;exact h.1.notMap hr hb e,h.2⟩
theorem Aw.of {K:Nat→Prop}{w:Z}{v:V_}{r:LP_}(h:RP w v r)(hk:∀ b,b<w.heap.size→K b):Aw K w v r:=⟨h,fun hr b hb=>hk b (h.lt hr hb)⟩
theorem Aw.own {K:Nat→Prop}{w:Z}{bZ:Nat}{v:V_}{r:LP_}(h:OP w bZ v r)(hk:∀ b,bZ≤b→K b):Aw K w v r:=⟨h.reads,fun _ b hb=>hk b (World.ownsRow.lt h b hb).1⟩
theorem Aw.nil (K:Nat→Prop)(w:Z):Aw K w (e_) []:=⟨RP.nil w,fun h=>absurd rfl h⟩
def sG (v:V_):Option (DataW V_×List MemPlace):=some (.held v,[])
def CM (K:Nat→Prop)(w:Z)(M n:Nat)(I:LE_):Prop:=∃ D,w.ownsMap prog 9 sG M n D∧iH I∧(∀ k,has D (.string k)=(aM I k).isSome)∧∀ k r,aM I k=some r→∃ v,(∀ z,D.atKey (.string k) z=.held v)∧Aw K w v r
variable {K X:Nat→Prop}{w w':Z}{M n:Nat}{I:LE_}
theorem zW:Keyed prog 9:=string_keyed underlying9
theorem CM.rise (h:CM K w M n I):iH I:=let ⟨_,_,h,_⟩:=h;h
theorem CM.map (h:CM K w M n I):∃ I cl,w.heap[M]?=some (.map I cl):=by
 obtain⟨D,⟨I,cl,h1,_⟩,_⟩:=h;exact⟨I,cl,h1⟩
theorem CM.lt (h:CM K w M n I):M<w.heap.size:=by
 obtain⟨D,h1,_⟩:=h;exact h1.lt
theorem CM.mono {K':Nat→Prop}(h:CM K w M n I)(hk:∀ b,b<w.heap.size→K b→K' b):CM K' w M n I:=by
 obtain⟨D,h1,h2,h3,h4⟩:=h;refine⟨D,h1,h2,h3,fun k r hr=>?_⟩;obtain⟨v,h5,h6⟩:=h4 k r hr;exact⟨v,h5,h6.mono hk⟩
theorem CM.chg (h:CM K w M n I)(hc:Chg X w w')(hM:¬X M)(hX:∀ b,K b→¬X b):CM K w' M n I:=by
 obtain⟨D,⟨I,cl,h1,hd⟩,h2,h3,h4⟩:=h;refine⟨D,⟨I,cl,hc.at h1 hM,hd⟩,h2,h3,fun k r hr=>?_⟩;obtain⟨v,h5,h6⟩:=h4 k r hr;exact⟨v,h5,h6.chg hc fun b hb hx=>absurd hx (hX b hb)⟩
theorem CM.below (h:CM K w M n I)(hB:Bw_ w w'):CM K w' M n I:=h.chg (X:=fun _=>False) (IG hB) (fun h=>h) (fun _ _ h=>h)
theorem CM.new (K:Nat→Prop)(w:Z):CM K (w.alloc (.map #[] 0)) w.heap.size 0 [] :=
 ⟨_,World.ownsMap_made w _ _ _,List.Pairwise.nil,fun _=>rfl,fun k r h=>by cases h⟩
theorem DW {k:q}(hk:k.length≤140737488355328):keyOf prog 9 (.string (bs k))=some (.string k) :=
 keyOf_string_mk underlying9 (s:=bs k) (by unfold maxLen;simp[bs,ByteArray.size];omega)
def Gk (K:Nat→Prop)(w:Z)(v:V_):Option (LP_)→Prop
 | some r=>Aw K w v r
 | none=>v=.slice none 0 0
theorem G7 (w:Z):(zeroValue 29).run prog w=.ok (e_) w:=q_
theorem CM.look (h:CM K w M n I){k:q}(hk:k.length≤140737488355328):∃ v,(Instr.lookup 71 (.map (some M)) (s_ k) true).run prog w=.ok (.tuple #[v,.bool (aM I k).isSome]) w∧Gk K w v (aM I k):=by
 obtain⟨D,h1,h2,h3,h4⟩:=h;obtain⟨v,ps,aO,hv⟩:=h1.look_ok zW underlying71 (G7 w) (zd:=.held (e_)) rfl (DW hk);rw[h3 k]at aO;refine⟨v,aO,?_⟩
 have bI:DataW.held v=D.atKey (.string k) (.held (e_)):=by
  simp only[sG,Option.some.injEq,Prod.mk.injEq]at hv;exact hv.1
 cases hg:aM I k with
 | some r =>
  obtain⟨v',h5,h6⟩:=h4 k r hg;rw[h5]at bI;injection bI with bI
  subst bI;exact h6
 | none =>
  have h7:=h3 k;rw[hg]at h7;rw[atKey_of_not_has h7]at bI;injection bI
theorem pF (h:w.mapTurned w' M):Chg (fun k=>k=M) w w':=by
 have hg:=h.grown;exact⟨hg.os,hg.tape,hg.output,hg.size,fun k hk hn=>hg.block k hk (fun e=>hn (Option.some.inj e))⟩
theorem CM.store (h:CM K w M n I){k:q}(hk:k.length≤140737488355328){v:V_}{r:LP_}(hv:Aw K w v r)(hn:n<maxLen):∃ w',(Instr.mapUpdate 71 (.map (some M)) (s_ k) v).run prog w=.ok () w'∧CM K w' M (n+1) (dm I k r)∧Chg (fun b=>b=M) w w':=by
 have a:=h.map;obtain⟨D,h1,h2,h3,h4⟩:=h;obtain⟨w',aO,aw,ht⟩:=h1.store zW underlying71 hn (DW hk) (val:=v) (d:=.held v) rfl;have hc:=pF ht;have i:∀ v r,Aw K w v r→Aw K w' v r:=fun v r h=>h.chg hc fun b _ hb=>by cases hb;exact a
 refine⟨w',aO,⟨_,aw,h2.put k r,fun k'=>?_,fun k' r' f=>?_⟩,hc⟩
 ·rw[qP h2]
  by_cases he:k'=k
  ·subst he
   rw[if_pos rfl,has_put_same h1.isMap (show WideAt.IsKeyLit (.string k') from trivial)]
   rfl
  ·rw[if_neg he,has_put_other (fun e=>he (by injection e)),h3]
 ·rw[qP h2]at f
  by_cases he:k'=k
  ·subst he
   rw[if_pos rfl]at f
   cases f
   exact⟨v,fun z=>atKey_put_same h1.isMap (show WideAt.IsKeyLit (.string k') from trivial) _ z,i _ _ hv⟩
  ·rw[if_neg he]at f
   obtain⟨v',h5,h6⟩:=h4 k' r' f;exact⟨v',fun z=>by rw[atKey_put_other (fun e=>he (by injection e))];exact h5 z,i _ _ h6⟩
theorem CM.drop (h:CM K w M n I){k:q}(hk:k.length≤140737488355328)(ty:T_):∃ w',(Builtin.delete_ #[71,9] ty #[.map (some M),s_ k]).run prog w=.ok (.tuple #[]) w'∧CM K w' M n (bo I k)∧Chg (fun b=>b=M) w w':=by
 have a:=h.map;obtain⟨D,h1,h2,h3,h4⟩:=h;obtain⟨w',aO,aw,ht⟩:=h1.drop zW underlying71 (DW hk) ty;have hc:=pF ht;refine⟨w',aO,⟨_,aw,h2.drop k,fun k'=>?_,fun k' r' f=>?_⟩,hc⟩
 ·rw[oV h2]
  by_cases he:k'=k
  ·subst he
   rw[if_pos rfl,has_del_same]
   rfl
  ·rw[if_neg he,has_del_other (fun e=>he (by injection e)),h3]
 ·rw[oV h2]at f
  by_cases he:k'=k
  ·rw[if_pos he]at f
   cases f
  ·rw[if_neg he]at f
   obtain⟨v',h5,h6⟩:=h4 k' r' f;exact⟨v',fun z=>by rw[atKey_del_other (fun e=>he (by injection e))];exact h5 z,h6.chg hc fun b _ hb=>by cases hb;exact a⟩
theorem zj {I:LE_}(hr:iH I)(x:q):x∈I.map (·.1)↔(aM I x).isSome=true:=by
 constructor
 ·intro h
  obtain⟨y,hy,rfl⟩:=List.mem_map.1 h;rw[eK hr (k:=y.1) (r:=y.2) hy]
  rfl
 ·intro h
  obtain⟨r,hr⟩:=Option.isSome_iff_exists.1 h;exact List.mem_map.2 ⟨_,entGet_mem hr,rfl⟩
theorem vp {I:LE_}(h:iH I):(I.map (·.1)).Nodup:=by
 rw[List.Nodup,List.pairwise_map];refine List.Pairwise.imp ?_ h;intro a b s e;rw[e,gN]at s
 cases s
theorem CM.keys (h:CM K w M n I){D:DataW V_}(hD:w.ownsMap prog 9 sG M n D):(strKeys D).Perm (I.map (·.1))∧Maps.size D=I.length:=by
 obtain⟨D',h1,h2,h3,h4⟩:=h
 obtain rfl:D=D':=by
  obtain⟨a1,b1,c1,_,_,d1⟩:=hD;obtain⟨a2,b2,c2,_,_,d2⟩:=h1;rw[c1]at c2;injection c2 with c2
  injection c2 with e1 e2
  subst e1;rw[d1,d2]
 obtain⟨xs,rfl,a,_⟩:=hD.entries zW;obtain⟨b,d,e⟩:=hD.keysOf;obtain rfl:xs=b:=by simpa using d
 have hp:=perm_strKeys a (fun p hp=>by obtain⟨v,hv⟩:=e p hp;obtain⟨x,_,hx,_⟩:=Maps.keyOf_str underlying9 hv;exact⟨x,hx⟩) (vp h2) (fun x=>by rw[h3 x];exact zj h2 x);refine⟨hp.symm,?_⟩;have:=hp.length_eq;rw[Js]at this;rw[this];show xs.length=(xs.map _).length;rw[Js]
theorem CM.open (h:CM K w M n I):∃ D,w.ownsMap prog 9 sG M n D∧(strKeys D).Perm (I.map (·.1))∧Maps.size D=I.length:=by
 obtain⟨D,h1,_⟩:=id h;exact⟨D,h1,h.keys h1⟩
end
section
open Go.RowKit Oct Go.WideMaps Go.Maps
abbrev xq:=q×(OA_×Nat×Nat)
def Dj (x:xq):V_:=.slice x.2.1 x.2.2.1 x.2.2.2
def oC:Rec xq where
 cell s:=[.string (bs s.1),.slice s.2.1 s.2.2.1 s.2.2.2]
 e:=103
 n:=2
 bytes:=40
 z:=.agg #[.string ByteArray.empty,.slice none 0 0]
 len:=fun _=>rfl
 one:=by intro x u h;simp at h;rcases h with rfl|rfl<;>rfl
 info:=by kernel_rfl
 zs:=rfl
 pos:=by decide
 bpos:=by decide
def EnR (K:Nat→Prop)(r:Nat)(w:Z)(aF:List xq)(I:LE_):Prop:=aF.length=I.length∧∀ i (h:i<aF.length) (h':i<I.length),aF[i].1=I[i].1∧Aw (fun b=>r<b∧K b) w (Dj aF[i]) I[i].2
def RC (K:Nat→Prop)(w:Z)(r:Nat)(I:LE_):Prop:=∃ lv aF,Blk w r 51 [lv]∧oC.Own w (r+1) lv aF∧(∀ b,lv.ownBlock=some b→K b)∧EnR K r w aF I
variable {X K:Nat→Prop}{w w':Z}{r:Nat}{I:LE_}{aF:List xq}
theorem EnR.chg (h:EnR K r w aF I)(hc:Chg X w w')(hX:∀ b,r<b→K b→X b→∃ I cl,w.heap[b]?=some (.map I cl)):EnR K r w' aF I :=
 ⟨h.1,fun i hi d=>⟨(h.2 i hi d).1,(h.2 i hi d).2.chg hc (fun b hb hx=>hX b hb.1 hb.2 hx)⟩⟩
theorem RC.chg (h:RC K w r I)(hc:Chg X w w')(hr:¬X r)(hX:∀ b,r<b→K b→X b→∃ I cl,w.heap[b]?=some (.map I cl)):RC K w' r I:=by
 obtain⟨lv,aF,h1,h2,h4,h3⟩:=h;refine⟨lv,aF,hc.at h1 hr,h2.chg hc (fun b hb hx=>?_),h4,h3.chg hc hX⟩;obtain⟨I,cl,e⟩:=hX b (by have:=(h2.lt b hb).1;omega) (h4 b hb) hx;rcases h2.2 with ⟨hv,_⟩|⟨g,ah,aH,hv,_,hh,_⟩
 ·rw[hv]at hb;cases hb
 ·rw[hv]at hb
  cases hb
  rw[e]at hh
  cases hh
theorem RC.below (h:RC K w r I)(hB:Bw_ w w'):RC K w' r I:=h.chg (X:=fun _=>False) (IG hB) (fun h=>h) (fun _ _ _ h=>h.elim)
theorem RC.lt (h:RC K w r I):r<w.heap.size:=by obtain⟨lv,aF,h1,_⟩:=h;exact h1.lt
theorem RC.mono {K':Nat→Prop}(h:RC K w r I)(hk:∀ b,b<w.heap.size→r<b→K b→K' b):RC K' w r I:=by
 obtain⟨lv,aF,h1,h2,h4,h3⟩:=h;exact⟨lv,aF,h1,h2,fun b hb=>hk b (h2.lt b hb).2 (by have:=(h2.lt b hb).1;omega) (h4 b hb),h3.1,fun i hi d=>⟨(h3.2 i hi d).1,(h3.2 i hi d).2.mono (fun b hb H=>⟨H.1,hk b hb H.1 H.2⟩)⟩⟩
theorem RC.open (h:RC K w r I):∃ a c,w.cell? ⟨r,0,none⟩=some (.slice a I.length c)∧I.length≤c∧∀ i (hi:i<I.length),∃ b aL ra rn rc,a=some ⟨b,aL,none⟩∧w.cell? ⟨b,aL+i*2,none⟩=some (s_ I[i].1)∧w.cell? ⟨b,aL+i*2+1,none⟩=some (.slice ra rn rc)∧Aw (fun b=>r<b∧K b) w (.slice ra rn rc) I[i].2:=by
 obtain⟨lv,aF,h1,h2,_,h3,h4⟩:=h;obtain⟨a,c,rfl,aq,hc⟩:=h2.row.open;have h0:=h1.c 0;rw[h3]at h0;refine⟨a,c,h0,by omega,fun i hi=>?_⟩;obtain⟨b,aL,ha,hu⟩:=hc i Y;obtain⟨k1,k2⟩:=h4 i Y hi;have u0:=hu 0 _ rfl;have u1:=hu 1 _ rfl;rw[k1]at u0;exact⟨b,aL,_,_,_,ha,u0,u1,k2⟩
theorem uk {I:LE_}{k:q}{i0:Nat}{o:Bool}(hE:entAt I k=(i0,o))(hi:i0<I.length):¬lt (I[i0]'hi).1 k=true∧o=((I[i0]'hi).1==k):=by
 have h:=oY I k;simp only[hE]at h;exact h hi
theorem um {I:LE_}{k:q}{i0:Nat}{o:Bool}(hE:entAt I k=(i0,o))(i:Nat)(hi:i<I.length)(h2:i<i0):lt (I[i]'hi).1 k=true:=oZ I k i hi (by rw[hE];exact h2)
theorem wS {I:LE_}{k:q}{i0:Nat}(hE:entAt I k=(i0,true)):∃ h:i0<I.length,aM I k=some (I[i0]'h).2:=by
 have h1:(entAt I k).1<I.length:=sU (by rw[hE]);have h2:=(qO I k h1 (by rw[hE])).1;simp only[hE]at h1 h2;exact⟨h1,h2⟩
abbrev rP (r:Nat):V_:=.pointer (some ⟨r,0,none⟩)
theorem J0 {T:Prop} (h:T:=by
 go_wp2_with fail;go_region;go_wp2_with fail;go_ret2;exact⟨rfl,by first|exact HB.o|exact bt HB.o (b_drew _)|exact bt HB.o (II _ _)⟩
):T:=h
theorem p9 (r:Nat)(I:LE_)(k:q)(w:Z)(h:RC K w r I)(hl:I.length≤1000000):R_ 47 #[rP r,s_ k] w (.tuple #[F ((entAt I k).1:Int),.bool (entAt I k).2]):=by
 obtain⟨a,c,h0,aq,hc⟩:=h.open;obtain⟨HC,bf,bl⟩:=zH3 hc (nX I k) (qQ I k);obtain⟨E,hE⟩:∃ E,entAt I k=E:=⟨_,rfl⟩
 obtain⟨i0,o⟩:=E;have ay:=O (fun i hi h2=>um hE i hi h2);have D:=O (fun hi=>uk hE hi);rw[hE]at bf bl⊢;dsimp only at bf bl⊢;clear hE hc h;go_enter func47,ntmps47;go_wp2_with fail
 go_loopw [6] (fun t wr=>∃ (i:Nat),i≤i0∧t=F i∧Hid (Bw_ w wr)) (fun t _=>i0-(intOf t).toNat)
 case atStart=>exact⟨0,Jl _,rfl,Ja _ _⟩
 case round =>
  obtain⟨i,hi,rfl,HB⟩:=hrel;replace h0:=IF HB.o h0;have b5:i≤I.length:=Jc hi bl.o
  by_cases h1:i<I.length
  ·obtain⟨b,aL,ra,rn,rc,rfl,c1,-,-⟩:=HC.o i h1
   replace c1:=IF HB.o c1;have k0:=nn_ i;have k1:(i:Int)<I.length:=Y
   by_cases h2:i<i0
   ·have aC:=ay.o i h1 h2
    unfold lt at aC;go_wp2_with fail;go_roundw
    case rel=>exact⟨i+1,h2,by go_num,HB.o⟩
    case measure=>simp[intOf];omega
   ·obtain rfl:i=i0:=Y
    obtain⟨q1,q2⟩:=D.o h1;have aC:lt I[i].1 k=false:=by simpa using q1
    unfold lt at aC;clear h2 q1
    cases o with
    | true =>
     have q3:(I[i].1==k)=true:=q2.symm;clear q2;have q4:=beq_iff_eq.1 q3;have q5:(I[i].1 != k)=false:=by rw[bne,q3];rfl
     clear q4;exact J0
    | false =>
     have q3:(I[i].1==k)=false:=q2.symm;clear q2;exact J0
  ·have k1:¬(i:Int)<I.length:=Y
   have hb:=bf.o Y;subst hb;obtain rfl:i=i0:=by have:=bl.o;omega
   exact J0
theorem lk (r:Nat)(I:LE_)(k:q)(w:Z)(h:RC K w r I)(hl:I.length≤1000000):C_ 24 #[rP r,s_ k] w fun e w'=>(∃ v,e=.returned (.tuple #[v,.bool (aM I k).isSome])∧Gk (fun b=>r<b∧K b) w' v (aM I k))∧Bw_ w w':=by
 have HA:=O (p9 r I k w h hl);have bR:=O h;obtain⟨E,hE⟩:∃ E,entAt I k=E:=⟨_,rfl⟩
 obtain⟨i0,o⟩:=E
 cases o with
 | true =>
  obtain⟨h1,g1⟩:=wS hE;rw[g1];rw[hE]at HA;dsimp only at HA;have ae:=O (fun w' (hB:Bw_ w w')=>(h.below hB).open);have k0:=nn_ i0;have k1:(i0:Int)<I.length:=Y;have HI:=O h1;clear hE g1 h;go_enter func24,ntmps24;go_wp2_with (go_at_call 47;refine HA.o.mono ?_;rintro e w2⟨rfl,ax⟩;obtain⟨a,c,h0,-,hc⟩:=ae.o w2 ax;obtain⟨b,aL,ra,rn,rc,rfl,-,c2,hw⟩:=hc i0 HI.o;have HW:=O hw;have a9:=O ax;clear ax hc hw);go_ret2;exact⟨⟨_,rfl,HW.o⟩,a9.o⟩
 | false =>
  have hg:=sT (I:=I) (k:=k) (by rw[hE]);rw[hg];rw[hE]at HA;dsimp only at HA;clear hE hg h;go_enter func24,ntmps24;go_wp2_with (go_at_call 47;refine HA.o.mono ?_;rintro e w2⟨rfl,ax⟩;have a9:=O ax;clear ax);go_ret2;exact⟨⟨_,rfl,rfl⟩,a9.o⟩
theorem p6 (r:Nat)(I:LE_)(w:Z)(h:RC K w r I)(hl:I.length≤1000000):C_ 21 #[rP r] w fun e w'=>(∃ v,e=.returned v∧aP.Own w' w.heap.size v (I.map (·.1)))∧Bw_ w w':=by
 obtain⟨a,c,h0,aq,hc⟩:=h.open;have HC:=O hc;have l:=O (fun i (hi:i<I.length)=>show(I.map (·.1)).take (i+1)=(I.map (·.1)).take i++[I[i].1] by rw[JB yzm];simp);obtain⟨o,aB⟩:=H (I.map (·.1));have bq:o.length=I.length:=by rw[aB];simp
 simp only[←aB]at l⊢;have s:=O bq;clear hc h aB bq;go_enter func21,ntmps21;go_wp2_with fail
 go_loopw [3,4] (fun u t wr=>∃ (i:Nat),i≤I.length∧t=F i∧Hid (aP.Own wr w.heap.size u (o.take i))∧Hid (Bw_ w wr)) (fun _ t _=>I.length-(intOf t).toNat)
 case atStart=>exact⟨0,Jl _,rfl,Rec.Own.nil _ _,Ja _ _⟩
 case round =>
  obtain⟨i,hi,rfl,HO,HB⟩:=hrel;have bd:(o.take i).length=i:=by rw[JH,s.o];omega
  obtain⟨ao,co,hu⟩:=ay HO.o;rw[bd]at hu;subst hu;have al:=O bd;clear bd;replace h0:=IF HB.o h0
  by_cases h1:i<I.length
  ·obtain⟨b,aL,ra,rn,rc,rfl,c1,-,-⟩:=HC.o i h1
   replace c1:=IF HB.o c1;have k0:=nn_ i;have k1:(i:Int)<I.length:=Y;have HH:=O h1;have HT:=O (l.o i h1);have aE:=O (show((o.take i).length+1)*16≤140737488355328 by rw[JH];omega);obtain⟨x,hx⟩:=H (I[i]'h1);rw[←hx]at c1 HT;clear hx h1;go_wp2_with (at_builtin;go_must (refine aP.append1 wr x.1 rfl _ _ 22 rfl underlying22 w.heap.size (.slice ao i co) (o.take i) HO.o rfl _ rfl _ rfl _ rfl aE.o HB.o.size ?_);intro g ah w8 m aG;rw[al.o]at m⊢;have aO:=O m;have aU:=O aG;clear m aG);go_roundw
   case rel=>exact⟨i+1,HH.o,by go_num,by rw[HT.o];exact aO.o,HB.o.trans aU.o⟩
   case measure=>have:=HH.o;simp[intOf];omega
  ·have k1:¬(i:Int)<I.length:=Y
   obtain rfl:i=I.length:=Y;have ho:=HO.o;rw[I5 (by rw[s.o];exact I6 _)]at ho;have S:=O ho;clear h1 ho;go_wp2_with fail;go_ret;exact⟨⟨_,rfl,S.o⟩,HB.o⟩
end
section
open Go.RowKit Oct Go.WideMaps Go.Maps
theorem J1 {T:Prop} (h:T:=by
 intro v' w' h1 h2;obtain⟨A,C,rfl⟩:=ay h1;exact h A C w' (by unfold Rec.Own;rw[R.cells_append,Jh];exact h1) h2
):T:=h
theorem Rec.step_appendR {α:Type}{aM:Array Oper}{o:Oper}{a:Act}{K:Act→Z→Prop}{Q:Exit→Act→Z→Prop}{E:Prop}(R:Rec α)(w:Z)(av:o.guard=none)(s x:Operand)(t:T_)(ho:o.op=.call { callee:=.builtin .append,args:=#[s,x],argTypes:=#[t,t] })(ht:prog.underlying t=some (.slice R.e))(bZ:Nat)(v:V_)(xs:List α)(aw:R.Own w bZ v xs)(hs:a.eval s=v)(y:V_)(D:List α)(hr:R.Row w y D)(hx:a.eval x=y)(d:(xs.length+D.length)*R.bytes≤140737488355328)(aB:bZ≤w.heap.size)(h:∀ A C w',R.Own w' bZ (.slice A (xs.length+D.length) C) (xs++D)→B_ bZ w w'→K (a.put o.dst (.slice A (xs.length+D.length) C)) w'):if Region.wanted o (yielded aM a.tmps)=true then Oper.wp prog o a w K Q else E:=by
 have hw:Region.wanted o (yielded aM a.tmps)=true:=by simp[Region.wanted,av]
 rw[if_pos hw];obtain⟨i,hi,hz,ao,aG⟩:=info_parts R.info;have hn:xs.length+D.length≤(xs.length+D.length)*R.bytes:=Nat.le_mul_of_pos_right _ R.bpos
 have O:∀ v' w',w'.ownsRow bZ R.e R.n v' (xs.length+D.length) (R.cells xs++R.cells D)→B_ bZ w w'→K (a.put o.dst v') w':=by
  exact J1
 obtain⟨⟨ax,ah,rfl,q,hc⟩,_⟩:=hr
 cases ax with
 | none =>
  obtain⟨h0,rfl⟩:=q rfl;have g:D=[]:=I7 h0;subst g;have aO:=run_append_owned_none (P:=prog) (w:=w) bZ t o.type R.e i R.n ht hi v xs.length (R.cells xs) aw;unfold Oper.wp;simp only[JI]at hx;simp[execOp,ho,resolve,invoke,builtin,hs,hx,aO,Result.andThen];exact O v w (by rw[Rec.cells,Jy,JI,Nat.add_zero];exact aw) (Ja _ _)
 | some ad =>
  refine wp_append_own w s x t ho bZ R.e i R.z R.n R.bytes ht hi hz ao aG R.zs R.pos v xs.length (R.cells xs) hs aw ad D.length ah (R.cells D) hx (R.cells_length D) ?_ (R.cells_one D) yzb d aB ?_
  ·exact L9
  ·intro v' w' h2 h3 _
   exact O v' w' h2 ((Ja bZ w).grown h3 aB (fun k hk=>(aw.lt k hk).1))
theorem Rec.appendC {α:Type}{aM:Array Oper}{rest:LO_}{o:Oper}{a:Act}{Q:Exit→Act→Z→Prop}(R:Rec α)(w:Z)(av:o.guard=none)(s x:Operand)(t:T_)(ho:o.op=.call { callee:=.builtin .append,args:=#[s,x],argTypes:=#[t,t] })(ht:prog.underlying t=some (.slice R.e))(bZ:Nat)(v:V_)(xs:List α)(aw:R.Own w bZ v xs)(hs:a.eval s=v)(y:V_)(D:List α)(hr:R.Row w y D)(hx:a.eval x=y)(d:(xs.length+D.length)*R.bytes≤140737488355328)(aB:bZ≤w.heap.size)(h:∀ A C w',R.Own w' bZ (.slice A (xs.length+D.length) C) (xs++D)→Chg (fun k=>v.ownBlock=some k) w w'→wpList prog aM Q rest (a.put o.dst (.slice A (xs.length+D.length) C)) w'):wpList prog aM Q (o::rest) a w:=by
 obtain⟨i,hi,hz,ao,aG⟩:=info_parts R.info;have hn:xs.length+D.length≤(xs.length+D.length)*R.bytes:=Nat.le_mul_of_pos_right _ R.bpos
 have O:∀ v' w',w'.ownsRow bZ R.e R.n v' (xs.length+D.length) (R.cells xs++R.cells D)→Chg (fun k=>v.ownBlock=some k) w w'→wpList prog aM Q rest (a.put o.dst v') w':=by
  exact J1
 obtain⟨⟨ax,ah,rfl,q,hc⟩,_⟩:=hr
 cases ax with
 | none =>
  obtain⟨h0,rfl⟩:=q rfl;have g:D=[]:=I7 h0;subst g;refine wpList_append_own_none av s x t ho bZ R.e i R.n ht hi v xs.length (R.cells xs) hs aw hx ?_;exact O v w (by rw[Rec.cells,Jy,JI,Nat.add_zero];exact aw) (Chg.refl _ _)
 | some ad =>
  refine wpList_append_own _ av s x t ho bZ R.e i R.z R.n R.bytes ht hi hz ao aG R.zs R.pos v xs.length (R.cells xs) hs aw ad D.length ah (R.cells D) hx (R.cells_length D) ?_ (R.cells_one D) yzb d aB ?_
  ·exact L9
  ·intro v' w' h2 h3 _
   exact O v' w' h2 ⟨h3.os,h3.tape,h3.output,h3.size,fun j hj aI=>h3.block j hj (fun e=>aI e.symm)⟩
variable {K:Nat→Prop}{r:Nat}{w w':Z}{aF am:List xq}{I aD:LE_}
theorem EnR.iff:EnR K r w aF I↔aF.length=I.length∧∀ (i:Nat) (x:xq) (y:Ent),aF[i]?=some x→I[i]?=some y→x.1=y.1∧Aw (fun b=>r<b∧K b) w (Dj x) y.2:=by
 constructor
 ·rintro⟨h1,h2⟩
  refine⟨h1,fun i x y hx hy=>?_⟩;obtain⟨q1,e1⟩:=List.getElem?_eq_some_iff.1 hx;obtain⟨q2,e2⟩:=List.getElem?_eq_some_iff.1 hy;have:=h2 i q1 q2;rw[e1,e2]at this;exact this
 ·rintro⟨h1,h2⟩
  exact⟨h1,fun i hi d=>h2 i _ _ (List.getElem?_eq_getElem hi) (List.getElem?_eq_getElem d)⟩
theorem EnR.take (h:EnR K r w aF I)(n:Nat):EnR K r w (aF.take n) (I.take n):=by
 rw[EnR.iff]at h⊢;refine⟨by rw[JH,JH,h.1],fun i x y hx hy=>?_⟩;rw[List.getElem?_take]at hx hy
 split at hx
 ·rename_i aC
  rw[if_pos aC]at hy;exact h.2 i x y hx hy
 ·cases hx
theorem EnR.drop (h:EnR K r w aF I)(n:Nat):EnR K r w (aF.drop n) (I.drop n):=by
 rw[EnR.iff]at h⊢;refine⟨by rw[JG,JG,h.1],fun i x y hx hy=>?_⟩;rw[List.getElem?_drop]at hx hy;exact h.2 _ x y hx hy
theorem EnR.append (h:EnR K r w aF I)(h':EnR K r w am aD):EnR K r w (aF++am) (I++aD):=by
 rw[EnR.iff]at h h'⊢;refine⟨by rw[Jh,Jh,h.1,h'.1],fun i x y hx hy=>?_⟩;rw[List.getElem?_append]at hx hy
 by_cases hi:i<aF.length
 ·rw[if_pos hi]at hx
  rw[if_pos (by rw[←h.1];exact hi)]at hy;exact h.2 i x y hx hy
 ·rw[if_neg hi]at hx
  rw[if_neg (by rw[←h.1];exact hi),←h.1]at hy;exact h'.2 _ x y hx hy
theorem EnR.one {x:xq}{y:Ent}(h1:x.1=y.1)(h2:Aw (fun b=>r<b∧K b) w (Dj x) y.2):EnR K r w [x] [y]:=by
 rw[EnR.iff];refine⟨rfl,fun i d a hx hy=>?_⟩
 cases i with
 | zero =>
  rw[List.getElem?_cons_zero]at hx hy
  cases hx
  cases hy
  exact⟨h1,h2⟩
 | succ i=>simp at hx
theorem EnR.below (h:EnR K r w aF I)(hB:Bw_ w w'):EnR K r w' aF I:=h.chg (X:=fun _=>False) (IG hB) (fun _ _ _ h=>h.elim)
theorem vC {W:Z}{u v:V_}(hr:Blk W r 51 [u])(ho:oC.Own W (r+1) v aF)(hk:∀ b,v.ownBlock=some b→K b)(he:EnR K r W aF I):RC K (W.setCell ⟨r,0,none⟩ v) r I∧Chg (fun k=>k=r) W (W.setCell ⟨r,0,none⟩ v):=by
 have hc:Chg (fun k=>k=r) W (W.setCell ⟨r,0,none⟩ v):=Chg.setCell _ _ _ rfl;refine⟨⟨v,aF,hr.set 0 v,ho.chg hc (fun k hk e=>?_),hk,he.chg hc (fun b hb _ e=>?_)⟩,hc⟩
 ·have:=(ho.lt k hk).1
  rw[show k=r from e]at this;omega
 ·rw[show b=r from e]at hb
  omega
theorem mL {X:Nat→Prop}{w w':Z}{bZ:Nat}{e:T_}{size:Nat}{v:V_}{n:Nat}{xs:LV_}(h:w.ownsRow bZ e size v n xs)(hc:Chg X w w')(hX:∀ b,v.ownBlock=some b→¬X b):w'.ownsRow bZ e size v n xs:=by
 exact Mi
theorem Aq {i:Nat}(h:i≤1000000):IntKind.i64.wrap ((i:Int)+1)=(i:Int)+1:=by
 rw[IntKind.wrap_i64];omega
theorem EO:∀ wx,(sizeOf (prog.elem 49)).run prog wx=.ok oC.n wx:=by intro wx;kernel_rfl
theorem p7 (k:q)(w:Z)(h:RC K w r I)(hK:∀ b,w.heap.size≤b→K b)(hl:I.length≤1000000):C_ 22 #[rP r,s_ k] w fun e w'=>e=.returned (.bool (aM I k).isSome)∧RC K w' r (bo I k)∧Chg (fun b=>b=r) w w':=by
 have HA:=O (p9 r I k w h hl);have aC:=lE I k;rw[aC]
 cases hb:(entAt I k).2 with
 | false =>
  rw[hb]at HA;rw[mm hb];have bR:=O h;obtain⟨i0,f⟩:=H ((entAt I k).1);rw[←f]at HA;clear aC hb f h;go_enter func22,ntmps22;go_wp2_with (go_at_call 47;refine HA.o.mono ?_;rintro e w2⟨rfl,ax⟩;have a9:=O ax;clear ax);go_ret;exact⟨rfl,bR.o.below a9.o,IG a9.o⟩
 | true =>
  have h1:=sU hb;rw[hb]at HA;rw[oW hb];obtain⟨lv,aF,g1,g2,-,g3⟩:=h;have aX:=O hK;have ad:=g3.1;obtain⟨i0,f⟩:=H ((entAt I k).1);simp only[←f]at HA h1⊢;obtain⟨a,c,rfl⟩:=ay g2;have m:=g2.row;obtain⟨A1,C1,bF,d⟩:=m.headRun 49 q_ EO i0 (i0:Int) rfl Y;obtain⟨A2,C2,ci,bl⟩:=m.cutRun 49 q_ EO (i0+1) ((i0:Int)+1) Y Y;obtain⟨B,a2,db,bm⟩:=zH4 g1 g3 d bl;have be:(aF.take i0).length=i0:=by rw[JH];omega
  have a0:(aF.drop (i0+1)).length=aF.length-(i0+1):=JG ..;obtain⟨bH,bD,aE,HI⟩:=zH4 be a0 (show ∀ n,n≤aF.length→n*40≤140737488355328 from fun n hn=>by omega) (show i0<aF.length by omega);have l:=nn_ i0;have o:(i0:Int)<aF.length:=Y;have s:aF.length≤1000000:=Y;have g:IntKind.i64.wrap ((i0:Int)+1)=(i0:Int)+1:=Aq Y;clear hK aC hb f be a0 m d bl g1 g2 g3 ad h1;go_enter func22,ntmps22;go_upto_region 3 with(go_at_call 47;refine HA.o.mono ?_;rintro e w2⟨rfl,ax⟩;have k2:=B.o.below ax;have Q:=k2.c 0;have f0:=k2.free (k:=0) i_;have ad:=k2.lt;have a9:=O ax;have ag:=O k2;clear ax k2)
  go_region_law (first
   | (refine oC.step_appendR w3 rfl _ _ 49 rfl underlying49 w2.heap.size (.slice P i0 S) (aF.take i0) bf.o rfl (.slice A2 (aF.length-(i0+1)) C2) (aF.drop (i0+1)) (bm.o.below (bt a9.o aW.o)) rfl (by rw[bH.o,bD.o];exact aE.o _ yzy) aW.o.size ?_;intro A5 C5 w5 t aN;rw[bH.o,bD.o]at t⊢;have k5:=ag.o.below (aW.o.trans aN);have Q:=k5.c 0;have f0:=k5.free (k:=0) i_;have ad:=k5.lt;obtain⟨i,aJ,aH⟩:=zH3 t (aW.o.trans aN) k5;clear t aN k5)
   | (refine oC.step_appendR w2.drew rfl _ _ 49 rfl underlying49 w2.heap.size (e_) [] (Rec.Own.nil _ _) rfl (.slice A1 i0 C1) (aF.take i0) (db.o.below (bt a9.o (b_drew w2))) rfl (by rw[bH.o,JI,I9];exact aE.o _ yzy) (I6 _) ?_;intro P S w3 L al;simp only[JI,I9,JC,bH.o]at L⊢;have al:=bt (b_drew w2) al;have k3:=ag.o.below al;have Q:=k3.c 0;have ad:=k3.lt;have bf:=O L;have aW:=O al;clear L al k3))
  all_goals
   go_wp2_with fail;go_ret;obtain⟨q1,q2⟩:=vC aH.o (i.o.mono ag.o.lt) (fun b hb=>aX.o b (Jc a9.o.size (i.o.lt b hb).1)) (((a2.o.take i0).append (a2.o.drop (i0+1))).below (bt a9.o aJ.o));exact⟨rfl,q1,(IG (bt a9.o aJ.o)).trans q2⟩
theorem sf (k:q)(v:V_)(row:LP_)(w:Z)(h:RC K w r I)(hK:∀ b,w.heap.size≤b→K b)(bC:iH I)(hv:Aw (fun b=>b≠r) w v row)(hl:I.length≤1000000)(bR:row.length≤1000000):C_ 23 #[rP r,s_ k,v] w fun e w'=>e=.returned (.tuple #[])∧RC K w' r (dm I k row)∧Chg (fun b=>b=r) w w':=by
 rw[sS bC];have aC:=jY bC k;have aS:=oX I k;have HD:=O (p7 k w h hK hl);have HA:=O (fun w' (h':RC K w' r (bo I k))=>p9 r (bo I k) k w' h' Y);rw[aC]at HA;obtain⟨i0,f⟩:=H ((entAt I k).1)
 have b5:i0≤(bo I k).length:=by
  have ap:=qQ (bo I k) k;rw[aC,←f]at ap;exact ap
 rw[←f]at HA⊢;dsimp only at HA;obtain⟨ds,P⟩:=H (bo I k);rw[←P]at HA HD b5 aS⊢;obtain⟨va,vc,rfl,-,-⟩:=hv.1.open;have HV:=O hv;obtain⟨au,o⟩:∃ b,b=(aM I k).isSome:=⟨_,rfl⟩
 rw[←o]at HD;have z:ds.length≤1000000:=Y;have aw:=O z;have aX:=O hK;clear aC f P o hv h bC aS hK;go_enter func23,ntmps23;go_upto_region 2 with(first|(go_at_call 47;refine(HA.o w2 s.o).mono ?_;rintro e w3⟨rfl,al⟩;have S:=O (s.o.below al);have ao:=O (ae.o.below al);have av:=O (L.o.trans (IG al));clear al)|(go_at_call 22;refine HD.o.mono ?_;rintro e w2⟨rfl,u,aZ⟩;have s:=O u;have L:=O aZ;have ae:=O (HV.o.chg aZ (fun b hb hx=>absurd hx hb));clear u aZ));obtain⟨lv,aF,g1,g2,-,g3⟩:=S.o;have ad:=g3.1;obtain⟨a,c,rfl⟩:=ay g2;have m:=g2.row;obtain⟨A1,C1,bF,d⟩:=m.headRun 49 q_ EO i0 (i0:Int) rfl Y;obtain⟨A2,C2,ci,bl⟩:=m.cutRun 49 q_ EO i0 (i0:Int) rfl Y;have be:(aF.take i0).length=i0:=by rw[JH];omega
 have a0:(aF.drop i0).length=aF.length-i0:=JG ..;obtain⟨B,a2,db,bm,bH,bD,aE,HI,ag⟩:=zH9 g1 g3 d bl be a0 (show ∀ n,n≤aF.length+1→n*40≤140737488355328 from fun n hn=>by omega) (show i0≤aF.length by omega) bR;have aj:=O (show(([]:LP_).length+row.length)*32≤140737488355328 by simp;omega);have Q:=g1.c 0;have a6:=O (show r<w3.heap.size from g1.lt);clear g1 g2 g3 m d bl be a0 ad b5
 go_wp2_with (first
  | (at_builtin;(refine oC.appendC W7 rfl _ _ 49 rfl underlying49 w3.heap.size (.slice (some ⟨g7,0,none⟩) (i0+1) af) (aF.take i0++[(k,(A6,row.length,C6))]) bI.o rfl (.slice A2 (aF.length-i0) C2) (aF.drop i0) (bm.o.below aK.o) rfl (by rw[Jh,bH.o,bD.o];exact aE.o _ (by have:=HI.o;simp;omega)) aK.o.size ?_);intro A8 C8 W8 F l;rw[Jh,bH.o,bD.o,JJ]at F⊢;have aG:B_ w3.heap.size W7 W8:=l.below (fun ap hq=>(bI.o.lt ap hq).1) aK.o.size;have k8:=B.o.below (aK.o.trans aG);have Q:=k8.c 0;have f0:=k8.free (k:=0) i_;obtain⟨aO,aU,aq⟩:=zH3 F (aK.o.trans aG) k8;have ah:=O (mL ak.o l (fun ap h1 hx=>by have hx:some g7=some ap:=hx;injection hx with hx;subst hx;have q1:=x.o g7 h1;rcases bN.o with e|e;have:=y.o g7 e;omega;omega));clear F aG k8 l)
  | (at_builtin;(refine oC.append1C W6 (k,(A6,row.length,C6)) rfl _ _ 49 rfl underlying49 w3.heap.size (.slice A5 i0 C5) (aF.take i0) D.o rfl _ rfl _ rfl _ rfl (by rw[bH.o];exact aE.o _ yzy) bn.o.size ?_);intro g7 af W7 a7 ai aa;rw[bH.o]at a7⊢;have aH:B_ w3.heap.size W6 W7:=ai.below (fun ap hq=>(D.o.lt ap hq).1) bn.o.size;obtain⟨bI,bN,aK⟩:=zH3 a7 aa (bn.o.trans aH);have Q:=(B.o.below aK.o).c 0;have ak:=O (mL cS.o ai (fun ap h1 hx=>by have:=y.o ap hx;have:=(x.o ap h1).1;omega));have bT:=O (ai.size);clear a7 aH ai aa)
  | (at_builtin;(refine ed W5 rfl _ _ _ rfl underlying29 W5.heap.size _ [] rfl (OP.nil _ _) _ row rfl (ao.o.1.below aJ.o) aj.o (I6 _) ?_);intro E W6 ab bx;obtain⟨A6,C6,rfl⟩:=ay ab;obtain⟨cS,bn,D,y,x⟩:=zH5 ab (bt aJ.o bx) (i.o.below bx) (fun ap hq=>(i.o.lt ap hq).2) (fun ap hq=>World.ownsRow.lt ab ap hq);clear ab bx)
  | (at_builtin;(refine oC.append w3 rfl _ _ 49 rfl underlying49 w3.heap.size (e_) [] (Rec.Own.nil _ _) rfl (.slice A1 i0 C1) (aF.take i0) db.o rfl (by rw[bH.o,JI,I9];exact aE.o _ yzy) (I6 _) ?_);intro v5 W5 t aN;simp only[JC]at t;obtain⟨A5,C5,g⟩:=ay t;rw[bH.o]at g;subst g;have Q:=IF aN Q;have i:=O t;have aJ:=O aN;clear t aN))
 refine bodyPost_end (results_none rfl _ _ _) rfl ?_
 have bi:EnR K r W8 (aF.take i0++[(k,(A6,row.length,C6))]++aF.drop i0) (ds.take i0++[(k,row)]++ds.drop i0) :=
  (((a2.o.take i0).below aU.o).append (EnR.one rfl (Aw.own (show OP W8 W5.heap.size (.slice A6 row.length C6) row from ah.o) (fun b hb=>⟨Jr a6.o (Jc aJ.o.size hb),aX.o b (Jc av.o.size (Jc aJ.o.size hb))⟩)))).append ((a2.o.drop i0).below aU.o)
 obtain⟨q1,q2⟩:=vC aq.o (aO.o.mono a6.o) (fun b hb=>aX.o b (Jc av.o.size (aO.o.lt b hb).1)) bi;exact⟨rfl,q1,(av.o.trans (IG aU.o)).trans q2⟩
end
section
open Go.RowKit Oct Go.WideMaps Go.Maps
abbrev CC (w:Z)(c M:Nat):Prop:=Blk w c 75 [.map (some M)]
abbrev cP (c:Nat):V_:=.pointer (some ⟨c,0,none⟩)
theorem xf (w:Z):C_ 17 #[] w fun e w'=>e=.returned (cP (w.heap.size+1))∧CC w' (w.heap.size+1) w.heap.size∧(∀ K,CM K w' w.heap.size 0 [])∧Bw_ w w':=by
 have aK:=@run_makeMap prog;go_enter func17,ntmps17;go_wp2_with fail;go_ret;obtain⟨W,hW⟩:=H (w.alloc (.map #[] 0));have hs:W.heap.size=w.heap.size+1:=by rw[hW];simp
 have hm:∀ K,CM K W w.heap.size 0 []:=fun K=>by rw[hW];exact CM.new K w
 have hb:=ba_ hW;rw[←hW];refine⟨rfl,?_,fun K=>(hm K).below (af _ _),bt hb (af _ _)⟩;rw[←hs];exact Blk.new W _ _
theorem Ce (k:q)(w:Z):R_ 7 #[.pointer none,s_ k] w (.tuple #[e_,.bool false]):=by
 go_enter func7,ntmps7;go_wp2_with fail;go_ret2;exact⟨rfl,Ja _ _⟩
theorem Ca (k:q)(w:Z):R_ 8 #[.pointer none,s_ k,e_] w (F 1):=by
 go_enter func8,ntmps8;go_wp2_with fail;go_ret;exact⟨rfl,Ja _ _⟩
theorem zn (k:q)(w:Z):R_ 9 #[.pointer none,s_ k] w (.bool false):=by
 go_enter func9,ntmps9;go_wp2_with fail;go_ret;exact⟨rfl,Ja _ _⟩
theorem zm (w:Z):R_ 10 #[.pointer none] w (e_):=by
 go_enter func10,ntmps10;go_wp2_with fail;go_ret;exact⟨rfl,Ja _ _⟩
theorem zo (w:Z):R_ 11 #[.pointer none] w (.pointer none):=by
 go_enter func11,ntmps11;go_wp2_with fail;go_ret;exact⟨rfl,Ja _ _⟩
theorem ns {K:Nat→Prop}(c M n:Nat)(I:LE_)(k:q)(w:Z)(hc:CC w c M)(hm:CM K w M n I)(hk:k.length≤140737488355328)(hr:((aM I k).getD []).length*32≤140737488355328):C_ 7 #[cP c,s_ k] w fun e w'=>(∃ v,e=.returned (.tuple #[v,.bool (aM I k).isSome])∧OP w' w.heap.size v ((aM I k).getD []))∧Bw_ w w':=by
 obtain⟨v,hl,hf⟩:=hm.look hk
 have hv:RP w v ((aM I k).getD []):=by
  cases hg:aM I k with
  | some r=>rw[hg]at hf;exact hf.1
  | none=>rw[hg]at hf;rw[show v=e_ from hf];exact RP.nil w
 have aU:=O (fB v _ w hv hr);obtain⟨va,vc,rfl,-,-⟩:=hv.open;have c0:=hc.c 0;obtain⟨b,hb⟩:=H ((aM I k).isSome);rw[←hb]at hl⊢;obtain⟨r,Q⟩:=H ((aM I k).getD []);rw[←Q]at hl aU⊢;clear hb Q hf hv hr hm;go_enter func7,ntmps7;go_wp2_with (go_at_call 30;refine aU.o.mono ?_;rintro e w2⟨v',rfl,ho,hB⟩;obtain⟨P,pc,rfl⟩:=ay ho;have HO:=O ho;have HB:=O hB;clear ho hB);go_ret2;exact⟨⟨_,rfl,HO.o⟩,HB.o⟩
theorem qY {K:Nat→Prop}(c M n:Nat)(I:LE_)(k:q)(v:V_)(r:LP_)(w:Z)(hc:CC w c M)(hm:CM K w M n I)(hk:k.length≤140737488355328)(hv:RP w v r)(hr:r.length*32≤140737488355328)(hn:n<1000000)(hK:∀ b,w.heap.size≤b→K b):C_ 8 #[cP c,s_ k,v] w fun e w'=>e=.returned (F 0)∧CM K w' M (n+1) (dm I k r)∧Chg (fun b=>b=M) w w':=by
 have aU:=O (fB v _ w.drew (hv.below (b_drew w)) hr);obtain⟨HC,HM,HK⟩:=zH3 hc hm hK;obtain⟨va,vc,rfl,-,-⟩:=hv.open;have c0:=hc.c 0;have bx:=hc.lt;clear hv hr hm hK hc;go_enter func8,ntmps8;go_upto_region 3 with fail;go_region_law (refine aN rfl 30 #[.slice va r.length vc] yzc aU.o ?_;rintro e w7⟨v',rfl,ho,hB⟩;have c0:=IF (bt (b_drew w) hB) c0;obtain⟨w8,ab,aP,l⟩:=(HM.o.below (bt (b_drew w) hB)).store hk (Aw.own ho (fun b hb=>HK.o b hb)) yzb;have au:=O aP;have b':=O ((IG (X:=fun b=>b=M) (bt (b_drew w) hB)).trans l);obtain⟨P,pc,rfl⟩:=ay ho;clear ho hB aP l)
 all_goals
  go_wp2_with fail;go_ret;exact⟨rfl,au.o,b'.o⟩
theorem tf {K:Nat→Prop}{M n:Nat}{I:LE_}{k:q}{aM:Array Oper}{rest:LO_}{o:Oper}{a:Act}{Q:Exit→Act→Z→Prop}(w:Z)(av:o.guard=none)(m x:Operand)(aE:o.op=Op.call { callee:=Callee.builtin Builtin.delete,args:=#[m,x],argTypes:=#[71,9] })(hC:CM K w M n I)(hm:a.eval m=.map (some M))(hx:a.eval x=s_ k)(hk:k.length≤140737488355328)(h:∀ w',CM K w' M n (bo I k)→Chg (fun b=>b=M) w w'→wpList prog aM Q rest (a.put o.dst (.tuple #[])) w'):wpList prog aM Q (o::rest) a w:=by
 refine wpList_plain av fun K' l=>?_;obtain⟨w',aO,r1,r2⟩:=hC.drop hk o.type;unfold Oper.wp;simp[execOp,aE,resolve,invoke,builtin,hm,hx,aO,Result.andThen];exact l _ _ (h w' r1 r2)
theorem Cf {K:Nat→Prop}(c M n:Nat)(I:LE_)(k:q)(w:Z)(hc:CC w c M)(hm:CM K w M n I)(hk:k.length≤140737488355328):C_ 9 #[cP c,s_ k] w fun e w'=>e=.returned (.bool (aM I k).isSome)∧CM K w' M n (bo I k)∧Chg (fun b=>b=M) w w':=by
 obtain⟨v,hl,hf⟩:=hm.look hk
 obtain⟨va,f,vc,rfl⟩:∃ a n c,v=.slice a n c:=by
  cases hg:aM I k with
  | some r=>rw[hg]at hf;obtain⟨a,c,h,_⟩:=RP.open hf.1;exact⟨_,_,_,h⟩
  | none=>rw[hg]at hf;exact⟨_,_,_,hf⟩
 have c0:=hc.c 0;have HM:=O hm;obtain⟨b,hb⟩:=H ((aM I k).isSome);rw[←hb]at hl⊢;clear hb hf hm;go_enter func9,ntmps9;go_wp2_with (at_delete;refine tf _ rfl _ _ rfl HM.o rfl rfl hk ?_;intro w8 aP l;have au:=O aP;have b':=O l;clear aP l);go_ret;exact⟨rfl,au.o,b'.o⟩
end
structure CSt where
 es:LE_
 found:Int
 made:Int
 pairs:Int
def eV (y:Nat→CSt→(LP_×q×Nat)×CSt):LI_→LQ_→CSt→(LQ_×q×Nat)×CSt
 | [],ag,s=>((ag,[],0),s)
 | k::o,ag,s=>if (y k.toNat s).1.2.2≠0 then (([],(y k.toNat s).1.2),(y k.toNat s).2) else eV y o (ag++[(y k.toNat s).1.1]) (y k.toNat s).2
def cN (j:Jb)(id:q):q:=(row [[110,111,100,101],cU (cR j),id]).1
def mT (j:Jb)(z:q)(K:(LQ_×q×Nat)×CSt):(LP_×q×Nat)×CSt :=
 if K.1.2.2≠0 then (([],K.1.2),K.2) else
 if (dg j K.1.1).2.2≠0 then (([],(dg j K.1.1).2),K.2) else
 (((dg j K.1.1).1,[],0),⟨dm K.2.es z (dg j K.1.1).1,K.2.found,wrap64 (K.2.made+1),wrap64 (K.2.pairs+((dg j K.1.1).1.length:Int))⟩)
def cC (j:Jb)(E:LD_)(n0:Nat)(ac:LQ_):Nat→Nat→CSt→(LP_×q×Nat)×CSt
 | 0,_,s=>(([],[],0),s)
 | f+1,n,s =>
  if n<n0 then ((ac.getD n [],[],0),s) else
  match aM s.es (cN j (E.getD n ([],[])).1) with
  | some r=>((r,[],0),⟨s.es,wrap64 (s.found+1),s.made,s.pairs⟩)
  | none=>mT j (cN j (E.getD n ([],[])).1) (eV (cC j E n0 ac f) (E.getD n ([],[])).2 [] s)
theorem nU {y:Nat→CSt→(LP_×q×Nat)×CSt}{k:Int}{o:LI_}{ag:LQ_}{s:CSt}(h:(y k.toNat s).1.2.2≠0):eV y (k::o) ag s=(([],(y k.toNat s).1.2),(y k.toNat s).2):=by rw[eV,if_pos h]
theorem qE {y:Nat→CSt→(LP_×q×Nat)×CSt}{k:Int}{o:LI_}{ag:LQ_}{s:CSt}(h:(y k.toNat s).1.2.2=0):eV y (k::o) ag s=eV y o (ag++[(y k.toNat s).1.1]) (y k.toNat s).2:=by rw[eV,if_neg (fun ap=>ap h)]
theorem jQ {j:Jb}{E:LD_}{n0:Nat}{ac:LQ_}{f n:Nat}{s:CSt}(h:n<n0):cC j E n0 ac (f+1) n s=((ac.getD n [],[],0),s):=by rw[cC,if_pos h]
theorem iQ {j:Jb}{E:LD_}{n0:Nat}{ac:LQ_}{f n:Nat}{s:CSt}{r:LP_}(h:¬n<n0)(hg:aM s.es (cN j (E.getD n ([],[])).1)=some r):cC j E n0 ac (f+1) n s=((r,[],0),⟨s.es,wrap64 (s.found+1),s.made,s.pairs⟩):=by rw[cC,if_neg h,hg]
theorem lp {j:Jb}{E:LD_}{n0:Nat}{ac:LQ_}{f n:Nat}{s:CSt}(h:¬n<n0)(hg:aM s.es (cN j (E.getD n ([],[])).1)=none):cC j E n0 ac (f+1) n s=mT j (cN j (E.getD n ([],[])).1) (eV (cC j E n0 ac f) (E.getD n ([],[])).2 [] s):=by rw[cC,if_neg h,hg]
theorem lr {j:Jb}{z:q}{K:(LQ_×q×Nat)×CSt}(h:K.1.2.2≠0):mT j z K=(([],K.1.2),K.2):=if_pos h
theorem jR {j:Jb}{z:q}{K:(LQ_×q×Nat)×CSt}(h:K.1.2.2=0)(h2:(dg j K.1.1).2.2≠0):mT j z K=(([],(dg j K.1.1).2),K.2):=(if_neg (fun ap=>ap h)).trans (if_pos h2)
theorem mS {j:Jb}{z:q}{K:(LQ_×q×Nat)×CSt}(h:K.1.2.2=0)(h2:(dg j K.1.1).2.2=0):mT j z K=(((dg j K.1.1).1,[],0),⟨dm K.2.es z (dg j K.1.1).1,K.2.found,wrap64 (K.2.made+1),wrap64 (K.2.pairs+((dg j K.1.1).1.length:Int))⟩):=(if_neg (fun ap=>ap h)).trans (if_neg (fun ap=>ap h2))
/-! sizes: all keys of pairs are of a row U,all keys of entries of a row V -/
def dC (U:LL_)(r:LP_):Prop:=(∀ p∈r,p.1∈U∧p.2.length≤10000)∧r.length≤2000
structure StU (U V:LL_) (s:CSt):Prop where
 rise:iH s.es
 rows:∀ x∈s.es,x.1∈V∧dC U x.2
theorem qq:∀ {l U:LL_},l.Nodup→(∀ x∈l,x∈U)→l.length≤U.length
 | [],_,_,_=>Jl _
 | x::l,U,hn,hs=>by
  obtain⟨h1,h2⟩:=List.nodup_cons.1 hn;have hx:=hs x (Jn ..);have h3:∀ y∈l,y∈U.erase x:=fun y hy=>(List.mem_erase_of_ne (fun e=>h1 (by rw[←e];exact hy))).2 (hs y (Jo _ hy));have h4:=qq h2 h3;have h5:=List.length_erase_of_mem hx;have h6:=List.length_pos_of_mem hx;simp only[Jq];omega
theorem yb {I:LE_}(h:iH I):(I.map (·.1)).Nodup:=by
 rw[List.Nodup,List.pairwise_map];refine List.Pairwise.imp ?_ h;intro a b s e;rw[e,gN]at s
 cases s
theorem StU.len {U V:LL_}{s:CSt}(h:StU U V s):s.es.length≤V.length:=by
 have h1:=qq (yb h.rise) (U:=V) (fun x hx=>by
  obtain⟨y,hy,rfl⟩:=List.mem_map.1 hx;exact(h.rows y hy).1)
 rwa [Js]at h1
theorem yE {r:LP_}(h:GB r=true):(r.map (·.1)).Nodup:=by
 have h1:=(pV _).1 h;rw[List.Nodup,List.pairwise_iff_getElem]
 have z:∀ (d i:Nat) (h2:i+d+1<(oR r).length),lt ((oR r)[i]' Y) ((oR r)[i+d+1])=true:=by
  intro d
  induction d with
  | zero=>intro i h2;exact h1 i Y
  | succ d H =>
   intro i h2;exact lt_trans' (H i Y) (h1 (i+d+1) Y)
 intro a b ha hb s e;have h2:=z (b-a-1) a (by show a+(b-a-1)+1<(r.map (·.1)).length;omega);have e2:a+(b-a-1)+1=b:=Y;simp only[e2]at h2
 change lt ((r.map (·.1))[a]) ((r.map (·.1))[b])=true at h2
 rw[e,gN]at h2
 cases h2
theorem ve (j:Jb)(U:LL_):∀ (L:LQ_) (ag:LP_),(∀ p∈ag,p.1∈U∧p.2.length≤10000)→(∀ g∈L,g≠[]∧∀ p∈g,p.1∈U∧p.2.length≤10000)→∀ p∈(ee j ag L).1,p.1∈U∧p.2.length≤10000
 | [],ag,ho,_=>ho
 | g::L,ag,ho,hg=>by
  rw[ee]
  split
  ·intro p hp;cases hp
  ·refine ve j U L _ (fun p hp=>?_) (fun D y=>hg D (Jo _ y))
   rcases Jt.1 hp with hp|hp
   ·exact ho p hp
   ·rw[Jp]at hp
    subst hp;obtain⟨aI,B⟩:=hg g (Jn ..);refine⟨?_,?_⟩
    ·cases g with
     | nil=>exact absurd rfl aI
     | cons x xs=>exact(B x (Jn ..)).1
    ·show(valuesJ j (g.map (·.2))).1.length≤10000
     unfold valuesJ
     split
     ·refine sN j 10000 d_ _ _ ?_
      cases g with
      | nil=>exact absurd rfl aI
      | cons x xs=>exact(B x (Jn ..)).2
     ·exact Jl _
theorem tN {U:LL_}(hU:U.length≤2000)(j:Jb)(ac:LQ_)(h:∀ r∈ac,dC U r):dC U (dg j ac).1:=by
 have h1:∀ p∈(dg j ac).1,p.1∈U∧p.2.length≤10000:=by
  unfold dg
  split
  ·refine ve j U _ [] i_ (fun g hg=>?_)
   have h1:=(iC (srt ac.flatten).length (srt ac.flatten) (I6 _) (dW _)).1 g hg;refine⟨fun e=>?_,fun p hp=>?_⟩
   ·obtain⟨p,hp,hk⟩:=h1.2
    have hm:p∈db (hk1 g) (srt ac.flatten):=by
     unfold db;exact List.mem_filter.2 ⟨hp,by simp[hk]⟩
    rw[←h1.1,e]at hm
    cases hm
   ·rw[h1.1,nP]at hp
    have au:=(List.mem_filter.1 hp).1;obtain⟨r,hr,aj⟩:=List.mem_flatten.1 au;exact(h r hr).1 p aj
  ·intro p hp;cases hp
 refine⟨h1,?_⟩
 have h2:=qq (yE (yC j ac)) (U:=U) (fun x hx=>by
  obtain⟨y,hy,rfl⟩:=List.mem_map.1 hx;exact(h1 y hy).1)
 rw[Js]at h2;omega
theorem dC.nil (U:LL_):dC U []:=⟨by simp,by simp⟩
theorem StU.get {U V:LL_}{s:CSt}(h:StU U V s){k:q}{r:LP_}(hg:aM s.es k=some r):dC U r:=(h.rows _ (entGet_mem hg)).2
theorem StU.put {U V:LL_}{s:CSt}(h:StU U V s){k:q}{r:LP_}(hk:k∈V)(hr:dC U r)(a b c:Int):StU U V ⟨dm s.es k r,a,b,c⟩ :=
 ⟨h.rise.put k r,fun x hx=>by
  rcases mem_entPut hx with rfl|hx
  ·exact⟨hk,hr⟩
  ·exact h.rows x hx⟩
theorem zX {U V:LL_}{y:Nat→CSt→(LP_×q×Nat)×CSt}:∀ (o:LI_) (a0:∀ k∈o,∀ s,StU U V s→dC U (y k.toNat s).1.1∧StU U V (y k.toNat s).2) (ag:LQ_) (s:CSt),(∀ r∈ag,dC U r)→StU U V s → (∀ r∈(eV y o ag s).1.1,dC U r)∧StU U V (eV y o ag s).2∧(eV y o ag s).1.1.length≤ag.length+o.length
 | [],_,ag,s,ho,hs=>⟨ho,hs,I6 _⟩
 | k::o,a0,ag,s,ho,hs=>by
  have h1:=a0 k (Jn ..) s hs
  by_cases hz:(y k.toNat s).1.2.2=0
  ·rw[qE hz]
   have h2:=zX o (fun x hx=>a0 x (Jo _ hx)) (ag++[(y k.toNat s).1.1]) (y k.toNat s).2 (fun r hr=>by
    rcases Jt.1 hr with hr|hr
    ·exact ho r hr
    ·rw[Jp.1 hr];exact h1.1) h1.2
   refine⟨h2.1,h2.2.1,?_⟩;have h3:=h2.2.2;rw[Jh]at h3;simp only[Jq,JI]at h3⊢;omega
  ·rw[nU hz]
   exact⟨by simp,h1.2,Jl _⟩
theorem Fh {U V:LL_}(hU:U.length≤2000)(j:Jb){z:q}(hk:z∈V){K:(LQ_×q×Nat)×CSt}(h1:∀ r∈K.1.1,dC U r)(h2:StU U V K.2):dC U (mT j z K).1.1∧StU U V (mT j z K).2:=by
 by_cases hz:K.1.2.2=0
 ·by_cases hq:(dg j K.1.1).2.2=0
  ·rw[mS hz hq]
   have hr:=tN hU j K.1.1 h1;exact⟨hr,h2.put hk hr _ _ _⟩
  ·rw[jR hz hq]
   exact⟨dC.nil U,h2⟩
 ·rw[lr hz]
  exact⟨dC.nil U,h2⟩
theorem mO {U V:LL_}(hU:U.length≤2000)(j:Jb)(E:LD_)(n0:Nat)(ac:LQ_)(hr:∀ r∈ac,dC U r)(hV:∀ n,cN j (E.getD n ([],[])).1∈V):∀ (f n:Nat) (s:CSt),StU U V s→dC U (cC j E n0 ac f n s).1.1∧StU U V (cC j E n0 ac f n s).2
 | 0,_,s,hs=>⟨dC.nil U,hs⟩
 | f+1,n,s,hs=>by
  by_cases hn:n<n0
  ·rw[jQ hn]
   refine⟨?_,hs⟩;show dC U (ac.getD n [])
   by_cases h:n<ac.length
   ·rw[List.getD_eq_getElem?_getD,List.getElem?_eq_getElem h]
    exact hr _ (Jz h)
   ·rw[List.getD_eq_getElem?_getD,List.getElem?_eq_none Y]
    exact dC.nil U
  ·cases hg:aM s.es (cN j (E.getD n ([],[])).1) with
   | some r =>
    rw[iQ hn hg];exact⟨hs.get hg,hs.rise,hs.rows⟩
   | none =>
    rw[lp hn hg];have h1:=zX (U:=U) (V:=V) (E.getD n ([],[])).2 (fun k _ s hs=>mO hU j E n0 ac hr hV f k.toNat s hs) [] s i_ hs;exact Fh hU j (hV n) h1.1 h1.2.1
theorem dC.flat {U:LL_}{ac:LQ_}(h:∀ r∈ac,dC U r):ac.flatten.length≤ac.length*2000∧∀ p∈ac.flatten,p.2.length≤10000:=by
 refine⟨?_,fun p hp=>?_⟩
 ·induction ac with
  | nil=>simp
  | cons r d H =>
   rw[List.flatten_cons,Jh,Jq,Nat.succ_mul];have h1:=H (fun x hx=>h x (Jo _ hx));have h2:=(h r (Jn ..)).2;omega
 ·obtain⟨r,hr,aj⟩:=List.mem_flatten.1 hp
  exact((h r hr).1 p aj).2
def dT (j:Jb)(r:LP_):q×Int :=
 if bK j=true then
  if (fb r).2≠0 then ([],(fb r).2) else
  if (row [[108,101,97,102],cU (cR j),(fb r).1]).2≠0 then ([],(row [[108,101,97,102],cU (cR j),(fb r).1]).2) else (cU (row [[108,101,97,102],cU (cR j),(fb r).1]).1,0)
 else ([],2)
theorem lu {j:Jb}{r:LP_}(h:bK j=false):dT j r=([],2):=if_neg (by rw[h];decide)
theorem nS {j:Jb}{r:LP_}(h:bK j=true)(h1:(fb r).2≠0):dT j r=([],(fb r).2):=(if_pos h).trans (if_pos h1)
theorem mg {j:Jb}{r:LP_}(h:bK j=true)(h1:(fb r).2=0)(h2:(row [[108,101,97,102],cU (cR j),(fb r).1]).2≠0):dT j r=([],(row [[108,101,97,102],cU (cR j),(fb r).1]).2):=(if_pos h).trans ((if_neg (fun ap=>ap h1)).trans (if_pos h2))
theorem qC {j:Jb}{r:LP_}(h:bK j=true)(h1:(fb r).2=0)(h2:(row [[108,101,97,102],cU (cR j),(fb r).1]).2=0):dT j r=(cU (row [[108,101,97,102],cU (cR j),(fb r).1]).1,0):=(if_pos h).trans ((if_neg (fun ap=>ap h1)).trans (if_neg (fun ap=>ap h2)))
theorem BG {j:Jb}{r:LP_}(h:(dT j r).2=0):(dT j r).1.length=32:=by
 cases hm:bK j with
 | false=>rw[lu hm]at h;cases h
 | true =>
  by_cases h1:(fb r).2=0
  ·by_cases h2:(row [[108,101,97,102],cU (cR j),(fb r).1]).2=0
   ·rw[qC hm h1 h2]
    exact dw _
   ·rw[mg hm h1 h2]at h
    exact absurd h h2
  ·rw[nS hm h1]at h
   exact absurd h h1
theorem BF {j:Jb}{r:LP_}(h:(dT j r).2=0):bK j=true:=by
 cases hm:bK j with
 | false=>rw[lu hm]at h;cases h
 | true=>rfl
def aC (j:Jb):LL_→LQ_→LL_×Int
 | ag,[]=>(ag,0)
 | ag,r::d=>if (dT j r).2≠0 then ([],(dT j r).2) else aC j (ag++[(dT j r).1]) d
theorem iS {j:Jb}{ag:LL_}{r:LP_}{d:LQ_}(h:(dT j r).2≠0):aC j ag (r::d)=([],(dT j r).2):=by rw[aC,if_pos h]
theorem jV {j:Jb}{ag:LL_}{r:LP_}{d:LQ_}(h:(dT j r).2=0):aC j ag (r::d)=aC j (ag++[(dT j r).1]) d:=by rw[aC,if_neg (fun ap=>ap h)]
theorem eS (j:Jb):∀ (d:LQ_) (ag:LL_),(aC j ag d).2=0→(∀ x∈ag,x.length=32)→(aC j ag d).1.length=ag.length+d.length∧(∀ x∈(aC j ag d).1,x.length=32)∧(d≠[]→bK j=true)
 | [],ag,_,ho=>⟨rfl,ho,fun h=>absurd rfl h⟩
 | r::d,ag,h,ho=>by
  by_cases hz:(dT j r).2=0
  ·rw[jV hz]at h⊢
   have h1:=eS j d (ag++[(dT j r).1]) h (fun x hx=>by
    rcases Jt.1 hx with hx|hx
    ·exact ho x hx
    ·rw[Jp.1 hx];exact BG hz)
   refine⟨?_,h1.2.1,fun _=>BF hz⟩;rw[h1.1,Jh,Jq];simp;omega
  ·rw[iS hz]at h
   exact absurd h hz
theorem nZ {l:LL_}(h:∀ x∈l,x.length=32):de l=true:=kY fun k hk=>by rw[kO,h _ (Jz hk)];rfl
structure rp (nodes:LD_) (n0:Nat):Prop where
 le:n0≤nodes.length
 two:nodes.length≤2*n0
 ids:∀ x∈nodes,x.1.length=32
 kids:∀ i,n0≤i→i<nodes.length→∀ k∈(nodes.getD i ([],[])).2,0≤k∧k<(i:Int)
 few:∀ x∈nodes,x.2.length≤8
theorem jF {l:LL_}(h:∀ x∈l,x.length=32):rp (aJ l) l.length:=by
 have hid:=nZ h;obtain⟨h1,h2,h3,h4⟩:=up hid;obtain⟨d,ae,_,hg⟩:=s4 hid;exact⟨h1,h2,h3,fun i hi aG=>(hg.inner i hi aG).2.2.1,h4⟩
def ez (j:Jb)(ac:LQ_)(I:LE_):(LP_×(Int×Int×Int)×q×Int)×LE_ :=
 if (aC j [] ac).2≠0 then (([],(0,0,0),[],(aC j [] ac).2),I) else
 if ac=[] then (([],(0,0,0),[],0),I) else
 if (cC j (aJ (aC j [] ac).1) ac.length ac (aJ (aC j [] ac).1).length ((aJ (aC j [] ac).1).length-1) ⟨I,0,0,0⟩).1.2.2≠0 then
  (([],(0,0,0),(cC j (aJ (aC j [] ac).1) ac.length ac (aJ (aC j [] ac).1).length ((aJ (aC j [] ac).1).length-1) ⟨I,0,0,0⟩).1.2.1,((cC j (aJ (aC j [] ac).1) ac.length ac (aJ (aC j [] ac).1).length ((aJ (aC j [] ac).1).length-1) ⟨I,0,0,0⟩).1.2.2:Int)),
   (cC j (aJ (aC j [] ac).1) ac.length ac (aJ (aC j [] ac).1).length ((aJ (aC j [] ac).1).length-1) ⟨I,0,0,0⟩).2.es)
 else
  (((cC j (aJ (aC j [] ac).1) ac.length ac (aJ (aC j [] ac).1).length ((aJ (aC j [] ac).1).length-1) ⟨I,0,0,0⟩).1.1,
   ((cC j (aJ (aC j [] ac).1) ac.length ac (aJ (aC j [] ac).1).length ((aJ (aC j [] ac).1).length-1) ⟨I,0,0,0⟩).2.found,
    (cC j (aJ (aC j [] ac).1) ac.length ac (aJ (aC j [] ac).1).length ((aJ (aC j [] ac).1).length-1) ⟨I,0,0,0⟩).2.made,
    (cC j (aJ (aC j [] ac).1) ac.length ac (aJ (aC j [] ac).1).length ((aJ (aC j [] ac).1).length-1) ⟨I,0,0,0⟩).2.pairs),[],0),
   (cC j (aJ (aC j [] ac).1) ac.length ac (aJ (aC j [] ac).1).length ((aJ (aC j [] ac).1).length-1) ⟨I,0,0,0⟩).2.es)
theorem mE {j:Jb}{ac:LQ_}{I:LE_}(h:(aC j [] ac).2≠0):ez j ac I=(([],(0,0,0),[],(aC j [] ac).2),I):=if_pos h
theorem nI {j:Jb}{I:LE_}:ez j [] I=(([],(0,0,0),[],0),I):=rfl
theorem nJ {j:Jb}{ac:LQ_}{I:LE_}{N:LD_}{R:(LP_×q×Nat)×CSt}(h:(aC j [] ac).2=0)(hr:ac≠[])(hN:N=aJ (aC j [] ac).1)(hR:R=cC j N ac.length ac N.length (N.length-1) ⟨I,0,0,0⟩)(h2:R.1.2.2≠0):ez j ac I=(([],(0,0,0),R.1.2.1,(R.1.2.2:Int)),R.2.es):=by
 subst hN hR;exact(if_neg (fun ap=>ap h)).trans ((if_neg hr).trans (if_pos h2))
theorem tK {j:Jb}{ac:LQ_}{I:LE_}{N:LD_}{R:(LP_×q×Nat)×CSt}(h:(aC j [] ac).2=0)(hr:ac≠[])(hN:N=aJ (aC j [] ac).1)(hR:R=cC j N ac.length ac N.length (N.length-1) ⟨I,0,0,0⟩)(h2:R.1.2.2=0):ez j ac I=((R.1.1,(R.2.found,R.2.made,R.2.pairs),[],0),R.2.es):=by
 subst hN hR;exact(if_neg (fun ap=>ap h)).trans ((if_neg hr).trans (if_neg (fun ap=>ap h2)))
def lQ (j:Jb)(E:LD_):LL_:=cN j []::E.map fun x=>cN j x.1
theorem sE (j:Jb)(E:LD_):(lQ j E).length=E.length+1:=by simp[lQ]
theorem sD (j:Jb)(E:LD_)(n:Nat):cN j (E.getD n ([],[])).1∈lQ j E:=by
 by_cases h:n<E.length
 ·rw[List.getD_eq_getElem?_getD,List.getElem?_eq_getElem h]
  exact Jo _ (List.mem_map.2 ⟨_,Jz h,rfl⟩)
 ·rw[List.getD_eq_getElem?_getD,List.getElem?_eq_none Y]
  exact Jn ..
theorem pT {U V:LL_}(hU:U.length≤2000)(j:Jb)(ac:LQ_)(I:LE_)(hr:∀ r∈ac,dC U r)(hs:StU U V ⟨I,0,0,0⟩)(hV:∀ n,cN j ((aJ (aC j [] ac).1).getD n ([],[])).1∈V):dC U (ez j ac I).1.1∧StU U V ⟨(ez j ac I).2,0,0,0⟩:=by
 by_cases hz:(aC j [] ac).2=0
 ·by_cases hn:ac=[]
  ·subst hn
   rw[nI];exact⟨dC.nil U,hs⟩
  ·have h1:=mO hU j (aJ (aC j [] ac).1) ac.length ac hr hV (aJ (aC j [] ac).1).length ((aJ (aC j [] ac).1).length-1) ⟨I,0,0,0⟩ hs
   by_cases h2:(cC j (aJ (aC j [] ac).1) ac.length ac (aJ (aC j [] ac).1).length ((aJ (aC j [] ac).1).length-1) ⟨I,0,0,0⟩).1.2.2=0
   ·rw[tK hz hn rfl rfl h2]
    exact⟨h1.1,h1.2.rise,h1.2.rows⟩
   ·rw[nJ hz hn rfl rfl h2]
    exact⟨dC.nil U,h1.2.rise,h1.2.rows⟩
 ·rw[mE hz]
  exact⟨dC.nil U,hs⟩
theorem gW (j:Jb)(id:q)(h:id.length≤64):(row [[110,111,100,101],cU (cR j),id]).2=0∧(cN j id).length≤200:=by
 have hs:=dw (cR j)
 have hf:eT [[110,111,100,101],cU (cR j),id]=true:=by
  simp only[eT,List.all_cons,List.all_nil,Bool.and_true,Jj,decide_eq_true_eq,hs];refine⟨by decide,by decide,?_⟩;omega
 have e:=xY [[110,111,100,101],cU (cR j),id] i_ hf;unfold cN;rw[e];refine⟨rfl,?_⟩;simp[texts,hs];omega
def idJ (j:Jb):q×Int:=if bK j=true then (cU (cR j),0) else ([],2)
theorem ue {j:Jb}(h:bK j=true):idJ j=(cU (cR j),0):=if_pos h
theorem yV {j:Jb}(h:bK j=false):idJ j=([],2):=if_neg (by rw[h];decide)
theorem zZ (t1 c1 t2 c2 t3 c3:V_)(j:Jb)(w:Z)(h:dD w t1 c1 t2 c2 t3 c3 j):R_ 34 #[bM t1 c1 t2 c2 t3 c3 j] w (.tuple #[s_ (idJ j).1,F (idJ j).2]):=by
 cases hm:bK j with
 | true=>rw[ue hm];exact Fj t1 c1 t2 c2 t3 c3 j w h hm
 | false=>rw[yV hm];exact GK t1 c1 t2 c2 t3 c3 j w h hm
theorem qB {id b:q}{r:LP_}(hi:id.length=32)(hb:b=(fb r).1)(hs:(texts (tx r)).length≤500000000):(texts [[108,101,97,102],id,b]).length≤1000000000:=by
 have h1:(fb r).1.length≤(texts (tx r)).length+2:=Classical.byContradiction fun h=>DE r fun h'=>h h';subst hb;simp[texts,hi];omega
theorem LQ {T:Prop} (h:T:=by
 go_wp2_with (go_at_call 34;refine(HI.o _ a_.o).mono ?_;rintro e w2⟨rfl,ax⟩;have a9:=O (bt a_.o ax);clear ax x0 x1 x2 x3 x4 x5 x6 x7);go_ret2;exact⟨rfl,a9.o⟩
):T:=h
theorem Mx {T:Prop} (h:T:=by
 have h1:=Q.o
 have h2:S.1.length≤(texts [[108,101,97,102],ID,i]).length+2:=by
  rw[hS];unfold row
  split
  ·split
   ·simp[aZ]
    omega
   ·simp
  ·simp
 omega
):T:=h
theorem sZ (t1 c1 t2 c2 t3 c3 u:V_)(j:Jb)(r:LP_)(w:Z)(h:dD w t1 c1 t2 c2 t3 c3 j)(hu:RP w u r)(hs:(texts (tx r)).length≤500000000)(hl:r.length≤1000000):R_ 12 #[bM t1 c1 t2 c2 t3 c3 j,u] w (.tuple #[s_ (dT j r).1,F (dT j r).2]):=by
 have HI:=O (fun w' (hB:Bw_ w w')=>zZ t1 c1 t2 c2 t3 c3 j w' (h.below hB));have HP:=O (fun w' (hB:Bw_ w w')=>Ez u r w' (hu.below hB) Y Y);obtain⟨ua,uc,rfl,-,-⟩:=hu.open;obtain⟨ta,tc,ca,cc,aV,bd,be,bf,bg,bh,bi,bk,rfl,rfl,rfl,rfl,rfl,rfl⟩:=jo_ h.a.t h.a.c h.b.t h.b.c h.c.t h.c.c;unfold bM at HI⊢;obtain⟨W1,aA⟩:=H (w.alloc (.cells #[.slice ta j.mt.length tc,.slice ca j.mc.length cc,.slice aV j.jt.length bd,.slice be j.jc.length bf,.slice bg j.tt.length bh,.slice bi j.tc.length bk,F j.parts,F j.fuel] 27));have a8:=ba_ aA;obtain⟨J,hJ⟩:=H w.heap.size;have hx:=bn_ hJ aA;obtain⟨x0,x1,x2,x3,x4,x5,x6,x7⟩:=cl8 hx;have a_:=O a8;have HX:=O hx
 cases hm:bK j with
 | false =>
  have HL:=O (lu (r:=r) hm);rw[yV hm]at HI;rw[HL.o];go_enter func12,ntmps12;go_upto_region 1 with fail;rw[←aA,←hJ];clear aA hJ a8 hx h hm hu hs hl HP;exact LQ
 | true =>
  have Q:=O (qB (id:=cU (cR j)) (b:=(fb r).1) (dw _) rfl hs);obtain⟨aH,a,ae⟩:=zH3 (fun h1=>nS (r:=r) hm h1) (fun h1 h2=>mg (r:=r) hm h1 h2) (fun h1 h2=>qC (r:=r) hm h1 h2);rw[ue hm]at HI;obtain⟨ID,x⟩:=H (cU (cR j));rw[←x]at HI Q a ae;obtain⟨L,d⟩:=H (dT j r);rw[←d]at aH a ae⊢;obtain⟨P,hP⟩:=H (fb r);rw[←hP]at HP Q aH a ae;unfold txV at HP;obtain⟨i,l⟩:=P;dsimp only at HP Q aH a ae;go_enter func12,ntmps12;go_upto_region 1 with fail;rw[←aA,←hJ];clear aA hJ a8 hx h hm hu hs hl hP d x
  by_cases hz:l=0
  ·subst hz
   have a6:=O (fun w'=>uw (.slice (some ⟨w'.heap.size,0,none⟩) 3 3) [[108,101,97,102],ID,i] (w'.alloc (.cells #[.string ⟨#[108,101,97,102]⟩,s_ ID,s_ i] 9)) (aO.new w' [.string ⟨#[108,101,97,102]⟩,s_ ID,s_ i] 3 9 3) Q.o i_);have a:=O (a.o rfl);have ae:=O (ae.o rfl);obtain⟨S,hS⟩:=H (row [[108,101,97,102],ID,i]);rw[←hS]at a6 a ae
   have bj:S.1.length≤70368744177664:=by
    exact Mx
   have E:=O (fun w'=>uv S.1 w' bj);obtain⟨m,Sz⟩:=S;unfold txV at a6;dsimp only at a6 a ae E;clear hS bj Q aH
   by_cases hy:Sz=0
   ·subst hy
    have aa:=ae.o rfl;subst aa;clear a ae;go_wp2_with (first|(go_at_call 37;refine mB_ (E.o w4) ba fun w5 aJ=>?_)|(go_at_call 36;refine(a6.o w3).mono ?_;rintro e w4⟨rfl,aQ⟩;have ba:=O (bt (bt aW.o (af _ _)) aQ);clear aQ)|(go_at_call 35;refine mB_ (HP.o w2 a9.o) a9 fun w3 aW=>?_)|(go_at_call 34;refine(HI.o _ a_.o).mono ?_;rintro e w2⟨rfl,ax⟩;have a9:=O (bt a_.o ax);clear ax x0 x1 x2 x3 x4 x5 x6 x7));go_ret2;exact⟨rfl,aJ.o⟩
   ·have k:=a.o hy
    subst k;clear a ae;go_wp2_with (first|(go_at_call 36;refine(a6.o w3).mono ?_;rintro e w4⟨rfl,aQ⟩;have ba:=O (bt (bt aW.o (af _ _)) aQ);clear aQ)|(go_at_call 35;refine mB_ (HP.o w2 a9.o) a9 fun w3 aW=>?_)|(go_at_call 34;refine(HI.o _ a_.o).mono ?_;rintro e w2⟨rfl,ax⟩;have a9:=O (bt a_.o ax);clear ax x0 x1 x2 x3 x4 x5 x6 x7));go_ret2;exact⟨rfl,ba.o⟩
  ·have cw:=aH.o hz
   subst cw;clear a ae aH Q;go_wp2_with (first|(go_at_call 35;refine mB_ (HP.o w2 a9.o) a9 fun w3 aW=>?_)|(go_at_call 34;refine(HI.o _ a_.o).mono ?_;rintro e w2⟨rfl,ax⟩;have a9:=O (bt a_.o ax);clear ax x0 x1 x2 x3 x4 x5 x6 x7));go_ret2;exact⟨rfl,aW.o⟩
def rF (j:Jb)(id:q):q×Int:=if bK j=true∧id.length=32 then (cN j id,0) else ([],2)
theorem np (t1 c1 t2 c2 t3 c3:V_)(j:Jb)(id:q)(w:Z)(h:dD w t1 c1 t2 c2 t3 c3 j)(hi:id.length≤140737488355328):R_ 14 #[bM t1 c1 t2 c2 t3 c3 j,s_ id] w (.tuple #[s_ (rF j id).1,F (rF j id).2]):=by
 have HI:=O (fun w' (hB:Bw_ w w')=>zZ t1 c1 t2 c2 t3 c3 j w' (h.below hB));obtain⟨ta,tc,ca,cc,aV,bd,be,bf,bg,bh,bi,bk,rfl,rfl,rfl,rfl,rfl,rfl⟩:=jo_ h.a.t h.a.c h.b.t h.b.c h.c.t h.c.c;unfold bM at HI⊢;obtain⟨W1,aA⟩:=H (w.alloc (.cells #[.slice ta j.mt.length tc,.slice ca j.mc.length cc,.slice aV j.jt.length bd,.slice be j.jc.length bf,.slice bg j.tt.length bh,.slice bi j.tc.length bk,F j.parts,F j.fuel] 27));have a8:=ba_ aA;obtain⟨J,hJ⟩:=H w.heap.size;have hx:=bn_ hJ aA;obtain⟨x0,x1,x2,x3,x4,x5,x6,x7⟩:=cl8 hx;have a_:=O a8;have HX:=O hx
 cases hm:bK j with
 | false =>
  have HL:=O (show rF j id=([],2) from if_neg (by rw[hm];simp));rw[yV hm]at HI;rw[HL.o];go_enter func14,ntmps14;go_upto_region 1 with fail;rw[←aA,←hJ];clear aA hJ a8 hx h hm;exact LQ
 | true =>
  rw[ue hm]at HI
  by_cases h2:id.length=32
  ·have HL:=O (show rF j id=(cN j id,0) from if_pos ⟨hm,h2⟩)
   have bb:=(gW j id Y).1;have Q:=O (show(texts [[110,111,100,101],cU (cR j),id]).length≤1000000000 by simp[texts,dw];omega);rw[HL.o];unfold cN;obtain⟨ID,x⟩:=H (cU (cR j));rw[←x]at HI Q bb⊢;have a6:=O (fun w'=>uw (.slice (some ⟨w'.heap.size,0,none⟩) 3 3) [[110,111,100,101],ID,id] (w'.alloc (.cells #[.string ⟨#[110,111,100,101]⟩,s_ ID,s_ id] 9)) (aO.new w' [.string ⟨#[110,111,100,101]⟩,s_ ID,s_ id] 3 9 3) Q.o i_);obtain⟨S,hS⟩:=H (row [[110,111,100,101],ID,id]);rw[←hS]at a6 bb⊢;obtain⟨m,Sz⟩:=S;unfold txV at a6;dsimp only at a6 bb⊢;subst bb;have a:((id.length:Nat):Int)=32:=Y;go_enter func14,ntmps14;go_upto_region 1 with fail;rw[←aA,←hJ];clear aA hJ a8 hx h hm hS x Q HL h2;go_wp2_with (first|(go_at_call 36;refine(a6.o w2).mono ?_;rintro e w3⟨rfl,al⟩;have aW:=O (bt (bt a9.o (af _ _)) al);clear al)|(go_at_call 34;refine(HI.o _ a_.o).mono ?_;rintro e w2⟨rfl,ax⟩;have a9:=O (bt a_.o ax);clear ax x0 x1 x2 x3 x4 x5 x6 x7));go_ret2;exact⟨rfl,aW.o⟩
  ·have HL:=O (show rF j id=([],2) from if_neg (fun ap=>h2 ap.2))
   have a:¬((id.length:Nat):Int)=32:=Y;rw[HL.o];obtain⟨ID,x⟩:=H (cU (cR j));rw[←x]at HI;go_enter func14,ntmps14;go_upto_region 1 with fail;rw[←aA,←hJ];clear aA hJ a8 hx h hm x HL h2;exact LQ
theorem NRf.chg {X:Nat→Prop}{w w':Z}{B:Nat}{v:V_}{E:LD_}(h:NRf w B v E)(hc:Chg X w w')(hX:∀ b,B≤b→¬X b):NRf w' B v E:=by
 obtain⟨aF,h1,h2,h4,h3⟩:=h;exact⟨aF,h1.chg hc (fun b hb=>hX b (h4 b hb)),h2,h4,fun i hi d=>⟨(h3 i hi d).1,(h3 i hi d).2.1.chg hc (fun b hb=>hX b ((h3 i hi d).2.2 b hb)),(h3 i hi d).2.2⟩⟩
theorem NRf.base {w:Z}{B u:Nat}{v:V_}{E:LD_}(h:NRf w B v E)(hB:u≤B):NRf w u v E:=by
 obtain⟨aF,h1,h2,h4,h3⟩:=h;exact⟨aF,h1,h2,fun b hb=>Jc hB (h4 b hb),fun i hi d=>⟨(h3 i hi d).1,(h3 i hi d).2.1,fun b hb=>Jc hB ((h3 i hi d).2.2 b hb)⟩⟩
theorem NRf.below {w w':Z}{B:Nat}{v:V_}{E:LD_}(h:NRf w B v E)(hB:Bw_ w w'):NRf w' B v E:=h.chg (X:=fun _=>False) (IG hB) (fun _ _ h=>h)
theorem FF {w':Z}{B:Nat}{l:LL_}{e:Ending}(h:xj w' B l e)(hid:de l=true)(hl:l.length≤4096):∃ a c,e=.returned (.tuple #[.agg #[.slice a (aJ l).length c,F l.length],F 0])∧NRf w' B (.slice a (aJ l).length c) (aJ l):=by
 unfold xj at h;rw[if_pos ⟨hid,hl⟩]at h;obtain⟨v,h1,h2⟩:=h;obtain⟨a,c,rfl,_⟩:=py h2.nr;exact⟨a,c,h1,h2⟩
def s8 (w':Z)(B:Nat)(j:Jb)(ac:LQ_)(e:Ending):Prop :=
 ((aC j [] ac).2≠0∧e=.returned (.tuple #[.agg #[.slice none 0 0,.int .i64 0],.int .i64 (aC j [] ac).2])) ∨
 ((aC j [] ac).2=0∧∃ a c,e=.returned (.tuple #[.agg #[.slice a (aJ (aC j [] ac).1).length c,.int .i64 ac.length],.int .i64 0])∧NRf w' B (.slice a (aJ (aC j [] ac).1).length c) (aJ (aC j [] ac).1))
theorem jE {w:Z}{T:Nat}{x y u v:V_}(h:Blk w T 68 [x,y]):(loadVar 68 ⟨T,0,none⟩).run prog ((w.setCell ⟨T,0,none⟩ u).setCell ⟨T,1,none⟩ v)=.ok (.agg #[u,v]) ((w.setCell ⟨T,0,none⟩ u).setCell ⟨T,1,none⟩ v)∧Chg (fun k=>k=T) w ((w.setCell ⟨T,0,none⟩ u).setCell ⟨T,1,none⟩ v):=by
 have h2:=(h.set 0 u).set 1 v;exact⟨ls h2,Chg.trans (Chg.setCell w ⟨T,0,none⟩ u rfl) (Chg.setCell _ ⟨T,1,none⟩ v rfl)⟩
theorem Mb {T:Prop} (h:T:=by
 obtain⟨a4,aI⟩:=jE (u:=.slice a2 N.length c2) (v:=.int .i64 ac.length) a.o;refine bodyPost_ret (aX rfl rfl a4) rfl ?_;have hN:=HN.o;subst hN;refine⟨⟨_,_,rfl,(bS.o.chg aI (fun b hb e=>?_)).base ?_⟩,bt a_.o aK.o |>.trans (aI.below (fun b hb=>by rw[show b=J+1 from hb,HJ.o];exact Nat.le_succ _) (Jc a_.o.size aK.o.size))⟩
 ·have:=HS.o
  rw[show b=J+1 from e]at hb;omega
 ·have:=HS.o
  have:=HJ.o;omega
):T:=h
theorem Mk {T:Prop} (h:T:=by
 obtain⟨a4,aI⟩:=jE (u:=.slice none 0 0) (v:=.int .i64 0) a.o;refine bodyPost_ret (aX rfl rfl a4) rfl ?_;have bT:=bR.o;rw[←bT];exact⟨.inl ⟨hz,rfl⟩,bt a_.o aK.o |>.trans (aI.below (fun b hb=>by rw[show b=J+1 from hb,HJ.o];exact Nat.le_succ _) (Jc a_.o.size aK.o.size))⟩
):T:=h
theorem Mr {T:Prop} (h:T:=by
 go_roundw
 case rel =>
  exact⟨k+1,ag++[z],aw.o,by go_num,by unfold Hid;rw[Jh,a3.o];rfl,aO.o,bR.o,aK.o.trans (by rw[b0.o];exact aU.o)⟩
 case measure=>have:=aw.o;simp[intOf];omega
):T:=h
theorem sY (t1 c1 t2 c2 t3 c3 v:V_)(j:Jb)(ac:LQ_)(w:Z)(h:dD w t1 c1 t2 c2 t3 c3 j)(hr:RR w v ac)(hl:ac.length≤4096)(hm:∀ r∈ac,(texts (tx r)).length≤500000000∧r.length≤1000000):C_ 29 #[bM t1 c1 t2 c2 t3 c3 j,v] w fun e w'=>s8 w' w.heap.size j ac e∧Bw_ w w':=by
 have bZ:=O (fun (u:V_) (r:LP_) w' (hB:Bw_ w w') hu h1 h2=>sZ t1 c1 t2 c2 t3 c3 u j r w' (h.below hB) hu h1 h2);have bG:=O (fun (u:V_) (l:LL_) w' hu h1 h2 h3=>xx u l w' hu h1 h2 h3);obtain⟨av,cv,rfl,_,_,hc⟩:=id hr;have HC:=O hc;have HM:=O hm;have aj:=O (fun hz=>eS j ac [] hz i_);obtain⟨R,hR⟩:=H (aC j [] ac);unfold s8;rw[←hR]at aj⊢;obtain⟨ta,tc,ca,cc,aV,bd,be,bf,bg,bh,bi,bk,rfl,rfl,rfl,rfl,rfl,rfl⟩:=jo_ h.a.t h.a.c h.b.t h.b.c h.c.t h.c.c;unfold bM at bZ⊢;obtain⟨J,hJ⟩:=H w.heap.size;obtain⟨W0,a1⟩:=H (w.alloc (.cells #[.slice ta j.mt.length tc,.slice ca j.mc.length cc,.slice aV j.jt.length bd,.slice be j.jc.length bf,.slice bg j.tt.length bh,.slice bi j.tc.length bk,F j.parts,F j.fuel] 27));have aa:=ba_ a1;have bn:W0.heap.size=J+1:=by rw[a1,hJ];simp
 have B:=bn_ hJ a1;obtain⟨W1,aA⟩:=H (W0.alloc (.cells #[e_,F 0] 68));have a8:=ba_ aA;have bp:W1.heap.size=J+1+1:=by rw[aA];simp[bn]
 have bN:=B.below a8;have i:Blk W1 (J+1) 68 [e_,F 0]:=by rw[←bn,aA];exact Blk.new W0 _ _
 obtain⟨a_,HX,HY,b0,HJ⟩:=zH5 (bt aa a8) bN i bp hJ;have cb:=O (show aC j [] (ac.drop 0)=R by rw[JF];exact hR.symm);go_enter func29,ntmps29;go_upto_region 1 with fail;rw[←a1,←aA,←hJ];clear a1 aA hJ aa a8 bn bp B bN i h hc hr hR hm;go_wp2_with fail
 go_loopw [6,13] (fun u t wr=>∃ (k:Nat) (ag:LL_),k≤ac.length∧t=F k∧Hid (ag.length=k)∧Hid (aP.Own wr (J+1+1) u ag)∧Hid (aC j ag (ac.drop k)=R)∧Hid (Bw_ W1 wr)) (fun _ t _=>ac.length-(intOf t).toNat)
 case atStart=>exact⟨0,[],Jl _,rfl,rfl,Rec.Own.nil _ _,cb.o,Ja _ _⟩
 case round =>
  obtain⟨k,ag,hk,rfl,a3,HO,cb,HB⟩:=hrel;obtain⟨ao,co,rfl⟩:=ay HO.o
  by_cases h0:k<ac.length
  ·obtain⟨b1,o1,u1,rfl,e1,ae⟩:=HC.o k h0
   have o:=HM.o _ (Jz h0);have bj:=cb.o;rw[JP h0]at bj;obtain⟨x,q⟩:=H (ac[k]'h0);rw[←q]at ae o bj;have aZ:=bt a_.o HB.o;replace e1:=IF aZ e1;have au:=ae.below aZ;obtain⟨ua,uc,rfl,-,-⟩:=au.open;have al:=O (bZ.o _ x wr aZ au o.1 o.2);have f:=HX.o.below HB.o;obtain⟨x0,x1,x2,x3,x4,x5,x6,x7⟩:=cl8 f;have i0:=nn_ k;have i1:(k:Int)<ac.length:=Y;have aw:=O h0;have aE:=O (show(ag.length+1)*16≤140737488355328 by have:=a3.o;omega);have ak:=O (fun hz=>jV (j:=j) (ag:=ag) (r:=x) (d:=ac.drop (k+1)) hz);have aR:=O (fun hz=>iS (j:=j) (ag:=ag) (r:=x) (d:=ac.drop (k+1)) hz);have bv:=O bj;obtain⟨L,hL⟩:=H (dT j x);rw[←hL]at al ak aR;obtain⟨z,P⟩:=L;dsimp only at al ak aR;clear hL q h0 o ae au bj aZ f
   by_cases hz:P=0
   ·subst hz
    have bR:=O ((ak.o rfl).symm.trans bv.o);clear ak aR bv;go_wp2_with (first|(at_builtin;go_must (refine aP.append1 w7 z rfl _ _ 22 rfl underlying22 (J+1+1) _ ag bI.o rfl _ rfl _ rfl _ rfl aE.o bl.o ?_);intro g ah w8 m aG;have aO:=O m;have aU:=O aG;clear m aG)|(go_at_call 12;refine al.o.mono ?_;rintro e w7⟨rfl,aH⟩;have bI:=O (HO.o.below aH);have bl:=O (show J+1+1≤w7.heap.size by rw[←b0.o];exact Jc HB.o.size aH.size);have aK:=O (bt HB.o aH);clear aH x0 x1 x2 x3 x4 x5 x6 x7));exact Mr
   ·have bR:=O ((aR.o hz).symm.trans bv.o)
    clear ak aR bv;go_wp2_with (go_at_call 12;refine al.o.mono ?_;rintro e w7⟨rfl,aH⟩;have aK:=O (bt HB.o aH);have hyy:=HY.o.below aK.o;obtain⟨y0,y1⟩:=cl2 hyy;obtain⟨k0,k1⟩:=fr2 hyy;have a:=O hyy;clear aH x0 x1 x2 x3 x4 x5 x6 x7 hyy);exact Mk
  ·have i1:¬(k:Int)<ac.length:=Y
   obtain rfl:k=ac.length:=Y;have bj:=cb.o;rw[List.drop_length]at bj;have y:R=(ag,0):=bj.symm;subst y;have E:=aj.o rfl;have az:=O (nZ E.2.1);have bW:=O (show ∀ s∈ag,s.length≤140737488355328 from fun s hs=>by have:=E.2.1 s hs;omega);have bo:=O (bG.o _ ag wr HO.o.row (fun b hb=>(HO.o.lt b hb).2) (by have:=a3.o;omega) bW.o);have br:=O (fun e w2 (hq:xj w2 wr.heap.size ag e)=>FF hq az.o (by have:=a3.o;omega));have HS:=O (show J+1+1≤wr.heap.size by rw[←b0.o];exact HB.o.size);rw[a3.o]at br;obtain⟨N,hN⟩:=H (aJ ag);rw[←hN]at br;have HN:=O hN;clear h0 bj E hN;go_wp2_with (go_at_call 50;refine bo.o.mono ?_;rintro e w7⟨hq,aH⟩;obtain⟨a2,c2,rfl,af⟩:=br.o _ _ hq;have bS:=O af;have aK:=O (bt HB.o aH);have hyy:=HY.o.below aK.o;obtain⟨y0,y1⟩:=cl2 hyy;obtain⟨k0,k1⟩:=fr2 hyy;have a:=O hyy;clear aH hyy hq af);exact Mb
section
open Go.RowKit Oct Go.WideMaps Go.Maps
theorem sX {X:Nat→Prop}{a b c:Z}(h:Chg X a b)(k:B_ a.heap.size b c):Chg X a c :=
 ⟨k.os.trans h.os,k.tape.trans h.tape,k.output.trans h.output,Jc h.size k.size,fun i hi hn=>(k.block i hi).trans (h.block i hi hn)⟩
theorem CM.tight {K:Nat→Prop}{w:Z}{M n:Nat}{I:LE_}(h:CM K w M n I):CM K w M I.length I:=by
 obtain⟨D,h1,h2⟩:=id h;have hs:=(h.keys h1).2;refine⟨D,?_,h2⟩;rw[←hs];obtain⟨xs,cl,a,b,c,d⟩:=h1;refine⟨xs,cl,a,b,?_,d⟩;rw[d];simp[Maps.size,length_sorted]
theorem r9 {w:Z}{bZ:Nat}{v:V_}{l:LP_}(h:recKv.Own w bZ v l):OP w bZ v l:=by
 unfold OP;rw[←mI];exact h
theorem Aw.frame {K:Nat→Prop}{w w':Z}{v:V_}{r:LP_}(h:Aw K w v r)(hX:∀ b,b<w.heap.size→K b→w'.heap[b]?=w.heap[b]?):Aw K w' v r:=by
 refine⟨?_,h.2⟩
 by_cases hr:r=[]
 ·subst hr
  exact⟨IT h.1.1,h.1.2⟩
 ·exact h.1.frame fun b hb=>hX b (h.1.lt hr hb) (h.2 hr b hb)
theorem CM.frame {K:Nat→Prop}{w w':Z}{M n:Nat}{I:LE_}(h:CM K w M n I)(hM:w'.heap[M]?=w.heap[M]?)(hX:∀ b,b<w.heap.size→K b→w'.heap[b]?=w.heap[b]?):CM K w' M n I:=by
 obtain⟨D,⟨I,cl,h1,hd⟩,h2,h3,h4⟩:=h;refine⟨D,⟨I,cl,hM.trans h1,hd⟩,h2,h3,fun k r hr=>?_⟩;obtain⟨v,h5,h6⟩:=h4 k r hr;exact⟨v,h5,h6.frame hX⟩
def KG (K:Nat→Prop)(w:Z)(bZ:Nat)(u:V_)(ab:LQ_):Prop:=∃ B:LV_,w.ownsRow bZ 29 1 u ab.length B∧B.length=ab.length∧∀ i (h:i<B.length) (h':i<ab.length),Aw (fun b=>K b∧u.ownBlock≠some b) w B[i] ab[i]
theorem KG.nil (K:Nat→Prop)(w:Z)(bZ:Nat):KG K w bZ (e_) []:=⟨[],World.ownsRow_nil _ _ _ _,rfl,fun i h _=>absurd h i_⟩
theorem tV {X:Nat→Prop}{w w':Z}{bZ:Nat}{e:T_}{size:Nat}{v:V_}{n:Nat}{xs:LV_}(h:w.ownsRow bZ e size v n xs)(hc:Chg X w w')(hX:∀ b,bZ≤b→X b→∃ I cl,w.heap[b]?=some (.map I cl)):w'.ownsRow bZ e size v n xs:=by
 obtain⟨h1,h2⟩:=h;refine⟨h1,?_⟩;rcases h2 with h2|⟨g,ah,aH,rfl,hg,hh,r⟩
 ·exact .inl h2
 ·refine .inr ⟨g,ah,aH,rfl,hg,hc.at hh (fun hx=>?_),r⟩
  obtain⟨I,cl,e⟩:=hX g hg hx;rw[e]at hh
  cases hh
theorem KG.chg {K X:Nat→Prop}{w w':Z}{bZ:Nat}{u:V_}{ab:LQ_}(h:KG K w bZ u ab)(hc:Chg X w w')(hX:∀ b,bZ≤b→X b→∃ I cl,w.heap[b]?=some (.map I cl))(hK:∀ b,K b→X b→∃ I cl,w.heap[b]?=some (.map I cl)):KG K w' bZ u ab:=by
 obtain⟨B,h1,h2,h3⟩:=h;exact⟨B,tV h1 hc hX,h2,fun i hi d=>(h3 i hi d).chg hc fun b hb hx=>hK b hb.1 hx⟩
theorem KG.rr {K:Nat→Prop}{w:Z}{bZ:Nat}{v:V_}{ab:LQ_}(h:KG K w bZ v ab):RR w v ab:=by
 obtain⟨B,h1,hl,h2⟩:=h;exact Ma
theorem KG.slice {K:Nat→Prop}{w:Z}{bZ:Nat}{v:V_}{ab:LQ_}(h:KG K w bZ v ab):∃ a c,v=.slice a ab.length c:=by
 obtain⟨B,h1,_⟩:=h;exact ay h1
theorem KG.snoc {K:Nat→Prop}{w w':Z}{bZ gb ah:Nat}{v u:V_}{ab:LQ_}{g:LP_}{B:LV_}(hl:B.length=ab.length)(h2:∀ i (h:i<B.length) (h':i<ab.length),Aw (fun b=>K b∧v.ownBlock≠some b) w B[i] ab[i])(hu:Aw (fun b=>K b∧v.ownBlock≠some b) w u g)(aw:w'.ownsRow bZ 29 1 (.slice (some ⟨gb,0,none⟩) (ab.length+1) ah) (ab.length+1) (B++[u]))(E:∀ j,j<w.heap.size→v.ownBlock≠some j→w'.heap[j]?=w.heap[j]?)(hg:v.ownBlock=some gb∨w.heap.size≤gb):KG K w' bZ (.slice (some ⟨gb,0,none⟩) (ab.length+1) ah) (ab++[g]):=by
 have z:∀ (x:V_) (r:LP_),Aw (fun b=>K b∧v.ownBlock≠some b) w x r→Aw (fun b=>K b∧(Value.slice (some ⟨gb,0,none⟩) (ab.length+1) ah).ownBlock≠some b) w' x r:=by
  intro x r hx;refine⟨?_,fun hr b hb=>⟨(hx.2 hr b hb).1,fun e=>?_⟩⟩
  ·by_cases hr:r=[]
   ·subst hr
    exact⟨IT hx.1.1,hx.1.2⟩
   ·exact hx.1.frame fun b h=>E b (hx.1.lt hr h) (hx.2 hr b h).2
  ·have e2:gb=b:=by simpa[Value.ownBlock] using e
   subst e2;rcases hg with hg|hg
   ·exact(hx.2 hr gb hb).2 hg
   ·exact absurd (hx.1.lt hr hb) Y
 refine⟨B++[u],by rw[Jh];exact aw,by simp[hl],fun i h h'=>?_⟩
 by_cases hi:i<B.length
 ·rw[JD hi,JD Y]
  exact z _ _ (h2 i hi Y)
 ·have e:i=B.length:=by simp at h;omega
  subst e;rw[JL Y,JL Y];simp only[Nat.sub_self,hl,Jm];exact z _ _ hu
abbrev pt (b:Nat):V_:=.pointer (some ⟨b,0,none⟩)
abbrev zS (T R J C A Nn:Nat):V_:=.func (.func 43) #[] #[pt T,pt R,pt J,pt C,pt A,pt Nn]
structure NE (W:Z) (T R J C A Nn c M n0:Nat) (an ar:OA_) (cn cr:Nat) (t1 c1 t2 c2 t3 c3:V_) (j:Jb) (N:LD_) (rows:LQ_) (Uk V:LL_):Prop where
 bt:Blk W T 68 [.slice an N.length cn,.int .i64 n0]
 br:Blk W R 32 [.slice ar rows.length cr]
 bj:Blk W J 27 [t1,c1,t2,c2,t3,c3,.int .i64 j.parts,.int .i64 j.fuel]
 bc:Blk W C 34 [cP c]
 bn:Blk W Nn 91 [zS T R J C A Nn]
 cc:CC W c M
 ne:T≠A∧R≠A∧J≠A∧C≠A∧Nn≠A∧c≠A
 al:A<W.heap.size
 map:∃ es cl,W.heap[M]?=some (.map es cl)
 nr:∃ B,A<B∧NRf W B (.slice an N.length cn) N
 rr:∀ k (hk:k<rows.length),∃ b off u,ar=some ⟨b,off,none⟩∧b≠A∧W.cell? ⟨b,off+k,none⟩=some u∧Aw (fun b=>b≠A) W u rows[k]
 job:∀ U,Chg (fun k=>k=M∨k=A) W U→dD U t1 c1 t2 c2 t3 c3 j∧dp U
 may:bK j=true
 tree:rp N n0
 rown:rows.length=n0
 small:N.length≤1000
 ru:∀ r∈rows,dC Uk r
 vu:∀ n,cN j (N.getD n ([],[])).1∈V
 ul:Uk.length≤2000
 vl:V.length≤10000
variable {W U:Z}{T R J C A Nn c M n0:Nat}{an ar:OA_}{cn cr:Nat}{t1 c1 t2 c2 t3 c3:V_}{j:Jb}{N:LD_}{ac:LQ_}{K:Nat→Prop}{Uk V:LL_}
theorem NE.notM (h:NE W T R J C A Nn c M n0 an ar cn cr t1 c1 t2 c2 t3 c3 j N ac Uk V){b:Nat}{t:T_}{cs:LV_}(hb:Blk W b t cs)(ha:b≠A):¬(b=M∨b=A):=by
 rintro (e|e)
 ·obtain⟨I,cl,hm⟩:=h.map
  rw[e]at hb;unfold Blk at hb;rw[hm]at hb
  cases hb
 ·exact ha e
theorem Mt {T:Prop} (h:T:=by
 obtain⟨⟨v,c9,f,q,ci⟩,ap⟩:=k2;refine⟨⟨v,c9,f,q,fun i u hi=>?_⟩,ap⟩;obtain⟨b9,x,l,s⟩:=ci i u hi;refine⟨b9,x,l,t (k3 b9 ?_) s⟩;rw[f,l]
 rfl
):T:=h
theorem NE.node (h:NE W T R J C A Nn c M n0 an ar cn cr t1 c1 t2 c2 t3 c3 j N ac Uk V){n:Nat}(hn:n<N.length):∃ b aL ak ck,an=some ⟨b,aL,none⟩∧∀ U,Chg (fun k=>k=M∨k=A) W U→U.cell? ⟨b,aL+n*2,none⟩=some (s_ N[n].1)∧U.cell? ⟨b,aL+n*2+1,none⟩=some (.slice ak N[n].2.length ck)∧eY.Row U (.slice ak N[n].2.length ck) N[n].2:=by
 obtain⟨B,hB,aF,h1,h2,h4,h3⟩:=h.nr
 have hm:∀ b,B≤b→(b=M∨b=A)→∃ I cl,W.heap[b]?=some (.map I cl):=by
  rintro b hb (e|e)
  ·rw[e];exact h.map
  ·omega
 obtain⟨a,cp,hv,_,bx⟩:=h1.open;injection hv with e1 _ _
 subst e1;obtain⟨b,aL,ha,hu⟩:=bx n Y;obtain⟨k1,k2,k3⟩:=h3 n Y hn;have u0:=hu 0 _ rfl;have u1:=hu 1 _ rfl;rw[k1]at u0;have d:B≤b:=h4 b (by rw[ha];rfl);obtain⟨a5,c5,g,o⟩:=k2.2;injection g with e5 e6 e7
 rw[e6]at u1;refine⟨b,aL,(aF[n]' Y).2.1,(aF[n]' Y).2.2.2,ha,fun U hc=>?_⟩
 have t:∀ {b aL:Nat} {u:V_},B≤b→W.cell? ⟨b,aL,none⟩=some u→U.cell? ⟨b,aL,none⟩=some u:=by
  intro b aL u hb hu;refine hc.cell hu (fun hx=>?_);obtain⟨I,cl,e⟩:=hm b hb hx;simp[World.cell?,e]at hu
 have m:eY.Row U (.slice aF[n].2.1 aF[n].2.2.1 aF[n].2.2.2) N[n].2:=by
  exact Mt
 rw[e6]at m;exact⟨t d u0,t d u1,m⟩
theorem NE.row (h:NE W T R J C A Nn c M n0 an ar cn cr t1 c1 t2 c2 t3 c3 j N ac Uk V)(hc:Chg (fun k=>k=M∨k=A) W U){n:Nat}(hn:n<ac.length):∃ b aL u,ar=some ⟨b,aL,none⟩∧U.cell? ⟨b,aL+n,none⟩=some u∧Aw (fun b=>b≠A∧(b<W.heap.size∨U.heap.size≤b)) U u ac[n]:=by
 obtain⟨b,aL,u,ha,aI,hu,hw⟩:=h.rr n hn;refine⟨b,aL,u,ha,hc.cell hu (fun hx=>?_),?_⟩
 ·rcases hx with hx|hx
  ·obtain⟨I,cl,e⟩:=h.map
   rw[show b=M from hx]at hu;simp[World.cell?,e]at hu
  ·exact aI hx
 ·have h2:Aw (fun b=>b≠A∧b<W.heap.size) W u ac[n]:=⟨hw.1,fun hr b hb=>⟨hw.2 hr b hb,hw.1.lt hr hb⟩⟩
  have h3:=h2.chg hc (fun b hb hx=>by
   rcases hx with e|e
   ·rw[e];exact h.map
   ·exact absurd e hb.1)
  exact⟨h3.1,fun hr b hb=>⟨(h3.2 hr b hb).1,.inl (h3.2 hr b hb).2⟩⟩
theorem NE.blks (h:NE W T R J C A Nn c M n0 an ar cn cr t1 c1 t2 c2 t3 c3 j N ac Uk V)(hc:Chg (fun k=>k=M∨k=A) W U):Blk U T 68 [.slice an N.length cn,F n0]∧Blk U R 32 [.slice ar ac.length cr]∧Blk U J 27 [t1,c1,t2,c2,t3,c3,F j.parts,F j.fuel]∧Blk U C 34 [cP c]∧Blk U Nn 91 [zS T R J C A Nn]∧CC U c M:=by
 obtain⟨n1,n2,n3,n4,H,f⟩:=h.ne;exact⟨h.bt.chg hc (h.notM h.bt n1),h.br.chg hc (h.notM h.br n2),h.bj.chg hc (h.notM h.bj n3),h.bc.chg hc (h.notM h.bc n4),h.bn.chg hc (h.notM h.bn H),h.cc.chg hc (h.notM h.cc f)⟩
abbrev BA (U:Z)(A:Nat)(s:CSt):Prop:=Blk U A 55 [.int .i64 s.found,.int .i64 s.made,.int .i64 s.pairs]
abbrev CN (K:Nat→Prop)(A:Nat)(U:Z)(M:Nat)(I:LE_):Prop:=CM (fun b=>K b∧b≠A) U M I.length I
def rq (W U:Z)(A M:Nat)(K:Nat→Prop)(X:(LP_×q×Nat)×CSt)(e:Ending)(U':Z):Prop :=
 ∃ a cp,e=.returned (.tuple #[.slice a X.1.1.length cp,.string (bs X.1.2.1),.int .i64 X.1.2.2])∧Aw (fun b=>b≠A∧(b<W.heap.size∨U.heap.size≤b)) U' (.slice a X.1.1.length cp) X.1.1∧BA U' A X.2∧CN K A U' M X.2.es∧Chg (fun k=>k=M∨k=A) U U'
end
theorem sh (t1 c1 t2 c2 t3 c3 u:V_)(j:Jb)(r:LP_)(w:Z)(h:dD w t1 c1 t2 c2 t3 c3 j)(hu:RP w u r)(hs:(texts (tx r)).length≤500000000)(hl:r.length≤1000000):R_ 13 #[bM t1 c1 t2 c2 t3 c3 j,u] w (.tuple #[s_ (dT j r).1,F (dT j r).2]):=by
 have g:=O (fun w' (hB:Bw_ w w')=>jM t1 c1 t2 c2 t3 c3 j w' (h.below hB));have HP:=O (fun w' (hB:Bw_ w w')=>Bl u r w' (hu.below hB) Y Y);have az:=O (fun w' (hB:Bw_ w w') hm=>nM t1 c1 t2 c2 t3 c3 j w' (h.below hB) hm);obtain⟨ua,uc,rfl,-,-⟩:=hu.open;obtain⟨ta,tc,ca,cc,aV,bd,be,bf,bg,bh,bi,bk,rfl,rfl,rfl,rfl,rfl,rfl⟩:=jo_ h.a.t h.a.c h.b.t h.b.c h.c.t h.c.c;unfold bM at g az⊢;obtain⟨W1,aA⟩:=H (w.alloc (.cells #[.slice ta j.mt.length tc,.slice ca j.mc.length cc,.slice aV j.jt.length bd,.slice be j.jc.length bf,.slice bg j.tt.length bh,.slice bi j.tc.length bk,F j.parts,F j.fuel] 27));have a8:=ba_ aA;obtain⟨J,hJ⟩:=H w.heap.size;have hx:=bn_ hJ aA;obtain⟨x0,x1,x2,x3,x4,x5,x6,x7⟩:=cl8 hx;have a_:=O a8;have HX:=O hx
 cases hm:bK j with
 | false =>
  have HL:=O (lu (r:=r) hm);rw[hm]at g;rw[HL.o];go_enter func13,ntmps13;go_upto_region 1 with fail;rw[←aA,←hJ];clear aA hJ a8 hx h hm hu hs hl HP az;go_wp2_with (go_at_call 15;refine(g.o _ a_.o).mono ?_;rintro e w2⟨rfl,ax⟩;have a9:=O (bt a_.o ax);clear ax x0 x1 x2 x3 x4 x5 x6 x7);go_ret2;exact⟨rfl,a9.o⟩
 | true =>
  have Q:=O (qB (id:=cU (cR j)) (b:=(fb r).1) (dw _) rfl hs);obtain⟨aH,a,ae,HI⟩:=zH4 (fun h1=>nS (r:=r) hm h1) (fun h1 h2=>mg (r:=r) hm h1 h2) (fun h1 h2=>qC (r:=r) hm h1 h2) (fun w' hB=>az.o w' hB hm);rw[hm]at g;obtain⟨ID,x⟩:=H (cU (cR j));rw[←x]at HI Q a ae;obtain⟨L,d⟩:=H (dT j r);rw[←d]at aH a ae⊢;obtain⟨P,hP⟩:=H (fb r);rw[←hP]at HP Q aH a ae;unfold txV at HP;obtain⟨i,l⟩:=P;dsimp only at HP Q aH a ae;go_enter func13,ntmps13;go_upto_region 1 with fail;rw[←aA,←hJ];clear aA hJ a8 hx h hm hu hs hl hP d x az
  by_cases hz:l=0
  ·subst hz
   have a6:=O (fun w'=>ky (.slice (some ⟨w'.heap.size,0,none⟩) 3 3) [[108,101,97,102],ID,i] (w'.alloc (.cells #[.string ⟨#[108,101,97,102]⟩,s_ ID,s_ i] 9)) (aO.new w' [.string ⟨#[108,101,97,102]⟩,s_ ID,s_ i] 3 9 3) Q.o i_);have a:=O (a.o rfl);have ae:=O (ae.o rfl);obtain⟨S,hS⟩:=H (row [[108,101,97,102],ID,i]);rw[←hS]at a6 a ae
   have bj:S.1.length≤1000000002:=by
    exact Mx
   have E:=O (fun w'=>qb S.1 w' Y);obtain⟨m,Sz⟩:=S;unfold txV at a6;dsimp only at a6 a ae E;clear hS bj Q aH
   by_cases hy:Sz=0
   ·subst hy
    have aa:=ae.o rfl;subst aa;clear a ae;go_wp2_with (first|(go_at_call 41;refine mB_ (E.o w5) aJ fun w6 bn=>?_)|(go_at_call 39;refine(a6.o w4).mono ?_;rintro e w5⟨rfl,aN⟩;have aJ:=O (bt (bt ba.o (af _ _)) aN);clear aN)|(go_at_call 40;refine(HI.o w3 aW.o).mono ?_;rintro e w4⟨rfl,aQ⟩;have ba:=O (bt aW.o aQ);clear aQ x0 x1 x2 x3 x4 x5 x6 x7)|(go_at_call 38;refine(HP.o w2 a9.o).mono ?_;rintro e w3⟨rfl,al⟩;have f:=aR.o.below al;obtain⟨x0,x1,x2,x3,x4,x5,x6,x7⟩:=cl8 f;have aW:=O (bt a9.o al);clear al f)|(go_at_call 15;refine(g.o _ a_.o).mono ?_;rintro e w2⟨rfl,ax⟩;have aR:=O (HX.o.below ax);have a9:=O (bt a_.o ax);clear ax x0 x1 x2 x3 x4 x5 x6 x7));go_ret2;exact⟨rfl,bn.o⟩
   ·have k:=a.o hy
    subst k;clear a ae;go_wp2_with (first|(go_at_call 39;refine(a6.o w4).mono ?_;rintro e w5⟨rfl,aN⟩;have aJ:=O (bt (bt ba.o (af _ _)) aN);clear aN)|(go_at_call 40;refine(HI.o w3 aW.o).mono ?_;rintro e w4⟨rfl,aQ⟩;have ba:=O (bt aW.o aQ);clear aQ x0 x1 x2 x3 x4 x5 x6 x7)|(go_at_call 38;refine(HP.o w2 a9.o).mono ?_;rintro e w3⟨rfl,al⟩;have f:=aR.o.below al;obtain⟨x0,x1,x2,x3,x4,x5,x6,x7⟩:=cl8 f;have aW:=O (bt a9.o al);clear al f)|(go_at_call 15;refine(g.o _ a_.o).mono ?_;rintro e w2⟨rfl,ax⟩;have aR:=O (HX.o.below ax);have a9:=O (bt a_.o ax);clear ax x0 x1 x2 x3 x4 x5 x6 x7));go_ret2;exact⟨rfl,aJ.o⟩
  ·have cw:=aH.o hz
   subst cw;clear a ae aH Q;go_wp2_with (first|(go_at_call 38;refine mB_ (HP.o w2 a9.o) a9 fun w3 aW=>?_)|(go_at_call 15;refine(g.o _ a_.o).mono ?_;rintro e w2⟨rfl,ax⟩;have a9:=O (bt a_.o ax);clear ax x0 x1 x2 x3 x4 x5 x6 x7));go_ret2;exact⟨rfl,aW.o⟩
theorem Dz (t1 c1 t2 c2 t3 c3:V_)(j:Jb)(id:q)(w:Z)(h:dD w t1 c1 t2 c2 t3 c3 j)(hm:bK j=true)(hi:id.length≤64):R_ 16 #[bM t1 c1 t2 c2 t3 c3 j,s_ id] w (s_ (cN j id)):=by
 have HI:=O (fun w' (hB:Bw_ w w')=>nM t1 c1 t2 c2 t3 c3 j w' (h.below hB) hm);obtain⟨ta,tc,ca,cc,aV,bd,be,bf,bg,bh,bi,bk,rfl,rfl,rfl,rfl,rfl,rfl⟩:=jo_ h.a.t h.a.c h.b.t h.b.c h.c.t h.c.c;unfold bM at HI⊢;obtain⟨W1,aA⟩:=H (w.alloc (.cells #[.slice ta j.mt.length tc,.slice ca j.mc.length cc,.slice aV j.jt.length bd,.slice be j.jc.length bf,.slice bg j.tt.length bh,.slice bi j.tc.length bk,F j.parts,F j.fuel] 27));have a8:=ba_ aA;obtain⟨J,hJ⟩:=H w.heap.size;have hx:=bn_ hJ aA;obtain⟨x0,x1,x2,x3,x4,x5,x6,x7⟩:=cl8 hx;have a_:=O a8;have HX:=O hx;have bb:=(gW j id hi).1;have Q:=O (show(texts [[110,111,100,101],cU (cR j),id]).length≤1000000000 by simp[texts,dw];omega);unfold cN;obtain⟨ID,x⟩:=H (cU (cR j));rw[←x]at HI Q bb⊢;have a6:=O (fun w'=>ky (.slice (some ⟨w'.heap.size,0,none⟩) 3 3) [[110,111,100,101],ID,id] (w'.alloc (.cells #[.string ⟨#[110,111,100,101]⟩,s_ ID,s_ id] 9)) (aO.new w' [.string ⟨#[110,111,100,101]⟩,s_ ID,s_ id] 3 9 3) Q.o i_);obtain⟨S,hS⟩:=H (row [[110,111,100,101],ID,id]);rw[←hS]at a6 bb⊢;obtain⟨m,Sz⟩:=S;unfold txV at a6;dsimp only at a6 bb⊢;go_enter func16,ntmps16;go_upto_region 1 with fail;rw[←aA,←hJ];clear aA hJ a8 hx h hm hS x Q bb;go_wp2_with (first|(go_at_call 39;refine(a6.o w2).mono ?_;rintro e w3⟨rfl,al⟩;have aW:=O (bt (bt a9.o (af _ _)) al);clear al)|(go_at_call 40;refine(HI.o _ a_.o).mono ?_;rintro e w2⟨rfl,ax⟩;have a9:=O (bt a_.o ax);clear ax x0 x1 x2 x3 x4 x5 x6 x7))
 go_ret;exact⟨rfl,aW.o⟩
theorem Bi (t1 c1 t2 c2 t3 c3 v:V_)(j:Jb)(ac:LQ_)(w:Z)(h:dD w t1 c1 t2 c2 t3 c3 j)(hr:RR w v ac)(hl:ac.length≤4096)(hm:∀ r∈ac,(texts (tx r)).length≤500000000∧r.length≤1000000):C_ 45 #[bM t1 c1 t2 c2 t3 c3 j,v] w fun e w'=>s8 w' w.heap.size j ac e∧Bw_ w w':=by
 have bZ:=O (fun (u:V_) (r:LP_) w' (hB:Bw_ w w') hu h1 h2=>sh t1 c1 t2 c2 t3 c3 u j r w' (h.below hB) hu h1 h2);obtain⟨av,cv,rfl,_,_,hc⟩:=id hr;have HC:=O hc;have HM:=O hm;have aj:=O (fun hz=>eS j ac [] hz i_);obtain⟨R,hR⟩:=H (aC j [] ac);unfold s8;rw[←hR]at aj⊢;obtain⟨ta,tc,ca,cc,aV,bd,be,bf,bg,bh,bi,bk,rfl,rfl,rfl,rfl,rfl,rfl⟩:=jo_ h.a.t h.a.c h.b.t h.b.c h.c.t h.c.c;unfold bM at bZ⊢;obtain⟨J,hJ⟩:=H w.heap.size;obtain⟨W0,a1⟩:=H (w.alloc (.cells #[.slice ta j.mt.length tc,.slice ca j.mc.length cc,.slice aV j.jt.length bd,.slice be j.jc.length bf,.slice bg j.tt.length bh,.slice bi j.tc.length bk,F j.parts,F j.fuel] 27));have aa:=ba_ a1;have bn:W0.heap.size=J+1:=by rw[a1,hJ];simp
 have B:=bn_ hJ a1;obtain⟨W1,aA⟩:=H (W0.alloc (.cells #[e_,F 0] 68));have a8:=ba_ aA;have bp:W1.heap.size=J+1+1:=by rw[aA];simp[bn]
 have bN:=B.below a8;have i:Blk W1 (J+1) 68 [e_,F 0]:=by rw[←bn,aA];exact Blk.new W0 _ _
 obtain⟨a_,HX,HY,b0,HJ⟩:=zH5 (bt aa a8) bN i bp hJ;have cb:=O (show aC j [] (ac.drop 0)=R by rw[JF];exact hR.symm);go_enter func45,ntmps45;go_upto_region 1 with fail;rw[←a1,←aA,←hJ];clear a1 aA hJ aa a8 bn bp B bN i h hc hr hR hm;go_wp2_with fail
 go_loopw [6,7] (fun u t wr=>∃ (k:Nat) (ag:LL_),k≤ac.length∧t=F k∧Hid (ag.length=k)∧Hid (aP.Own wr (J+1+1) u ag)∧Hid (aC j ag (ac.drop k)=R)∧Hid (Bw_ W1 wr)) (fun _ t _=>ac.length-(intOf t).toNat)
 case atStart=>exact⟨0,[],Jl _,rfl,rfl,Rec.Own.nil _ _,cb.o,Ja _ _⟩
 case round =>
  obtain⟨k,ag,hk,rfl,a3,HO,cb,HB⟩:=hrel;obtain⟨ao,co,rfl⟩:=ay HO.o
  by_cases h0:k<ac.length
  ·obtain⟨b1,o1,u1,rfl,e1,ae⟩:=HC.o k h0
   have o:=HM.o _ (Jz h0);have bj:=cb.o;rw[JP h0]at bj;obtain⟨x,q⟩:=H (ac[k]'h0);rw[←q]at ae o bj;have aZ:=bt a_.o HB.o;replace e1:=IF aZ e1;have au:=ae.below aZ;obtain⟨ua,uc,rfl,-,-⟩:=au.open;have al:=O (bZ.o _ x wr.drew (bt aZ (b_drew wr)) (au.below (b_drew wr)) o.1 o.2);have f:=HX.o.below HB.o;obtain⟨x0,x1,x2,x3,x4,x5,x6,x7⟩:=cl8 f;have i0:=nn_ k;have i1:(k:Int)<ac.length:=Y;have aw:=O h0;have aE:=O (show(ag.length+1)*16≤140737488355328 by have:=a3.o;omega);have ak:=O (fun hz=>jV (j:=j) (ag:=ag) (r:=x) (d:=ac.drop (k+1)) hz);have aR:=O (fun hz=>iS (j:=j) (ag:=ag) (r:=x) (d:=ac.drop (k+1)) hz);have bv:=O bj;obtain⟨L,hL⟩:=H (dT j x);rw[←hL]at al ak aR;obtain⟨z,P⟩:=L;dsimp only at al ak aR;clear hL q h0 o ae au bj aZ f
   by_cases hz:P=0
   ·subst hz
    have bR:=O ((ak.o rfl).symm.trans bv.o);clear ak aR bv;go_upto_region 5 with fail;go_region_law (refine aN rfl 13 #[.agg #[.slice ta j.mt.length tc,.slice ca j.mc.length cc,.slice aV j.jt.length bd,.slice be j.jc.length bf,.slice bg j.tt.length bh,.slice bi j.tc.length bk,F j.parts,F j.fuel],.slice ua x.length uc] yzc al.o ?_;rintro e w7⟨rfl,aH⟩;have aH:=bt (b_drew wr) aH;have bI:=O (HO.o.below aH);have bl:=O (show J+1+1≤w7.heap.size by rw[←b0.o];exact Jc HB.o.size aH.size);have aK:=O (bt HB.o aH);clear aH x0 x1 x2 x3 x4 x5 x6 x7)
    all_goals
     go_wp2_with (at_builtin;go_must (refine aP.append1 w7 z rfl _ _ 22 rfl underlying22 (J+1+1) _ ag bI.o rfl _ rfl _ rfl _ rfl aE.o bl.o ?_);intro g ah w8 m aG;have aO:=O m;have aU:=O aG;clear m aG);exact Mr
   ·have bR:=O ((aR.o hz).symm.trans bv.o)
    clear ak aR bv;go_upto_region 5 with fail;go_region_law (refine aN rfl 13 #[.agg #[.slice ta j.mt.length tc,.slice ca j.mc.length cc,.slice aV j.jt.length bd,.slice be j.jc.length bf,.slice bg j.tt.length bh,.slice bi j.tc.length bk,F j.parts,F j.fuel],.slice ua x.length uc] yzc al.o ?_;rintro e w7⟨rfl,aH⟩;have aH:=bt (b_drew wr) aH;have aK:=O (bt HB.o aH);have hyy:=HY.o.below aK.o;obtain⟨y0,y1⟩:=cl2 hyy;obtain⟨k0,k1⟩:=fr2 hyy;have a:=O hyy;clear aH x0 x1 x2 x3 x4 x5 x6 x7 hyy)
    all_goals
     go_wp2_with fail;exact Mk
  ·have i1:¬(k:Int)<ac.length:=Y
   obtain rfl:k=ac.length:=Y;have bj:=cb.o;rw[List.drop_length]at bj;have y:R=(ag,0):=bj.symm;subst y;have E:=aj.o rfl;have az:=O (nZ E.2.1);have bW:=O (show ∀ s∈ag,s.length≤140737488355328 from fun s hs=>by have:=E.2.1 s hs;omega);have D:=tT _ ag wr HO.o.row (by have:=a3.o;omega) az.o;have bo:=O (D.mono (R':=fun e w'=>(∃ u,e=.returned (.agg #[u,F ac.length])∧NRf w' wr.heap.size u (aJ ag))∧Bw_ wr w') (by rintro e w'⟨⟨u,h1,h2⟩,h3⟩;rw[a3.o]at h1;exact⟨⟨u,h1,h2⟩,h3⟩));clear D;have HS:=O (show J+1+1≤wr.heap.size by rw[←b0.o];exact HB.o.size);obtain⟨N,hN⟩:=H (aJ ag);rw[←hN]at bo;have Q:¬4096<(ag.length:Int):=by have:=a3.o;omega
   have S:(ag.length:Int)≤4096:=by have:=a3.o;omega
   have HN:=O hN;clear h0 bj E hN;go_wp2_with (go_at_call 75;refine bo.o.mono ?_;rintro e w7⟨⟨u7,rfl,af⟩,aH⟩;obtain⟨a2,c2,rfl,-,-⟩:=py af.nr;have bS:=O af;have aK:=O (bt HB.o aH);have hyy:=HY.o.below aK.o;obtain⟨y0,y1⟩:=cl2 hyy;obtain⟨k0,k1⟩:=fr2 hyy;have a:=O hyy;clear aH hyy af);exact Mb
section
open Go.RowKit Oct Go.WideMaps Go.Maps
theorem EnR.frame {K:Nat→Prop}{r:Nat}{w w':Z}{aF:List xq}{I:LE_}(h:EnR K r w aF I)(hX:∀ b,b<w.heap.size→r<b→K b→w'.heap[b]?=w.heap[b]?):EnR K r w' aF I :=
 ⟨h.1,fun i hi d=>⟨(h.2 i hi d).1,(h.2 i hi d).2.frame (fun b hb hk=>hX b hb hk.1 hk.2)⟩⟩
theorem RC.frame {K:Nat→Prop}{r:Nat}{w w':Z}{I:LE_}(h:RC K w r I)(hr:w'.heap[r]?=w.heap[r]?)(hX:∀ b,b<w.heap.size→r<b→K b→w'.heap[b]?=w.heap[b]?):RC K w' r I:=by
 obtain⟨lv,aF,h1,h2,h4,h3⟩:=h;refine⟨lv,aF,hr.trans h1,?_,h4,h3.frame hX⟩;obtain⟨q1,q2⟩:=id h2;refine⟨q1,?_⟩;rcases q2 with q2|⟨g,ah,aH,hv,hg,hh,ap⟩
 ·exact .inl q2
 ·have hl:=h2.lt g (by rw[hv];rfl)
  exact .inr ⟨g,ah,aH,hv,hg,(hX g hl.2 Y (h4 g (by rw[hv];rfl))).trans hh,ap⟩
abbrev gC (r n0:Nat)(an ar:OA_)(cn cr:Nat)(t1 c1 t2 c2 t3 c3:V_)(j:Jb)(id:q)(f rl:Nat)(s:CSt)(dd:q)(e:Nat):LV_ :=
 [t1,c1,t2,c2,t3,c3,.int .i64 j.parts,.int .i64 j.fuel,.string (bs id),.pointer (some ⟨r,0,none⟩),.slice an f cn,.int .i64 n0,.slice ar rl cr,.int .i64 s.found,.int .i64 s.made,.int .i64 s.pairs,.string (bs dd),.int .i64 e]
structure QE (W:Z) (G r n0:Nat) (an ar:OA_) (cn cr:Nat) (t1 c1 t2 c2 t3 c3:V_) (j:Jb) (N:LD_) (rows:LQ_) (Uk V:LL_):Prop where
 nd:∀ n (hn:n<N.length),∃ b off ak ck,an=some ⟨b,off,none⟩∧∀ U,Chg (fun k=>k=r∨k=G) W U→U.cell? ⟨b,off+n*2,none⟩=some (.string (bs N[n].1))∧U.cell? ⟨b,off+n*2+1,none⟩=some (.slice ak N[n].2.length ck)∧eY.Row U (.slice ak N[n].2.length ck) N[n].2
 rr:∀ k (hk:k<rows.length),∃ b off u,ar=some ⟨b,off,none⟩∧∀ U,Chg (fun k=>k=r∨k=G) W U→U.cell? ⟨b,off+k,none⟩=some u∧Aw (fun b=>b≠r∧b≠G∧b<W.heap.size) U u rows[k]
 job:∀ U,Chg (fun k=>k=r∨k=G) W U→dD U t1 c1 t2 c2 t3 c3 j
 rg:r≠G
 gl:G<W.heap.size
 rl:r<W.heap.size
 may:bK j=true
 tree:rp N n0
 rown:rows.length=n0
 small:N.length≤1000
 ru:∀ r∈rows,dC Uk r
 vu:∀ n,cN j (N.getD n ([],[])).1∈V
 ul:Uk.length≤2000
 vl:V.length≤10000
abbrev RN (K:Nat→Prop)(G:Nat)(U:Z)(r:Nat)(I:LE_):Prop:=RC (fun b=>K b∧b≠G) U r I
variable {W U:Z}{G r n0:Nat}{an ar:OA_}{cn cr:Nat}{t1 c1 t2 c2 t3 c3:V_}{j:Jb}{N:LD_}{ac:LQ_}{K:Nat→Prop}{Uk V:LL_}
def pf (W U:Z)(G r n0:Nat)(an ar:OA_)(cn cr:Nat)(t1 c1 t2 c2 t3 c3:V_)(j:Jb)(f rl:Nat)(K:Nat→Prop)(X:(LP_×q×Nat)×CSt)(e:Ending)(U':Z):Prop :=
 ∃ a cp,e=.returned (.slice a X.1.1.length cp)∧Aw (fun b=>b≠r∧b≠G∧(b<W.heap.size∨K b)) U' (.slice a X.1.1.length cp) X.1.1∧Blk U' G 100 (gC r n0 an ar cn cr t1 c1 t2 c2 t3 c3 j (cU (cR j)) f rl X.2 X.1.2.1 X.1.2.2)∧RN K G U' r X.2.es∧Chg (fun k=>k=r∨k=G) U U'
theorem kV {α:Type}{l:List α}{n:Nat}(h:n<l.length)(d:α):l.getD n d=l[n]:=by
 rw[List.getD_eq_getElem?_getD,List.getElem?_eq_getElem h]
 rfl
theorem ya (hE:QE W G r n0 an ar cn cr t1 c1 t2 c2 t3 c3 j N ac Uk V)(hc:Chg (fun k=>k=r∨k=G) W U)(s:CSt)(n f:Nat)(hn:n<n0)(hG:Blk U G 100 (gC r n0 an ar cn cr t1 c1 t2 c2 t3 c3 j (cU (cR j)) N.length ac.length s [] 0))(hM:RN K G U r s.es):C_ 46 #[p_ G,F n] U fun e U'=>pf W U G r n0 an ar cn cr t1 c1 t2 c2 t3 c3 j N.length ac.length K (cC j N n0 ac (f+1) n s) e U':=by
 have hr:n<ac.length:=by rw[hE.rown];exact hn
 rw[jQ hn,kV hr];obtain⟨b,aL,u,rfl,hu⟩:=hE.rr n hr;obtain⟨ae,hw⟩:=hu U hc;obtain⟨ua,uc,rfl,-,-⟩:=hw.1.open;have cl:=hG.c 11;have a:=hG.c 12;have HW:=O (show Aw (fun b=>b≠r∧b≠G∧(b<W.heap.size∨K b)) U (.slice ua ac[n].length uc) ac[n] from⟨hw.1,fun aI b hb=>⟨(hw.2 aI b hb).1,(hw.2 aI b hb).2.1,.inl (hw.2 aI b hb).2.2⟩⟩);have HG:=O hG;have HM:=O hM;have i0:(n:Int)<n0:=Y;have i1:=nn_ n;have i2:(n:Int)<ac.length:=Y;obtain⟨x,hx⟩:=H (ac[n]'hr);rw[←hx]at ae HW⊢;clear hx hw hG hM hn hr hE hu;go_enter func46,ntmps46;go_wp2_with fail;go_ret;exact⟨_,_,rfl,HW.o,HG.o,HM.o,Chg.refl _ _⟩
theorem vj (hE:QE W G r n0 an ar cn cr t1 c1 t2 c2 t3 c3 j N ac Uk V)(hc:Chg (fun k=>k=r∨k=G) W U)(s:CSt)(n f:Nat)(hn:¬n<n0)(aQ:n<N.length)(hG:Blk U G 100 (gC r n0 an ar cn cr t1 c1 t2 c2 t3 c3 j (cU (cR j)) N.length ac.length s [] 0))(hM:RN K G U r s.es)(hs:StU Uk V s){ap:LP_}(hg:aM s.es (cN j (N.getD n ([],[])).1)=some ap):C_ 46 #[p_ G,F n] U fun e U'=>pf W U G r n0 an ar cn cr t1 c1 t2 c2 t3 c3 j N.length ac.length K (cC j N n0 ac (f+1) n s) e U':=by
 rw[iQ hn hg];rw[kV aQ]at hg;have hid:N[n].1.length=32:=hE.tree.ids _ (Jz aQ);have bb:=(gW j N[n].1 Y).1;have Q:=O (show(texts [[110,111,100,101],cU (cR j),N[n].1]).length≤1000000000 by simp[texts,dw];omega);have a:=O (fun w' (hB:Bw_ U w')=>lk r s.es (cN j N[n].1) w' (hM.below hB) (by have:=hs.len;have:=hE.vl;omega));rw[hg]at a;simp only[Option.isSome_some]at a;unfold cN at a;obtain⟨b,aL,ak,ck,rfl,aT⟩:=hE.nd n aQ;obtain⟨bc,-,-⟩:=aT U hc;have g8:=hG.c 8;have g9:=hG.c 9;have cE:=hG.c 10;have cl:=hG.c 11;have bq:=hG.lt;have bo:=aG bc;obtain⟨i,HG,HM,b3⟩:=zH4 hc.size hG hM hE.rg;have i0:¬(n:Int)<n0:=Y;have i1:=nn_ n;have i2:(n:Int)<N.length:=Y;obtain⟨ID,x⟩:=H (cU (cR j));obtain⟨id,q⟩:=H (N[n].1);unfold pf;rw[←x]at Q a bb HG g8⊢;rw[←q]at Q a bb bc;have a6:=O (ky (.slice (some ⟨U.heap.size,0,none⟩) 3 3) [[110,111,100,101],ID,id] (U.drew.alloc (.cells #[.string ⟨#[110,111,100,101]⟩,s_ ID,s_ id] 9)) (aO.new U.drew [.string ⟨#[110,111,100,101]⟩,s_ ID,s_ id] 3 9 3) Q.o i_);obtain⟨S,hS⟩:=H (row [[110,111,100,101],ID,id]);rw[←hS]at a6 a bb;obtain⟨z,Sz⟩:=S;unfold txV at a6;dsimp only at a6 a bb;subst bb;clear hS q x hid Q hG hM hs hg hc hn aQ hE aT;go_enter func46,ntmps46;go_upto_region 3 with fail;go_region_law (refine aN rfl 39 #[.slice (some ⟨U.heap.size,0,none⟩) 3 3] yzc a6.o ?_;rintro e w2⟨rfl,ax⟩;have a9:=O (bt (b_drew U) (bt (af _ _) ax));have g9:=(HG.o.below a9.o).c 9;clear ax)
 all_goals
  go_wp2_with (go_at_call 24;refine(a.o _ a9.o).mono ?_;rintro e w3⟨⟨v,rfl,hv⟩,al⟩;obtain⟨va,vc,rfl,-,-⟩:=(show Aw _ w3 v ap from hv).1.open;have aW:=O (bt a9.o al);have HV:=O (show Aw (fun b=>r<b∧K b∧b≠G) w3 (.slice va ap.length vc) ap from hv);have g:=HG.o.below aW.o;have A0:=g.c 13;have f0:=g.free (k:=13) i_;have aj:=O g;have d:=O (HM.o.below aW.o);clear al hv g);go_ret;have aR:Chg (fun k=>k=G) w3 (w3.setCell ⟨G,13,none⟩ (F (wrap64 (s.found+1)))):=Chg.setCell _ _ _ rfl;refine⟨va,vc,rfl,?_,aj.o.set 13 _,d.o.chg aR (fun e=>b3.o e) (fun b _ hk e=>absurd e hk.2),(IG aW.o).trans (aR.mono fun k hk=>.inr hk)⟩;have h2:=HV.o.chg aR (fun b hk e=>absurd e hk.2.2)
  exact⟨h2.1,fun aI b hb=>by
   have h3:=h2.2 aI b hb;exact⟨by have:=h3.1;omega,h3.2.2,.inr h3.2.1⟩⟩
end
section
open Go.RowKit Oct Go.WideMaps Go.Maps
variable {W U:Z}{T R J C A Nn c M n0:Nat}{an ar:OA_}{cn cr:Nat}{t1 c1 t2 c2 t3 c3:V_}{j:Jb}{N:LD_}{ac:LQ_}{K:Nat→Prop}{Uk V:LL_}
theorem pu {α:Type}{l:List α}{n:Nat}(h:n<l.length)(d:α):l.getD n d=l[n]:=by
 rw[List.getD_eq_getElem?_getD,List.getElem?_eq_getElem h]
 rfl
theorem Bx (hE:NE W T R J C A Nn c M n0 an ar cn cr t1 c1 t2 c2 t3 c3 j N ac Uk V)(hc:Chg (fun k=>k=M∨k=A) W U)(s:CSt)(n f:Nat)(hn:n<n0)(hA:BA U A s)(hM:CN K A U M s.es):C_ 43 #[F n,pt T,pt R,pt J,pt C,pt A,pt Nn] U fun e U'=>rq W U A M K (cC j N n0 ac (f+1) n s) e U':=by
 have hr:n<ac.length:=by rw[hE.rown];exact hn
 rw[jQ hn,pu hr];obtain⟨b,aL,u,rfl,hu,hw⟩:=hE.row hc hr;obtain⟨bT,bR,-,-,-,-⟩:=hE.blks hc;obtain⟨ua,uc,rfl,-,-⟩:=hw.1.open;have T1:=bT.c 1;have a:=bR.c 0;obtain⟨HW,HA,HM⟩:=zH3 hw hA hM;have i0:(n:Int)<n0:=Y;have i1:=nn_ n;have i2:(n:Int)<ac.length:=Y;obtain⟨x,hx⟩:=H (ac[n]'hr);rw[←hx]at hu HW⊢;clear hx hw hA hM bT bR hn hr hE;unfold pt;go_enter func43,ntmps43;go_wp2_with fail;go_step3;go_wp2_with fail;go_ret3;exact⟨_,_,rfl,HW.o,HA.o,HM.o,Chg.refl _ _⟩
theorem yH (hE:NE W T R J C A Nn c M n0 an ar cn cr t1 c1 t2 c2 t3 c3 j N ac Uk V)(hc:Chg (fun k=>k=M∨k=A) W U)(s:CSt)(n f:Nat)(hn:¬n<n0)(aQ:n<N.length)(hA:BA U A s)(hM:CN K A U M s.es)(hs:StU Uk V s){r:LP_}(hg:aM s.es (cN j (N.getD n ([],[])).1)=some r):C_ 43 #[F n,pt T,pt R,pt J,pt C,pt A,pt Nn] U fun e U'=>rq W U A M K (cC j N n0 ac (f+1) n s) e U':=by
 rw[iQ hn hg];rw[pu aQ]at hg;have hid:N[n].1.length=32:=hE.tree.ids _ (Jz aQ);obtain⟨h,-⟩:=hE.job U hc;have HK:=O (np t1 c1 t2 c2 t3 c3 j N[n].1 U.drew (h.below (b_drew U)) Y);have aa:rF j N[n].1=(cN j N[n].1,0):=if_pos ⟨hE.may,hid⟩;rw[aa]at HK;have bq:=(gW j N[n].1 Y).2;have B:=hs.get hg;obtain⟨bT,bR,bJ,bC,bN,Q⟩:=hE.blks hc;have a:=O (fun w' (hB:Bw_ U w')=>ns c M s.es.length s.es (cN j N[n].1) w' (Q.below hB) (hM.below hB) Y (by rw[hg];have:=B.2;simp only[Option.getD_some];omega));rw[hg]at a;simp only[Option.getD_some,Option.isSome_some]at a;obtain⟨b,aL,ak,ck,rfl,aT⟩:=hE.node aQ;obtain⟨bc,-,-⟩:=aT U hc;clear aT;obtain⟨ta,tc,ca,cc,aV,bd,be,bf,bg,bh,bi,bk,rfl,rfl,rfl,rfl,rfl,rfl⟩:=jo_ h.a.t h.a.c h.b.t h.b.c h.c.t h.c.c;unfold bM at HK;obtain⟨T0,T1⟩:=cl2 bT;obtain⟨x0,x1,x2,x3,x4,x5,x6,x7⟩:=cl8 bJ;have i0:¬(n:Int)<n0:=Y;have i1:=nn_ n;have i2:(n:Int)<N.length:=Y;obtain⟨HA,HM,S,bQ,a1⟩:=zH5 hA hM bC (show W.heap.size≤U.heap.size from hc.size) hE.al;obtain⟨z,bv⟩:=H (cN j N[n].1);rw[←bv]at HK a;obtain⟨id,q⟩:=H (N[n].1);rw[←q]at bc HK;clear bv q aa bq B hid hA hM bT bR bJ bC bN Q h hE hs hg hc hn aQ;unfold pt;go_enter func43,ntmps43;go_wp2_with fail;go_step3;go_upto_region 3 with fail;go_region_law (refine aN rfl 14 #[.agg #[.slice ta j.mt.length tc,.slice ca j.mc.length cc,.slice aV j.jt.length bd,.slice be j.jc.length bf,.slice bg j.tt.length bh,.slice bi j.tc.length bk,F j.parts,F j.fuel],s_ id] yzc HK.o ?_;rintro e w2⟨rfl,ax⟩;have a9:=O (bt (b_drew U) ax);have L:=(S.o.below a9.o).c 0;clear ax x0 x1 x2 x3 x4 x5 x6 x7)
 all_goals
  go_wp2_with (go_at_call 7;refine(a.o _ a9.o).mono ?_;rintro e w3⟨⟨v,rfl,hv⟩,al⟩;obtain⟨va,vc,rfl⟩:=ay hv;obtain⟨bA,aW,HV⟩:=zH3 a9.o.size (bt a9.o al) hv;have g:=HA.o.below aW.o;obtain⟨A0,A1,A2⟩:=cl3 g;obtain⟨f0,f1,f2⟩:=fr3 g;have aj:=O g;have d:=O (HM.o.below aW.o);clear al hv g);go_ret3;have t:=aj.o.set 0 (F (wrap64 (s.found+1)));have aR:Chg (fun k=>k=M∨k=A) w3 (w3.setCell ⟨A,0,none⟩ (F (wrap64 (s.found+1)))):=Chg.setCell _ _ _ (.inr rfl)
  have i:Aw (fun b=>b≠A∧(b<W.heap.size∨U.heap.size≤b)) w3 (.slice va r.length vc) r:=Aw.own HV.o (fun b hb=>by
   have h1:=bA.o;have h2:=bQ.o;have h3:=a1.o;exact⟨by omega,.inr Y⟩)
  exact⟨_,_,rfl,i.chg (Chg.setCell (X:=fun k=>k=A) _ _ _ rfl) (fun b hb hx=>absurd hx hb.1),t,d.o.chg (Chg.setCell (X:=fun k=>k=A) _ _ _ rfl) (fun e=>by obtain⟨I,cl,hm⟩:=d.o.map;have h1:=aj.o;unfold Blk at h1;rw[←e,hm]at h1;cases h1) (fun b hb hx=>absurd hx hb.2),(IG aW.o).trans aR⟩
end
