/- Lemmas. -/
import Derived.Test.YtfjpghgdebpliaaGreatDoorContractPlaysK12
import Derived.Test.YtfjpghgdebpliaaGreatDoorContractPlaysK14
set_option linter.unusedSimpArgs false
set_option linter.unusedVariables false
set_option maxRecDepth 100000
set_option maxHeartbeats 16000000
namespace Go.Proofs.YtfjpghgdebpliaaGreatDoor
open Go.Proofs.Tryz
open Go.RowKit Oct
def bU (L:List Lo):List (Nat×LL_):=L.reverse.map fun e=>(e.at_,e.ps)
theorem nO (L:List Lo)(e:Lo):bU (L++[e])=(e.at_,e.ps)::bU L:=by unfold bU;rw[List.reverse_append];rfl
theorem vW (L:List Lo):(bU L).length=L.length:=by unfold bU;simp
theorem Bu {L:List Lo}{a:Nat}{ps:LL_}{o:List (Nat×LL_)}(h:bU L=(a,ps)::o):∃ l e,L=l++[e]∧e.at_=a∧e.ps=ps∧bU l=o:=by
 rcases List.eq_nil_or_concat L with rfl|⟨l,e,rfl⟩
 ·cases h
 ·rw[List.concat_eq_append,nO]at h
  exact MT
def stS (ak:Int)(st rg:LM_)(op:List (Nat×LL_))(W:LX_):StR:=fun a s r l p=>a=ak∧s.map (·.2)=st∧r.map (·.2)=rg∧bU l=op∧p=W
structure Iq (w:Z) (E:Me) (tv cv iv ev ow:V_) (own:LI_):Prop where
 t:aP.Row w tv E.tx
 c:bH.Row w cv E.code
 i:aP.Row w iv E.ins
 e:bD.Row w ev E.ends
 o:bD.Row w ow own
 g:dS w
structure Gi (E:Me) (own:LI_):Prop where
 len:own.length=E.code.length
 at_:∀ i,i<E.code.length→opV E.code i=21→∃ j:Nat,own.getD i 0=(j:Int)∧j<E.code.length∧(opV E.code j=22↔fK E i=true)
section
variable {bZ G n:Nat}{y:U8_}{w0 w w':Z}{f:Rf}{φ:StR}
theorem fu (hn:n≠1∧n≠2∧n≠3∧n≠14∧n≠15∧n≠16∧n≠17∧n≠18):Cp bZ G f 188 n y w0 φ φ :=
 fun w1 X _ h=>(Bh n y w1 hn).mono fun r w' ⟨hr,hB⟩=>⟨hr,h.below hB,hB.mono h.size⟩
theorem eJ (hn:n≠8∧n≠13∧n≠9∧n≠10∧n≠11):Cp bZ G f 189 n y w0 φ φ :=
 fun w1 X _ h=>(rA n y w1 hn).mono fun r w' ⟨hr,hB⟩=>⟨hr,h.below hB,hB.mono h.size⟩
theorem ft (hn:n≠4∧n≠5∧n≠6∧n≠7∧n≠12∧n≠23):∀ (w1:Z) (X:List (Pt bZ)),B_ bZ w0 w1→RS bZ w1 G f X φ→C_ 190 #[p_ G,.agg #[.int .u8 n,.int .u8 y.toNat]] w1 fun r w'=>r=.returned (F ((0:Nat):Int))∧((0:Nat)=0→RS bZ w' G f X φ)∧B_ bZ w1 w' :=
 fun w1 X _ h=>(u5 n y w1 hn).mono fun r w' ⟨hr,hB⟩=>⟨hr,fun _=>h.below hB,hB.mono h.size⟩
theorem fJ (hn:n≠19∧n≠20∧n≠22∧n≠21):Cp bZ G f 191 n y w0 φ φ :=
 fun w1 X _ h=>by
  obtain⟨a,s,r,l,p,sv,lv,J,h1,h2⟩:=h;exact(tR n y h1 hn).mono fun r' w' ⟨hr,hB⟩=>⟨hr,⟨a,s,r,l,p,sv,lv,J,h1.below hB,h2⟩,hB.mono h1.size⟩
end
section
variable {nt ai:Nat}{ag:U8_}{E:Me}
theorem BW (l:LR_)(i:Nat):(l.map (·.2)).getD i (0,[])=(l.getD i (false,0,[])).2:=by
 simp only[List.getD_eq_getElem?_getD,List.getElem?_map]
 cases l[i]?<;>rfl
theorem DQ (l:LR_)(i:Nat)(v:RV):(l.set i v).map (·.2)=(l.map (·.2)).set i v.2:=List.map_set
theorem GD {st:LR_}(h:∀ v∈st.map (·.2),vOk v):∀ v∈st,vOk v.2:=fun v hv=>h v.2 (List.mem_map_of_mem hv)
theorem La {T:Prop} (h:T:=by
 rintro r w'⟨hr,O,m⟩;refine⟨hr,fun _=>?_,m⟩;obtain⟨a1,q,r1,l1,p1,V,ao,al,d,q1,q2,q3,q4,q5⟩:=O rfl;subst q2 q3 q4 q5;exact⟨a1,_,_,_,_,_,_,_,d,by show a1=((pc+1:Nat):Int);omega,rfl,rfl,rfl,rfl⟩
):T:=h
theorem AY {bZ N:Nat}{w:Z}{tv cv iv ev ow:V_}{own:LI_}{pc:Nat}{st rg:LM_}{op:List (Nat×LL_)}{W:LX_}{n:Nat}{y:U8_}{X:List (Pt bZ)}(G:fA nt ai ag E)(a4:nt≤1000)(ay:ai≤1000)(bx:E.code.length≤256)(h:OkM (sM nt ai ag E) E ⟨pc,st,rg,op,W⟩)(u:pc<E.code.length)(hn:(E.code.getD pc (0,0)).1.toNat=n)(hy:(E.code.getD pc (0,0)).2=y)(hM:RS bZ w N ⟨tv,cv,iv,ev,ow⟩ X (stS (pc:Int) st rg op W))(hE:∀ w',B_ bZ w w'→Iq w' E tv cv iv ev ow own)(aw:Gi E own):C_ 185 #[p_ N] w fun r w'=>r=.returned (F ((doN E n y pc st rg op W).1:Int)) ∧((doN E n y pc st rg op W).1=0→RS bZ w' N ⟨tv,cv,iv,ev,ow⟩ X (stS ((doN E n y pc st rg op W).2.pc:Int) (doN E n y pc st rg op W).2.st (doN E n y pc st rg op W).2.rg (doN E n y pc st rg op W).2.op (doN E n y pc st rg op W).2.pr))∧B_ bZ w w':=by
 obtain⟨ak,K,Q,L,g,sv,lv,J,hm,aC,hs,hr,aa,aQ⟩:=hM;subst aC hs hr aa aQ;have ab:(K.map (·.2)).length=(sM nt ai ag E pc).kinds.length:=h.st;have R:(bU L).map (·.1)=bL (sM nt ai ag E pc):=h.op;have z:∀ v∈K,vOk v.2:=GD h.sv;have ax:∀ o∈bU L,o.2.length≤1024∧∀ p∈o.2,p.length≤1024:=h.ov;have aj:g.length≤256:=h.pr;have aA:=(G.run (JA u)).k;have aN:K.length≤16:=by rw[←Js (f:=(·.2)),ab];exact aA
 have aS:=qR G;have ad:=hm.rl
 have aL:L.length≤256:=by
  have h1:=ws G (JA u);rw[←R,Js,vW]at h1;omega
 have hx:bw (E.code.getD pc (0,0))=true:=jX (P:=fun x=>bw x=true) G.may u _
 have bN:1≤(E.code.getD pc (0,0)).1.toNat∧(E.code.getD pc (0,0)).1.toNat≤23:=by
  unfold bw at hx;simp at hx;exact hx.1
 obtain⟨hs,ho⟩:=G.step u;obtain⟨g1,g3,aH,aR⟩:=lU ho.th;have hu:∀ k:U8_,k.toNat=n→(E.code.getD pc (0,0)).1=k:=fun k hk=>UInt8.toNat_inj.1 (hn.trans hk.symm);have I:=fun (ah:n≠19) (ac:n≠20) (D:n≠21) (B:n≠22)=>lY G u hn Y ah ac D B;have aJ:E.code.getD pc (0,0)=E.code[pc]:=by rw[List.getD_eq_getElem?_getD,List.getElem?_eq_getElem u];rfl
 rw[hn]at bN;rw[←ab,Js]at I;rw[hy]at g1 g3 aH;rw[aJ]at hn hy;have ap:=hE w (Ja _ _);have bq:∀ w1 w',B_ bZ w w1→B_ bZ w1 w'→dS w':=fun w1 w' h1 h2=>(hE w' (h1.trans h2)).g;have hJ:∀ w1 w',B_ bZ w w1→B_ bZ w1 w'→bD.Row w' ev E.ends:=fun w1 w' h1 h2=>(hE w' (h1.trans h2)).e;have M:-1≤(pc:Int)∧(pc:Int)≤1000:=Y;have i:=fun (c:Nat) {φ1 φ2 φ3 φ4:StR}=>Bj (φ1:=φ1) (φ2:=φ2) (φ3:=φ3) (φ4:=φ4) pc n y c hm ap.c u Y hn.symm hy.symm;clear hx;rcases(show n=1∨n=2∨n=3∨n=4∨n=5∨n=6∨n=7∨n=8∨n=9∨n=10∨n=11∨n=12∨n=13∨n=14∨n=15∨n=16∨n=17∨n=18∨n=19∨n=20∨n=21∨n=22∨n=23 by omega) with rfl|rfl|rfl|rfl|rfl|rfl|rfl|rfl|rfl|rfl|rfl|rfl|rfl|rfl|rfl|rfl|rfl|rfl|rfl|rfl|rfl|rfl|rfl
 ·obtain⟨l1,l2,l3⟩:=I d_ d_ d_ d_
  have hd:doN E 1 y pc (K.map (·.2)) (Q.map (·.2)) (bU L) g=(0,⟨pc+1,(0,E.tx.getD y.toNat [])::K.map (·.2),Q.map (·.2),bU L,g⟩):=rfl;rw[hd]
  refine(i 0 (φ4:=eqS (pc:Int) ((true,0,E.tx.getD y.toNat [])::K) Q L g) (fun w1 X hB hR=>by
   obtain⟨_,_,_,_,_,A,C,H,h1,rfl,rfl,rfl,rfl,rfl⟩:=hR;refine(u6 y h1 Y (hE w1 hB).t (by rw[G.txl];exact g1 (hu 1 rfl)) (by rw[G.txl];omega)).mono ?_;rintro r w'⟨hr,⟨V,d⟩,m⟩;exact⟨hr,⟨_,_,_,_,_,_,_,_,d,rfl,rfl,rfl,rfl,rfl⟩,m⟩) (eJ d_) (ft d_) (fun _=>fJ d_) (fun a' _ _ _ _ h=>by rw[h.1];exact M)).mono ?_
  rintro r w'⟨hr,O,m⟩;refine⟨hr,fun _=>?_,m⟩;obtain⟨a1,q,r1,l1,p1,V,ao,al,d,q1,q2,q3,q4,q5⟩:=O rfl;subst q2 q3 q4 q5;exact⟨a1,_,_,_,_,_,_,_,d,by show a1=((pc+1:Nat):Int);omega,by rfl,rfl,rfl,rfl⟩
 ·obtain⟨l1,l2,l3⟩:=I d_ d_ d_ d_
  have hd:doN E 2 y pc (K.map (·.2)) (Q.map (·.2)) (bU L) g=(0,⟨pc+1,((y.toNat:Int),[])::K.map (·.2),Q.map (·.2),bU L,g⟩):=rfl;rw[hd]
  refine(i 0 (φ4:=eqS (pc:Int) ((false,(y.toNat:Int),[])::K) Q L g) (fun w1 X hB hR=>by
   obtain⟨_,_,_,_,_,A,C,H,h1,rfl,rfl,rfl,rfl,rfl⟩:=hR;refine(xZ y h1 Y).mono ?_;rintro r w'⟨hr,⟨V,d⟩,m⟩;exact⟨hr,⟨_,_,_,_,_,_,_,_,d,rfl,rfl,rfl,rfl,rfl⟩,m⟩) (eJ d_) (ft d_) (fun _=>fJ d_) (fun a' _ _ _ _ h=>by rw[h.1];exact M)).mono ?_
  exact La
 ·obtain⟨l1,l2,l3⟩:=I d_ d_ d_ d_
  have hd:doN E 3 y pc (K.map (·.2)) (Q.map (·.2)) (bU L) g=(0,⟨pc+1,(0,E.ins.getD y.toNat [])::K.map (·.2),Q.map (·.2),bU L,g⟩):=rfl;rw[hd]
  refine(i 0 (φ4:=eqS (pc:Int) ((true,0,E.ins.getD y.toNat [])::K) Q L g) (fun w1 X hB hR=>by
   obtain⟨_,_,_,_,_,A,C,H,h1,rfl,rfl,rfl,rfl,rfl⟩:=hR;refine(tP y h1 Y (hE w1 hB).i (by rw[G.inl];exact g3 (hu 3 rfl)) (by rw[G.inl];omega)).mono ?_;rintro r w'⟨hr,⟨V,d⟩,m⟩;exact⟨hr,⟨_,_,_,_,_,_,_,_,d,rfl,rfl,rfl,rfl,rfl⟩,m⟩) (eJ d_) (ft d_) (fun _=>fJ d_) (fun a' _ _ _ _ h=>by rw[h.1];exact M)).mono ?_
  exact La
 ·obtain⟨l1,l2,l3⟩:=I d_ d_ d_ d_
  obtain⟨b,a,s,rfl⟩:=dE (show 2≤K.length from l1);have hd:doN E 4 y pc ((b::a::s).map (·.2)) (Q.map (·.2)) (bU L) g=if 1024<a.2.2.length+b.2.2.length then (5,⟨pc,(b::a::s).map (·.2),Q.map (·.2),bU L,g⟩) else (0,⟨pc+1,(0,a.2.2++b.2.2)::s.map (·.2),Q.map (·.2),bU L,g⟩):=rfl;rw[hd]
  by_cases hc:1024<a.2.2.length+b.2.2.length
  ·rw[if_pos hc]
   refine(i 5 (φ3:=eqS (pc:Int) s Q L g) (φ4:=eqS (pc:Int) s Q L g) (fu d_) (eJ d_) (fun w1 X hB hR=>by
    obtain⟨_,_,_,_,_,A,C,H,h1,rfl,rfl,rfl,rfl,rfl⟩:=hR;exact(Bg y a b h1 z9 (z a i_).2.2 (z b i_).2.2 hc).mono fun r w' ⟨hr,m⟩=>⟨hr,fun h=>absurd h d_,m⟩) (fun h=>absurd h d_) (fun a' _ _ _ _ h=>by rw[h.1];exact M)).mono ?_
   rintro r w'⟨hr,-,m⟩;exact⟨hr,fun h=>absurd h i_,m⟩
  ·rw[if_neg hc]
   refine(i 0 (φ4:=eqS (pc:Int) ((true,0,a.2.2++b.2.2)::s) Q L g) (fu d_) (eJ d_) (fun w1 X hB hR=>by
    obtain⟨_,_,_,_,_,A,C,H,h1,rfl,rfl,rfl,rfl,rfl⟩:=hR;refine(Du y a b h1 z9 (z a i_).2.2 (z b i_).2.2 hc).mono ?_;rintro r w'⟨hr,⟨V,d⟩,m⟩;exact⟨hr,fun _=>⟨_,_,_,_,_,_,_,_,d,rfl,rfl,rfl,rfl,rfl⟩,m⟩) (fun _=>fJ d_) (fun a' _ _ _ _ h=>by rw[h.1];exact M)).mono ?_
   exact La
 ·obtain⟨l1,l2,l3⟩:=I d_ d_ d_ d_
  obtain⟨a,s,rfl⟩:=cH (show 1≤K.length from l1);have hd:doN E 5 y pc ((a::s).map (·.2)) (Q.map (·.2)) (bU L) g=(0,⟨pc+1,((a.2.2.length:Int),[])::s.map (·.2),Q.map (·.2),bU L,g⟩):=rfl;rw[hd]
  refine(i 0 (φ4:=eqS (pc:Int) ((false,(a.2.2.length:Int),[])::s) Q L g) (fu d_) (eJ d_) (fun w1 X hB hR=>by
   obtain⟨_,_,_,_,_,A,C,H,h1,rfl,rfl,rfl,rfl,rfl⟩:=hR;refine(Dn y a h1 z9 (z a i_).2.2).mono ?_;rintro r w'⟨hr,⟨V,d⟩,m⟩;exact⟨hr,fun _=>⟨_,_,_,_,_,_,_,_,d,rfl,rfl,rfl,rfl,rfl⟩,m⟩) (fun _=>fJ d_) (fun a' _ _ _ _ h=>by rw[h.1];exact M)).mono ?_
  exact La
 ·obtain⟨l1,l2,l3⟩:=I d_ d_ d_ d_
  obtain⟨b,a,t,s,rfl⟩:=pG (show 3≤K.length from l1);have hd:doN E 6 y pc ((b::a::t::s).map (·.2)) (Q.map (·.2)) (bU L) g=(0,⟨pc+1,(0,im t.2.2 a.2.1 b.2.1)::s.map (·.2),Q.map (·.2),bU L,g⟩):=rfl;rw[hd]
  refine(i 0 (φ4:=eqS (pc:Int) ((true,0,im t.2.2 a.2.1 b.2.1)::s) Q L g) (fu d_) (eJ d_) (fun w1 X hB hR=>by
   obtain⟨_,_,_,_,_,A,C,H,h1,rfl,rfl,rfl,rfl,rfl⟩:=hR;refine(vd y b a t h1 z9 (z b i_) (z a i_) (z t i_)).mono ?_;rintro r w'⟨hr,⟨V,d⟩,m⟩;exact⟨hr,fun _=>⟨_,_,_,_,_,_,_,_,d,rfl,rfl,rfl,rfl,rfl⟩,m⟩) (fun _=>fJ d_) (fun a' _ _ _ _ h=>by rw[h.1];exact M)).mono ?_
  exact La
 ·obtain⟨l1,l2,l3⟩:=I d_ d_ d_ d_
  obtain⟨a,s,rfl⟩:=cH (show 1≤K.length from l1);have hd:doN E 7 y pc ((a::s).map (·.2)) (Q.map (·.2)) (bU L) g=(0,⟨pc+1,(da a.2.2,[])::s.map (·.2),Q.map (·.2),bU L,g⟩):=rfl;rw[hd]
  refine(i 0 (φ4:=eqS (pc:Int) ((false,da a.2.2,[])::s) Q L g) (fu d_) (eJ d_) (fun w1 X hB hR=>by
   obtain⟨_,_,_,_,_,A,C,H,h1,rfl,rfl,rfl,rfl,rfl⟩:=hR;refine(tL y a h1 z9 (z a i_).2.2 (fun w' h2=>bq w1 w' hB h2)).mono ?_;rintro r w'⟨hr,⟨V,d⟩,m⟩;exact⟨hr,fun _=>⟨_,_,_,_,_,_,_,_,d,rfl,rfl,rfl,rfl,rfl⟩,m⟩) (fun _=>fJ d_) (fun a' _ _ _ _ h=>by rw[h.1];exact M)).mono ?_
  exact La
 ·obtain⟨l1,l2,l3⟩:=I d_ d_ d_ d_
  obtain⟨a,s,rfl⟩:=cH (show 1≤K.length from l1);have hd:doN E 8 y pc ((a::s).map (·.2)) (Q.map (·.2)) (bU L) g=(0,⟨pc+1,(0,Lib.itoa a.2.1)::s.map (·.2),Q.map (·.2),bU L,g⟩):=rfl;rw[hd]
  refine(i 0 (φ4:=eqS (pc:Int) ((true,0,Lib.itoa a.2.1)::s) Q L g) (fu d_) (fun w1 X hB hR=>by
   obtain⟨_,_,_,_,_,A,C,H,h1,rfl,rfl,rfl,rfl,rfl⟩:=hR;refine(AZ y a h1 z9 (z a i_) (fun w' h2=>bq w1 w' hB h2)).mono ?_;rintro r w'⟨hr,⟨V,d⟩,m⟩;exact⟨hr,⟨_,_,_,_,_,_,_,_,d,rfl,rfl,rfl,rfl,rfl⟩,m⟩) (ft d_) (fun _=>fJ d_) (fun a' _ _ _ _ h=>by rw[h.1];exact M)).mono ?_
  exact La
 ·obtain⟨l1,l2,l3⟩:=I d_ d_ d_ d_
  obtain⟨b,a,s,rfl⟩:=dE (show 2≤K.length from l1);have hd:doN E 9 y pc ((b::a::s).map (·.2)) (Q.map (·.2)) (bU L) g=(0,⟨pc+1,(wrap64 (a.2.1+b.2.1),[])::s.map (·.2),Q.map (·.2),bU L,g⟩):=rfl;rw[hd]
  refine(i 0 (φ4:=eqS (pc:Int) ((false,wrap64 (a.2.1+b.2.1),[])::s) Q L g) (fu d_) (fun w1 X hB hR=>by
   obtain⟨_,_,_,_,_,A,C,H,h1,rfl,rfl,rfl,rfl,rfl⟩:=hR;refine(Dv y a b h1 z9).mono ?_;rintro r w'⟨hr,⟨V,d⟩,m⟩;exact⟨hr,⟨_,_,_,_,_,_,_,_,d,rfl,rfl,rfl,rfl,rfl⟩,m⟩) (ft d_) (fun _=>fJ d_) (fun a' _ _ _ _ h=>by rw[h.1];exact M)).mono ?_
  exact La
 ·obtain⟨l1,l2,l3⟩:=I d_ d_ d_ d_
  obtain⟨b,a,s,rfl⟩:=dE (show 2≤K.length from l1);have hd:doN E 10 y pc ((b::a::s).map (·.2)) (Q.map (·.2)) (bU L) g=(0,⟨pc+1,(wrap64 (a.2.1*b.2.1),[])::s.map (·.2),Q.map (·.2),bU L,g⟩):=rfl;rw[hd]
  refine(i 0 (φ4:=eqS (pc:Int) ((false,wrap64 (a.2.1*b.2.1),[])::s) Q L g) (fu d_) (fun w1 X hB hR=>by
   obtain⟨_,_,_,_,_,A,C,H,h1,rfl,rfl,rfl,rfl,rfl⟩:=hR;refine(Dm y a b h1 z9).mono ?_;rintro r w'⟨hr,⟨V,d⟩,m⟩;exact⟨hr,⟨_,_,_,_,_,_,_,_,d,rfl,rfl,rfl,rfl,rfl⟩,m⟩) (ft d_) (fun _=>fJ d_) (fun a' _ _ _ _ h=>by rw[h.1];exact M)).mono ?_
  exact La
 ·obtain⟨l1,l2,l3⟩:=I d_ d_ d_ d_
  obtain⟨b,a,s,rfl⟩:=dE (show 2≤K.length from l1);have hd:doN E 11 y pc ((b::a::s).map (·.2)) (Q.map (·.2)) (bU L) g=(0,⟨pc+1,bitM (decide (a.2.1<b.2.1))::s.map (·.2),Q.map (·.2),bU L,g⟩):=rfl;rw[hd]
  refine(i 0 (φ4:=eqS (pc:Int) ((false,bitM (decide (a.2.1<b.2.1)))::s) Q L g) (fu d_) (fun w1 X hB hR=>by
   obtain⟨_,_,_,_,_,A,C,H,h1,rfl,rfl,rfl,rfl,rfl⟩:=hR;refine(Bc y a b h1 z9).mono ?_;rintro r w'⟨hr,⟨V,d⟩,m⟩;exact⟨hr,⟨_,_,_,_,_,_,_,_,d,rfl,rfl,rfl,rfl,rfl⟩,m⟩) (ft d_) (fun _=>fJ d_) (fun a' _ _ _ _ h=>by rw[h.1];exact M)).mono ?_
  exact La
 ·obtain⟨l1,l2,l3⟩:=I d_ d_ d_ d_
  obtain⟨b,a,s,rfl⟩:=dE (show 2≤K.length from l1);have hd:doN E 12 y pc ((b::a::s).map (·.2)) (Q.map (·.2)) (bU L) g=(0,⟨pc+1,bitM (a.2.2==b.2.2)::s.map (·.2),Q.map (·.2),bU L,g⟩):=rfl;rw[hd]
  refine(i 0 (φ4:=eqS (pc:Int) ((false,bitM (a.2.2==b.2.2))::s) Q L g) (fu d_) (eJ d_) (fun w1 X hB hR=>by
   obtain⟨_,_,_,_,_,A,C,H,h1,rfl,rfl,rfl,rfl,rfl⟩:=hR;refine(A4 y a b h1 z9).mono ?_;rintro r w'⟨hr,⟨V,d⟩,m⟩;exact⟨hr,fun _=>⟨_,_,_,_,_,_,_,_,d,rfl,rfl,rfl,rfl,rfl⟩,m⟩) (fun _=>fJ d_) (fun a' _ _ _ _ h=>by rw[h.1];exact M)).mono ?_
  exact La
 ·obtain⟨l1,l2,l3⟩:=I d_ d_ d_ d_
  obtain⟨a,s,rfl⟩:=cH (show 1≤K.length from l1);have hd:doN E 13 y pc ((a::s).map (·.2)) (Q.map (·.2)) (bU L) g=(0,⟨pc+1,bitM (a.2.1==0)::s.map (·.2),Q.map (·.2),bU L,g⟩):=rfl;rw[hd]
  refine(i 0 (φ4:=eqS (pc:Int) ((false,bitM (a.2.1==0))::s) Q L g) (fu d_) (fun w1 X hB hR=>by
   obtain⟨_,_,_,_,_,A,C,H,h1,rfl,rfl,rfl,rfl,rfl⟩:=hR;refine(Dl y a h1 z9).mono ?_;rintro r w'⟨hr,⟨V,d⟩,m⟩;exact⟨hr,⟨_,_,_,_,_,_,_,_,d,rfl,rfl,rfl,rfl,rfl⟩,m⟩) (ft d_) (fun _=>fJ d_) (fun a' _ _ _ _ h=>by rw[h.1];exact M)).mono ?_
  exact La
 ·obtain⟨l1,l2,l3⟩:=I d_ d_ d_ d_
  obtain⟨a,s,rfl⟩:=cH (show 1≤K.length from l1);have hd:doN E 14 y pc ((a::s).map (·.2)) (Q.map (·.2)) (bU L) g=(0,⟨pc+1,s.map (·.2),Q.map (·.2),bU L,g⟩):=rfl;rw[hd]
  refine(i 0 (φ4:=eqS (pc:Int) (s) Q L g) (fun w1 X hB hR=>by
   obtain⟨_,_,_,_,_,A,C,H,h1,rfl,rfl,rfl,rfl,rfl⟩:=hR;refine(vB y a h1 z9).mono ?_;rintro r w'⟨hr,⟨V,d⟩,m⟩;exact⟨hr,⟨_,_,_,_,_,_,_,_,d,rfl,rfl,rfl,rfl,rfl⟩,m⟩) (eJ d_) (ft d_) (fun _=>fJ d_) (fun a' _ _ _ _ h=>by rw[h.1];exact M)).mono ?_
  exact La
 ·obtain⟨l1,l2,l3⟩:=I d_ d_ d_ d_
  obtain⟨a,s,rfl⟩:=cH (show 1≤K.length from l1);have hd:doN E 15 y pc ((a::s).map (·.2)) (Q.map (·.2)) (bU L) g=(0,⟨pc+1,a.2::a.2::s.map (·.2),Q.map (·.2),bU L,g⟩):=rfl;rw[hd]
  refine(i 0 (φ4:=eqS (pc:Int) (a::a::s) Q L g) (fun w1 X hB hR=>by
   obtain⟨_,_,_,_,_,A,C,H,h1,rfl,rfl,rfl,rfl,rfl⟩:=hR;refine(yh y a h1 z9).mono ?_;rintro r w'⟨hr,⟨V,d⟩,m⟩;exact⟨hr,⟨_,_,_,_,_,_,_,_,d,rfl,rfl,rfl,rfl,rfl⟩,m⟩) (eJ d_) (ft d_) (fun _=>fJ d_) (fun a' _ _ _ _ h=>by rw[h.1];exact M)).mono ?_
  exact La
 ·obtain⟨l1,l2,l3⟩:=I d_ d_ d_ d_
  obtain⟨b,a,s,rfl⟩:=dE (show 2≤K.length from l1);have hd:doN E 16 y pc ((b::a::s).map (·.2)) (Q.map (·.2)) (bU L) g=(0,⟨pc+1,a.2::b.2::s.map (·.2),Q.map (·.2),bU L,g⟩):=rfl;rw[hd]
  refine(i 0 (φ4:=eqS (pc:Int) (a::b::s) Q L g) (fun w1 X hB hR=>by
   obtain⟨_,_,_,_,_,A,C,H,h1,rfl,rfl,rfl,rfl,rfl⟩:=hR;refine(u9 y a b h1 z9).mono ?_;rintro r w'⟨hr,⟨V,d⟩,m⟩;exact⟨hr,⟨_,_,_,_,_,_,_,_,d,rfl,rfl,rfl,rfl,rfl⟩,m⟩) (eJ d_) (ft d_) (fun _=>fJ d_) (fun a' _ _ _ _ h=>by rw[h.1];exact M)).mono ?_
  exact La
 ·obtain⟨l1,l2,l3⟩:=I d_ d_ d_ d_
  have hd:doN E 17 y pc (K.map (·.2)) (Q.map (·.2)) (bU L) g=(0,⟨pc+1,(Q.map (·.2)).getD y.toNat (0,[])::K.map (·.2),Q.map (·.2),bU L,g⟩):=rfl;rw[hd]
  refine(i 0 (φ4:=eqS (pc:Int) (Q.getD y.toNat (false,0,[])::K) Q L g) (fun w1 X hB hR=>by
   obtain⟨_,_,_,_,_,A,C,H,h1,rfl,rfl,rfl,rfl,rfl⟩:=hR;refine(yc y (aH (.inl (hu 17 rfl))) h1 Y).mono ?_;rintro r w'⟨hr,⟨V,d⟩,m⟩;exact⟨hr,⟨_,_,_,_,_,_,_,_,d,rfl,rfl,rfl,rfl,rfl⟩,m⟩) (eJ d_) (ft d_) (fun _=>fJ d_) (fun a' _ _ _ _ h=>by rw[h.1];exact M)).mono ?_
  rintro r w'⟨hr,O,m⟩;refine⟨hr,fun _=>?_,m⟩;obtain⟨a1,q,r1,l1,p1,V,ao,al,d,q1,q2,q3,q4,q5⟩:=O rfl;subst q2 q3 q4 q5;exact⟨a1,_,_,_,_,_,_,_,d,by show a1=((pc+1:Nat):Int);omega,by rw[List.map_cons,BW],rfl,rfl,rfl⟩
 ·obtain⟨l1,l2,l3⟩:=I d_ d_ d_ d_
  obtain⟨a,s,rfl⟩:=cH (show 1≤K.length from l1);have hd:doN E 18 y pc ((a::s).map (·.2)) (Q.map (·.2)) (bU L) g=(0,⟨pc+1,s.map (·.2),(Q.map (·.2)).set y.toNat a.2,bU L,g⟩):=rfl;rw[hd]
  refine(i 0 (φ4:=eqS (pc:Int) (s) (Q.set y.toNat a) L g) (fun w1 X hB hR=>by
   obtain⟨_,_,_,_,_,A,C,H,h1,rfl,rfl,rfl,rfl,rfl⟩:=hR;refine(xU y (aH (.inr (hu 18 rfl))) a h1 z9).mono ?_;rintro r w'⟨hr,⟨V,d⟩,m⟩;exact⟨hr,⟨_,_,_,_,_,_,_,_,d,rfl,rfl,rfl,rfl,rfl⟩,m⟩) (eJ d_) (ft d_) (fun _=>fJ d_) (fun a' _ _ _ _ h=>by rw[h.1];exact M)).mono ?_
  rintro r w'⟨hr,O,m⟩;refine⟨hr,fun _=>?_,m⟩;obtain⟨a1,q,r1,l1,p1,V,ao,al,d,q1,q2,q3,q4,q5⟩:=O rfl;subst q2 q3 q4 q5;exact⟨a1,_,_,_,_,_,_,_,d,by show a1=((pc+1:Nat):Int);omega,rfl,by rw[DQ],rfl,rfl⟩
 ·obtain⟨e,e1,e2,e3,e4,e5,e6,-⟩:=fy G u (.inl (hu 19 rfl))
  rw[←ab,Js]at e5;obtain⟨a,s,rfl⟩:=cH e5;have hd:doN E 19 y pc ((a::s).map (·.2)) (Q.map (·.2)) (bU L) g=(0,⟨if a.2.1=0 then (E.ends.getD pc 0).toNat+1 else pc+1,s.map (·.2),Q.map (·.2),bU L,g⟩):=rfl;rw[hd];have S:pc<E.ends.length:=by rw[aS];exact u
  have av:E.ends.getD pc 0=E.ends[pc]:=by rw[List.getD_eq_getElem?_getD,List.getElem?_eq_getElem S];rfl
  have hv:(if a.2.1=0 then E.ends[pc] else (pc:Int))+1=((if a.2.1=0 then (E.ends.getD pc 0).toNat+1 else pc+1:Nat):Int):=by
   split
   ·rw[e3]at av⊢;rw[←av];simp
   ·simp
  have hb:-1≤(if a.2.1=0 then E.ends[pc] else (pc:Int))∧(if a.2.1=0 then E.ends[pc] else (pc:Int))≤1000:=by
   split
   ·rw[←av,e3];omega
   ·exact M
  refine(i 0 (φ4:=eqS (if a.2.1=0 then E.ends[pc] else (pc:Int)) s Q L g) (fu d_) (eJ d_) (ft d_) (fun _=>fun w1 X hB hR=>by
   obtain⟨_,_,_,_,_,A,C,H,h1,rfl,rfl,rfl,rfl,rfl⟩:=hR;refine(Bd y a pc h1 z9 (fun w' h2=>hJ w1 w' hB h2) S Y).mono ?_;rintro r w'⟨hr,⟨V,d⟩,m⟩;exact⟨hr,⟨_,_,_,_,_,_,_,_,d,rfl,rfl,rfl,rfl,rfl⟩,m⟩) (fun a' _ _ _ _ h=>by rw[h.1];exact hb)).mono ?_
  rintro r w'⟨hr,O,m⟩;refine⟨hr,fun _=>?_,m⟩;obtain⟨a1,q,r1,l1,p1,V,ao,al,d,q1,q2,q3,q4,q5⟩:=O rfl;subst q2 q3 q4 q5;exact⟨a1,_,_,_,_,_,_,_,d,by rw[←hv,←q1];omega,rfl,rfl,rfl,rfl⟩
 ·obtain⟨e,e1,e2,e3,e4,e5⟩:=us G u (hu 20 rfl)
  have hd:doN E 20 y pc (K.map (·.2)) (Q.map (·.2)) (bU L) g=(0,⟨(E.ends.getD pc 0).toNat,K.map (·.2),Q.map (·.2),bU L,g⟩):=rfl;rw[hd];have S:pc<E.ends.length:=by rw[aS];exact u
  have av:E.ends.getD pc 0=E.ends[pc]:=by rw[List.getD_eq_getElem?_getD,List.getElem?_eq_getElem S];rfl
  rw[e3]at av
  refine(i 0 (φ4:=eqS (E.ends[pc]-1) K Q L g) (fu d_) (eJ d_) (ft d_) (fun _=>fun w1 X hB hR=>by
   obtain⟨_,_,_,_,_,A,C,H,h1,rfl,rfl,rfl,rfl,rfl⟩:=hR;refine(vt y pc h1 (hE w1 hB).e S Y (by rw[←av];omega)).mono ?_;rintro r w'⟨hr,d,m⟩;exact⟨hr,⟨_,_,_,_,_,_,_,_,d,rfl,rfl,rfl,rfl,rfl⟩,m⟩) (fun a' _ _ _ _ h=>by rw[h.1,←av];omega)).mono ?_
  rintro r w'⟨hr,O,m⟩;refine⟨hr,fun _=>?_,m⟩;obtain⟨a1,q,r1,l1,p1,V,ao,al,d,q1,q2,q3,q4,q5⟩:=O rfl;subst q2 q3 q4 q5;exact⟨a1,_,_,_,_,_,_,_,d,by show a1=(((E.ends.getD pc 0).toNat:Nat):Int);rw[e3];rw[←av]at q1;omega,rfl,rfl,rfl,rfl⟩
 ·have hd:doN E 21 y pc (K.map (·.2)) (Q.map (·.2)) (bU L) g=if fK E pc=true then (match bU L with|(a,p::ps)::o=>(0,⟨a+1,(0,p)::K.map (·.2),Q.map (·.2),(a,ps)::o,g⟩)|(_,[])::o=>(0,⟨pc+1,K.map (·.2),Q.map (·.2),o,g⟩)|[]=>(99,⟨pc,K.map (·.2),Q.map (·.2),bU L,g⟩)) else (0,⟨pc+1,K.map (·.2),Q.map (·.2),bU L,g⟩):=rfl
  rw[hd];have aO:opV E.code pc=21:=hu 21 rfl;obtain⟨j,bS,aG,aE⟩:=aw.at_ pc u aO;have aM:pc<own.length:=by rw[aw.len];exact u
  have aD:own[pc]=(j:Int):=by rw[←bS,List.getD_eq_getElem?_getD,List.getElem?_eq_getElem aM];rfl
  have aT:opV E.code j=E.code[j].1:=by unfold opV;rw[List.getD_eq_getElem?_getD,List.getElem?_eq_getElem aG];rfl
  rw[aT]at aE;have b4:own.length≤1000:=by rw[aw.len];omega
  cases aq:fK E pc with
  | false =>
   rw[if_neg i_];have aI:E.code[j].1≠22:=fun hh=>by rw[aE.1 hh]at aq;cases aq
   refine(i 0 (φ4:=eqS (pc:Int) K Q L g) (fu d_) (eJ d_) (ft d_) (fun _=>fun w1 X hB hR=>by
    obtain⟨_,_,_,_,_,A,C,H,h1,rfl,rfl,rfl,rfl,rfl⟩:=hR;refine(yd y pc j h1 (hE w1 hB).o (hE w1 hB).c aM b4 Y aD aG aI).mono ?_;rintro r w'⟨hr,m⟩;exact⟨hr,⟨_,_,_,_,_,_,_,_,h1.below m,rfl,rfl,rfl,rfl,rfl⟩,m.mono h1.size⟩) (fun a' _ _ _ _ h=>by rw[h.1];exact M)).mono ?_
   exact La
  | true =>
   rw[if_pos rfl];have B:E.code[j].1=22:=aE.2 aq;obtain⟨j',b',e1,e2,e3,e4,e5,e6,e7,e8⟩:=ur G u (hu 21 rfl);have bz:=jT e5 Y e4;rw[aq]at bz;rw[if_pos (e2.1 (by simpa using bz.symm))]at e6;rw[e6]at R
   cases an:bU L with
   | nil=>rw[an]at R;cases R
   | cons x o =>
    obtain⟨a,aB⟩:=x;obtain⟨l,e,rfl,ha,aK,az⟩:=Bu an;rw[an]at ax;have aV:e.ps.length≤1024:=by rw[aK];exact(ax _ (Jn ..)).1
    have aF:a=j':=by rw[an]at R;injection R
    subst ha aK;have aW:e.at_≤1000:=Y
    cases ar:e.ps with
    | nil =>
     refine(i 0 (φ4:=eqS (pc:Int) K Q l g) (fu d_) (eJ d_) (ft d_) (fun _=>fun w1 X hB hR=>by
      obtain⟨_,_,_,_,_,A,C,H,h1,rfl,rfl,rfl,rfl,rfl⟩:=hR;refine(oB y pc j h1 Y (by simp at aL;omega) Y (hE w1 hB).o (hE w1 hB).c aM b4 Y aD aG B).mono ?_;rintro r w'⟨hr,(⟨-,ao,d⟩|⟨p,ps,U,-⟩),m⟩
      ·exact⟨hr,⟨_,_,_,_,_,_,_,_,d,rfl,rfl,rfl,rfl,rfl⟩,m⟩
      ·rw[ar]at U;cases U) (fun a' _ _ _ _ h=>by rw[h.1];exact M)).mono ?_
     rintro r w'⟨hr,O,m⟩;refine⟨hr,fun _=>?_,m⟩;obtain⟨a1,q,r1,l1,p1,V,ao,al,d,q1,q2,q3,q4,q5⟩:=O rfl;subst q2 q3 q4 q5;exact⟨a1,_,_,_,_,_,_,_,d,by show a1=((pc+1:Nat):Int);omega,rfl,rfl,az,rfl⟩
    | cons p ps =>
     refine(i 0 (φ4:=fun a' s' r' l' p'=>a'=(e.at_:Int)∧s'=(true,0,p)::K∧r'=Q∧bU l'=(e.at_,ps)::bU l∧p'=g) (fu d_) (eJ d_) (ft d_) (fun _=>fun w1 X hB hR=>by
      obtain⟨_,_,_,_,_,A,C,H,h1,rfl,rfl,rfl,rfl,rfl⟩:=hR;refine(oB y pc j h1 Y (by simp at aL;omega) Y (hE w1 hB).o (hE w1 hB).c aM b4 Y aD aG B).mono ?_;rintro r w'⟨hr,(⟨U,-⟩|⟨p',aU,U,V,ao,e',am,af,d⟩),m⟩
      ·rw[ar]at U;cases U
      ·rw[ar]at U
       injection U with ae au
       subst ae au;exact⟨hr,⟨_,_,_,_,_,_,_,_,d,rfl,rfl,rfl,by rw[nO,am,af],rfl⟩,m⟩) (fun a' _ _ _ _ h=>by rw[h.1];omega)).mono ?_
     rintro r w'⟨hr,O,m⟩;refine⟨hr,fun _=>?_,m⟩;obtain⟨a1,q,r1,l1,p1,V,ao,al,d,q1,q2,q3,q4,q5⟩:=O rfl;subst q2 q3 q5;exact⟨a1,_,_,_,_,_,_,_,d,by show a1=((e.at_+1:Nat):Int);omega,rfl,rfl,by rw[q4,az],rfl⟩
 ·obtain⟨e,e1,e2,e3,e4,e5,e6,-⟩:=fy G u (.inr (hu 22 rfl))
  rw[←ab,Js]at e5;obtain⟨a,s,rfl⟩:=cH e5;have hd:doN E 22 y pc ((a::s).map (·.2)) (Q.map (·.2)) (bU L) g=(match cD a.2.2 y with|[]=>(0,⟨(E.ends.getD pc 0).toNat+1,s.map (·.2),Q.map (·.2),bU L,g⟩)|p::ps=>(0,⟨pc+1,(0,p)::s.map (·.2),Q.map (·.2),(pc,ps)::bU L,g⟩)):=rfl;rw[hd];have S:pc<E.ends.length:=by rw[aS];exact u
  have av:E.ends.getD pc 0=E.ends[pc]:=by rw[List.getD_eq_getElem?_getD,List.getElem?_eq_getElem S];rfl
  rw[e3]at av
  cases aP:cD a.2.2 y with
  | nil =>
   refine(i 0 (φ4:=eqS E.ends[pc] s Q L g) (fu d_) (eJ d_) (ft d_) (fun _=>fun w1 X hB hR=>by
    obtain⟨_,_,_,_,_,A,C,H,h1,rfl,rfl,rfl,rfl,rfl⟩:=hR;refine(oD y a pc h1 z9 Y (z a i_).2.2 (fun w' h2=>hJ w1 w' hB h2) S Y).mono ?_;rintro r w'⟨hr,(⟨-,V,d⟩|⟨p,ps,U,-⟩),m⟩
    ·exact⟨hr,⟨_,_,_,_,_,_,_,_,d,rfl,rfl,rfl,rfl,rfl⟩,m⟩
    ·rw[aP]at U;cases U) (fun a' _ _ _ _ h=>by rw[h.1,←av];omega)).mono ?_
   rintro r w'⟨hr,O,m⟩;refine⟨hr,fun _=>?_,m⟩;obtain⟨a1,q,r1,l1,p1,V,ao,al,d,q1,q2,q3,q4,q5⟩:=O rfl;subst q2 q3 q4 q5;exact⟨a1,_,_,_,_,_,_,_,d,by show a1=(((E.ends.getD pc 0).toNat+1:Nat):Int);rw[e3];rw[←av]at q1;omega,rfl,rfl,rfl,rfl⟩
  | cons p ps =>
   refine(i 0 (φ4:=fun a' s' r' l' p'=>a'=(pc:Int)∧s'=(true,0,p)::s∧r'=Q∧bU l'=(pc,ps)::bU L∧p'=g) (fu d_) (eJ d_) (ft d_) (fun _=>fun w1 X hB hR=>by
    obtain⟨_,_,_,_,_,A,C,H,h1,rfl,rfl,rfl,rfl,rfl⟩:=hR;refine(oD y a pc h1 z9 Y (z a i_).2.2 (fun w' h2=>hJ w1 w' hB h2) S Y).mono ?_;rintro r w'⟨hr,(⟨U,-⟩|⟨p',aU,U,V,ao,e',am,af,d⟩),m⟩
    ·rw[aP]at U;cases U
    ·rw[aP]at U
     injection U with ae au
     subst ae au;exact⟨hr,⟨_,_,_,_,_,_,_,_,d,rfl,rfl,rfl,by rw[nO,am,af],rfl⟩,m⟩) (fun a' _ _ _ _ h=>by rw[h.1];exact M)).mono ?_
   rintro r w'⟨hr,O,m⟩;refine⟨hr,fun _=>?_,m⟩;obtain⟨a1,q,r1,l1,p1,V,ao,al,d,q1,q2,q3,q4,q5⟩:=O rfl;subst q2 q3 q5;exact⟨a1,_,_,_,_,_,_,_,d,by show a1=((pc+1:Nat):Int);omega,rfl,rfl,q4,rfl⟩
 ·obtain⟨l1,l2,l3⟩:=I d_ d_ d_ d_
  obtain⟨b,a,s,rfl⟩:=dE (show 2≤K.length from l1);have hd:doN E 23 y pc ((b::a::s).map (·.2)) (Q.map (·.2)) (bU L) g=if 256≤g.length then (4,⟨pc,(b::a::s).map (·.2),Q.map (·.2),bU L,g⟩) else (0,⟨pc+1,s.map (·.2),Q.map (·.2),bU L,g++[(a.2.2,b.2.2)]⟩):=rfl;rw[hd]
  by_cases hc:256≤g.length
  ·rw[if_pos hc]
   refine(i 4 (φ3:=eqS (pc:Int) s Q L g) (φ4:=eqS (pc:Int) s Q L g) (fu d_) (eJ d_) (fun w1 X hB hR=>by
    obtain⟨_,_,_,_,_,A,C,H,h1,rfl,rfl,rfl,rfl,rfl⟩:=hR;exact(ye y h1 hc aj).mono fun r w' ⟨hr,m⟩=>⟨hr,fun h=>absurd h d_,m⟩) (fun h=>absurd h d_) (fun a' _ _ _ _ h=>by rw[h.1];exact M)).mono ?_
   rintro r w'⟨hr,-,m⟩;exact⟨hr,fun h=>absurd h i_,m⟩
  ·rw[if_neg hc]
   refine(i 0 (φ4:=eqS (pc:Int) (s) Q L (g++[(a.2.2,b.2.2)])) (fu d_) (eJ d_) (fun w1 X hB hR=>by
    obtain⟨_,_,_,_,_,A,C,H,h1,rfl,rfl,rfl,rfl,rfl⟩:=hR;refine(Be y a b h1 z9 hc).mono ?_;rintro r w'⟨hr,⟨V,al,d⟩,m⟩;exact⟨hr,fun _=>⟨_,_,_,_,_,_,_,_,d,rfl,rfl,rfl,rfl,rfl⟩,m⟩) (fun _=>fJ d_) (fun a' _ _ _ _ h=>by rw[h.1];exact M)).mono ?_
   exact La
end
structure Jb where
 mt:LL_
 mc:LJ_
 jt:LL_
 jc:LJ_
 tt:LL_
 tc:LJ_
 parts:Int
 fuel:Int
def bO (j:Jb):Nat×Nat×Nat :=
 if (az j.mt j.mc 1).2.1≠0 then (1,(az j.mt j.mc 1).1,(az j.mt j.mc 1).2.1)
 else if (az j.jt j.jc 2).2.1≠0 then (2,(az j.jt j.jc 2).1,(az j.jt j.jc 2).2.1)
 else if (az j.tt j.tc 3).2.1≠0 then (3,(az j.tt j.tc 3).1,(az j.tt j.tc 3).2.1)
 else if j.parts<1∨16<j.parts∨j.fuel<1∨65536<j.fuel then (0,0,2) else (0,0,0)
def bK (j:Jb):Bool:=(bO j).2.2==0
theorem tY {j:Jb}(h:bK j=true):((az j.mt j.mc 1).2.1=0∧(az j.jt j.jc 2).2.1=0∧(az j.tt j.tc 3).2.1=0)∧1≤j.parts∧j.parts≤16∧1≤j.fuel∧j.fuel≤65536:=by
 unfold bK bO at h
 split at h
 ·rename_i h1;exact absurd yze h1
 rename_i h1
 split at h
 ·rename_i h2;exact absurd yze h2
 rename_i h2
 split at h
 ·rename_i h3;exact absurd yze h3
 rename_i h3
 split at h
 ·simp at h
 rename_i h4;exact⟨⟨Decidable.byContradiction h1,Decidable.byContradiction h2,Decidable.byContradiction h3⟩,by omega,by omega,by omega,by omega⟩
def dR (texts:LL_)(I:LJ_)(ag:U8_)(ins:LL_)(aa:Int):Bool :=
 (az texts I ag).2.1==0&&ins.length==inputsV ag&&decide (0≤aa∧aa≤65536)&&ins.all fun s=>decide (s.length≤1024)
def vmV (texts:LL_)(I:LJ_)(ag:U8_)(ins:LL_)(aa:Int):Nat×LX_×q :=
 if dR texts I ag ins aa=true then rB ⟨texts,I,ins,(az texts I ag).2.2.ends⟩ ag aa.toNat else (2,[],[])
theorem xF {texts:LL_}{I:LJ_}{ag:U8_}{ins:LL_}{aa:Int}(h:dR texts I ag ins aa=false):vmV texts I ag ins aa=(2,[],[]):=by
 unfold vmV;rw[if_neg (by rw[h];simp)]
theorem tn {texts:LL_}{I:LJ_}{ag:U8_}{ins:LL_}{aa:Int}(h:dR texts I ag ins aa=true):vmV texts I ag ins aa=rB ⟨texts,I,ins,(az texts I ag).2.2.ends⟩ ag aa.toNat:=by
 unfold vmV;rw[if_pos h]
theorem gm {texts:LL_}{I:LJ_}{ag:U8_}{ins:LL_}{aa:Int}(h:dR texts I ag ins aa=true):(az texts I ag).2.1=0∧ins.length=inputsV ag∧0≤aa∧aa≤65536∧∀ s∈ins,s.length≤1024:=by
 unfold dR at h;simp only[Jj,beq_iff_eq,decide_eq_true_eq,List.all_eq_true]at h;obtain⟨⟨⟨h1,h2⟩,h3,h4⟩,h5⟩:=h;exact⟨h1,h2,h3,h4,h5⟩
theorem s6 {texts:LL_}{I:LJ_}{ag:U8_}{ins:LL_}{aa:Int}(h1:(az texts I ag).2.1=0)(h2:ins.length=inputsV ag)(h3:0≤aa)(h4:aa≤65536)(h5:∀ s∈ins,s.length≤1024):dR texts I ag ins aa=true:=by
 unfold dR;simp only[Jj,beq_iff_eq,decide_eq_true_eq,List.all_eq_true];exact⟨⟨⟨h1,h2⟩,h3,h4⟩,h5⟩