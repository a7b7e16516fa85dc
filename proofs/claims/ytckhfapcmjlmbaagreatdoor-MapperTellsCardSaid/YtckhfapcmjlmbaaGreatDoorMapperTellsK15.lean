/- Lemmas for MapperTells: walks, plain laws. -/
import Derived.Test.YtckhfapcmjlmbaaGreatDoorMapperTellsK13
import Derived.Test.YtckhfapcmjlmbaaGreatDoorMapperTellsK14
set_option linter.unusedSimpArgs false
set_option linter.unusedVariables false
set_option maxRecDepth 100000
set_option maxHeartbeats 16000000
namespace Go.Proofs.YtckhfapcmjlmbaaGreatDoor
open Go.RowKit Oct
section
def bB (los:List Lo):List (Nat×LL_):=los.reverse.map fun e=>(e.at_,e.ps)
theorem k8 (los:List Lo)(e:Lo):bB (los++[e])=(e.at_,e.ps)::bB los:=by unfold bB;rw[List.reverse_append];rfl
theorem rK (los:List Lo):(bB los).length=los.length:=by unfold bB;simp
theorem wU {los:List Lo}{a:Nat}{ps:LL_}{o:List (Nat×LL_)}(h:bB los=(a,ps)::o):∃ l e,los=l++[e]∧e.at_=a∧e.ps=ps∧bB l=o:=by
 rcases List.eq_nil_or_concat los with rfl|⟨l,e,rfl⟩
 ·cases h
 ·rw[List.concat_eq_append,k8]at h
  exact GO
def stS (at_:Int)(st rg:List MV)(op:List (Nat×LL_))(pr:List (LU_×LU_)):StR:=fun a s r l p=>a=at_∧s.map (·.2)=st∧r.map (·.2)=rg∧bB l=op∧p=pr
structure CU (w:World) (E:Me) (tv cv iv ev ow:Value) (own:List Int):Prop where
 t:aK.Row w tv E.tx
 c:bp.Row w cv E.code
 i:aK.Row w iv E.ins
 e:bf.Row w ev E.ends
 o:bf.Row w ow own
 g:cU w
structure Bm (E:Me) (own:List Int):Prop where
 len:own.length=E.code.length
 at_:∀ i,i<E.code.length→opV E.code i=21→∃ j:Nat,own.getD i 0=(j:Int)∧j<E.code.length∧(opV E.code j=22↔ey E i=true)
section
variable {bZ G n:Nat}{y:UInt8}{w0 w w':World}{f:Rf}{φ:StR}
theorem ed (hn:n≠1∧n≠2∧n≠3∧n≠14∧n≠15∧n≠16∧n≠17∧n≠18):xL bZ G f 222 n y w0 φ φ :=
 fun w1 X _ h=>(wG n y w1 hn).mono fun r w' ⟨hr,hB⟩=>⟨hr,h.below hB,hB.mono h.size⟩
theorem dA (hn:n≠8∧n≠13∧n≠9∧n≠10∧n≠11):xL bZ G f 223 n y w0 φ φ :=
 fun w1 X _ h=>(n6 n y w1 hn).mono fun r w' ⟨hr,hB⟩=>⟨hr,h.below hB,hB.mono h.size⟩
theorem eb (hn:n≠4∧n≠5∧n≠6∧n≠7∧n≠12∧n≠23):∀ (w1:World) (X:List (Pt bZ)),Below bZ w0 w1→RS bZ w1 G f X φ→Calls Tryz.prog 224 #[.pointer (some ⟨G,0,none⟩),.agg #[.int .u8 (n:Int),.int .u8 (y.toNat:Int)]] w1 fun r w'=>r=.returned (.int .i64 ((0:Nat):Int))∧((0:Nat)=0→RS bZ w' G f X φ)∧Below bZ w1 w' :=
 fun w1 X _ h=>(qS n y w1 hn).mono fun r w' ⟨hr,hB⟩=>⟨hr,fun _=>h.below hB,hB.mono h.size⟩
theorem ew (hn:n≠19∧n≠20∧n≠22∧n≠21):xL bZ G f 225 n y w0 φ φ :=
 fun w1 X _ h=>by
  obtain⟨a,s,r,l,p,sv,lv,prv,h1,h2⟩:=h;exact(pZ n y h1 hn).mono fun r' w' ⟨hr,hB⟩=>⟨hr,⟨a,s,r,l,p,sv,lv,prv,h1.below hB,h2⟩,hB.mono h1.size⟩
end
section
variable {nt inp:Nat}{role:UInt8}{E:Me}
theorem xt (l:List RV)(i:Nat):(l.map (·.2)).getD i (0,[])=(l.getD i (false,0,[])).2:=by
 simp only[List.getD_eq_getElem?_getD,List.getElem?_map]
 cases l[i]?<;>rfl
theorem zg (l:List RV)(i:Nat)(v:RV):(l.set i v).map (·.2)=(l.map (·.2)).set i v.2:=List.map_set
theorem By {st:List RV}(h:∀ v∈st.map (·.2),vOk v):∀ v∈st,vOk v.2:=fun v hv=>h v.2 (List.mem_map_of_mem hv)
theorem Fk {T:Prop} (h:T:=by
 rintro r w' ⟨hr,hM',hB'⟩;refine⟨hr,fun _=>?_,hB'⟩;obtain⟨a1,s1,r1,l1,p1,sv',lv',pv',hm',q1,q2,q3,q4,q5⟩:=hM' rfl;subst q2 q3 q4 q5;exact⟨a1,_,_,_,_,_,_,_,hm',by show a1=((pc+1:Nat):Int);omega,rfl,rfl,rfl,rfl⟩
):T:=h
theorem wd {bZ Gb:Nat}{w:World}{tv cv iv ev ow:Value}{own:List Int}{pc:Nat}{st rg:List MV}{op:List (Nat×LL_)}{pr:List (LU_×LU_)}{n:Nat}{y:UInt8}{X:List (Pt bZ)}(G:ek nt inp role E)(hnt:nt≤1000)(hinp:inp≤1000)(hcl:E.code.length≤256)(h:OkM (sM nt inp role E) E ⟨pc,st,rg,op,pr⟩)(hpc:pc<E.code.length)(hn:(E.code.getD pc (0,0)).1.toNat=n)(hy:(E.code.getD pc (0,0)).2=y)(hM:RS bZ w Gb ⟨tv,cv,iv,ev,ow⟩ X (stS (pc:Int) st rg op pr))(hE:∀ w',Below bZ w w'→CU w' E tv cv iv ev ow own)(hown:Bm E own):Calls Tryz.prog 199 #[.pointer (some ⟨Gb,0,none⟩)] w fun r w'=>r=.returned (.int .i64 ((doN E n y pc st rg op pr).1:Int)) ∧((doN E n y pc st rg op pr).1=0→RS bZ w' Gb ⟨tv,cv,iv,ev,ow⟩ X (stS ((doN E n y pc st rg op pr).2.pc:Int) (doN E n y pc st rg op pr).2.st (doN E n y pc st rg op pr).2.rg (doN E n y pc st rg op pr).2.op (doN E n y pc st rg op pr).2.pr))∧Below bZ w w':=by
 obtain⟨at_,s0,r0,los,pr0,sv,lv,prv,hm,hat,hs,hr,hlo,hpr0⟩:=hM;subst hat hs hr hlo hpr0;have hst:(s0.map (·.2)).length=(sM nt inp role E pc).kinds.length:=h.st;have hopl:(bB los).map (·.1)=bq (sM nt inp role E pc):=h.op;have hsv:∀ v∈s0,vOk v.2:=By h.sv;have hov:∀ o∈bB los,o.2.length≤1024∧∀ p∈o.2,p.length≤1024:=h.ov;have hpr:pr0.length≤256:=h.pr;have hk16:=(G.run (DA hpc)).k;have hl16:s0.length≤16:=by rw[←Ed (f:=(·.2)),hst];exact hk16
 have hel:=nH G;have hrl:=hm.rl
 have heo:los.length≤256:=by
  have h1:=rT G (DA hpc);rw[←hopl,Ed,rK]at h1;omega
 have hx:aZ (E.code.getD pc (0,0))=true:=iq (P:=fun x=>aZ x=true) G.may hpc _
 have hx1:1≤(E.code.getD pc (0,0)).1.toNat∧(E.code.getD pc (0,0)).1.toNat≤23:=by
  unfold aZ at hx;simp at hx;exact hx.1
 obtain⟨hs,ho⟩:=G.step hpc;obtain⟨g1,g3,g17,g23⟩:=jE ho.th;have hu:∀ k:UInt8,k.toNat=n→(E.code.getD pc (0,0)).1=k:=fun k hk=>UInt8.toNat_inj.1 (hn.trans hk.symm);have hpl:=fun (h19:n≠19) (h20:n≠20) (h21:n≠21) (h22:n≠22)=>jK G hpc hn (by omega) h19 h20 h21 h22;have hge:E.code.getD pc (0,0)=E.code[pc]:=by rw[List.getD_eq_getElem?_getD,List.getElem?_eq_getElem hpc];rfl
 rw[hn]at hx1;rw[←hst,Ed]at hpl;rw[hy]at g1 g3 g17;rw[hge]at hn hy;have hEw:=hE w (DF _ _);have hGl:∀ w1 w',Below bZ w w1→Below bZ w1 w'→cU w':=fun w1 w' h1 h2=>(hE w' (h1.trans h2)).g;have hJ:∀ w1 w',Below bZ w w1→Below bZ w1 w'→bf.Row w' ev E.ends:=fun w1 w' h1 h2=>(hE w' (h1.trans h2)).e;have hp0:-1≤(pc:Int)∧(pc:Int)≤1000:=by omega
 have hgen:=fun (c:Nat) {φ1 φ2 φ3 φ4:StR}=>wH (φ1:=φ1) (φ2:=φ2) (φ3:=φ3) (φ4:=φ4) pc n y c hm hEw.c hpc (by omega) hn.symm hy.symm;clear hx;rcases(show n=1∨n=2∨n=3∨n=4∨n=5∨n=6∨n=7∨n=8∨n=9∨n=10∨n=11∨n=12∨n=13∨n=14∨n=15∨n=16∨n=17∨n=18∨n=19∨n=20∨n=21∨n=22∨n=23 by omega) with rfl|rfl|rfl|rfl|rfl|rfl|rfl|rfl|rfl|rfl|rfl|rfl|rfl|rfl|rfl|rfl|rfl|rfl|rfl|rfl|rfl|rfl|rfl
 ·obtain⟨l1,l2,l3⟩:=hpl (by decide) (by decide) (by decide) (by decide)
  have hd:doN E 1 y pc (s0.map (·.2)) (r0.map (·.2)) (bB los) pr0=(0,⟨pc+1,(0,E.tx.getD y.toNat [])::s0.map (·.2),r0.map (·.2),bB los,pr0⟩):=rfl;rw[hd]
  refine(hgen 0 (φ4:=eqS (pc:Int) ((true,0,E.tx.getD y.toNat [])::s0) r0 los pr0) (fun w1 X hB hR=>by
   obtain⟨_,_,_,_,_,sv1,lv1,pv1,h1,rfl,rfl,rfl,rfl,rfl⟩:=hR;refine(qT y h1 (by omega) (hE w1 hB).t (by rw[G.txl];exact g1 (hu 1 rfl)) (by rw[G.txl];omega)).mono ?_;rintro r w' ⟨hr,⟨sv',hm'⟩,hB'⟩;exact⟨hr,⟨_,_,_,_,_,_,_,_,hm',rfl,rfl,rfl,rfl,rfl⟩,hB'⟩) (dA (by decide)) (eb (by decide)) (fun _=>ew (by decide)) (fun a' _ _ _ _ h=>by rw[h.1];exact hp0)).mono ?_
  rintro r w' ⟨hr,hM',hB'⟩;refine⟨hr,fun _=>?_,hB'⟩;obtain⟨a1,s1,r1,l1,p1,sv',lv',pv',hm',q1,q2,q3,q4,q5⟩:=hM' rfl;subst q2 q3 q4 q5;exact⟨a1,_,_,_,_,_,_,_,hm',by show a1=((pc+1:Nat):Int);omega,by rfl,rfl,rfl,rfl⟩
 ·obtain⟨l1,l2,l3⟩:=hpl (by decide) (by decide) (by decide) (by decide)
  have hd:doN E 2 y pc (s0.map (·.2)) (r0.map (·.2)) (bB los) pr0=(0,⟨pc+1,((y.toNat:Int),[])::s0.map (·.2),r0.map (·.2),bB los,pr0⟩):=rfl;rw[hd]
  refine(hgen 0 (φ4:=eqS (pc:Int) ((false,(y.toNat:Int),[])::s0) r0 los pr0) (fun w1 X hB hR=>by
   obtain⟨_,_,_,_,_,sv1,lv1,pv1,h1,rfl,rfl,rfl,rfl,rfl⟩:=hR;refine(tk y h1 (by omega)).mono ?_;rintro r w' ⟨hr,⟨sv',hm'⟩,hB'⟩;exact⟨hr,⟨_,_,_,_,_,_,_,_,hm',rfl,rfl,rfl,rfl,rfl⟩,hB'⟩) (dA (by decide)) (eb (by decide)) (fun _=>ew (by decide)) (fun a' _ _ _ _ h=>by rw[h.1];exact hp0)).mono ?_
  exact Fk
 ·obtain⟨l1,l2,l3⟩:=hpl (by decide) (by decide) (by decide) (by decide)
  have hd:doN E 3 y pc (s0.map (·.2)) (r0.map (·.2)) (bB los) pr0=(0,⟨pc+1,(0,E.ins.getD y.toNat [])::s0.map (·.2),r0.map (·.2),bB los,pr0⟩):=rfl;rw[hd]
  refine(hgen 0 (φ4:=eqS (pc:Int) ((true,0,E.ins.getD y.toNat [])::s0) r0 los pr0) (fun w1 X hB hR=>by
   obtain⟨_,_,_,_,_,sv1,lv1,pv1,h1,rfl,rfl,rfl,rfl,rfl⟩:=hR;refine(pW y h1 (by omega) (hE w1 hB).i (by rw[G.inl];exact g3 (hu 3 rfl)) (by rw[G.inl];omega)).mono ?_;rintro r w' ⟨hr,⟨sv',hm'⟩,hB'⟩;exact⟨hr,⟨_,_,_,_,_,_,_,_,hm',rfl,rfl,rfl,rfl,rfl⟩,hB'⟩) (dA (by decide)) (eb (by decide)) (fun _=>ew (by decide)) (fun a' _ _ _ _ h=>by rw[h.1];exact hp0)).mono ?_
  exact Fk
 ·obtain⟨l1,l2,l3⟩:=hpl (by decide) (by decide) (by decide) (by decide)
  obtain⟨b,a,s,rfl⟩:=cI (show 2≤s0.length from l1);have hd:doN E 4 y pc ((b::a::s).map (·.2)) (r0.map (·.2)) (bB los) pr0=if 1024<a.2.2.length+b.2.2.length then (5,⟨pc,(b::a::s).map (·.2),r0.map (·.2),bB los,pr0⟩) else (0,⟨pc+1,(0,a.2.2++b.2.2)::s.map (·.2),r0.map (·.2),bB los,pr0⟩):=rfl;rw[hd]
  by_cases hc:1024<a.2.2.length+b.2.2.length
  ·rw[if_pos hc]
   refine(hgen 5 (φ3:=eqS (pc:Int) s r0 los pr0) (φ4:=eqS (pc:Int) s r0 los pr0) (ed (by decide)) (dA (by decide)) (fun w1 X hB hR=>by
    obtain⟨_,_,_,_,_,sv1,lv1,pv1,h1,rfl,rfl,rfl,rfl,rfl⟩:=hR;exact(wF y a b h1 (by simp at hl16;omega) (hsv a (by simp)).2.2 (hsv b (by simp)).2.2 hc).mono fun r w' ⟨hr,hB'⟩=>⟨hr,fun h=>absurd h (by decide),hB'⟩) (fun h=>absurd h (by decide)) (fun a' _ _ _ _ h=>by rw[h.1];exact hp0)).mono ?_
   rintro r w' ⟨hr,-,hB'⟩;exact⟨hr,fun h=>absurd h (by simp),hB'⟩
  ·rw[if_neg hc]
   refine(hgen 0 (φ4:=eqS (pc:Int) ((true,0,a.2.2++b.2.2)::s) r0 los pr0) (ed (by decide)) (dA (by decide)) (fun w1 X hB hR=>by
    obtain⟨_,_,_,_,_,sv1,lv1,pv1,h1,rfl,rfl,rfl,rfl,rfl⟩:=hR;refine(yI y a b h1 (by simp at hl16;omega) (hsv a (by simp)).2.2 (hsv b (by simp)).2.2 hc).mono ?_;rintro r w' ⟨hr,⟨sv',hm'⟩,hB'⟩;exact⟨hr,fun _=>⟨_,_,_,_,_,_,_,_,hm',rfl,rfl,rfl,rfl,rfl⟩,hB'⟩) (fun _=>ew (by decide)) (fun a' _ _ _ _ h=>by rw[h.1];exact hp0)).mono ?_
   exact Fk
 ·obtain⟨l1,l2,l3⟩:=hpl (by decide) (by decide) (by decide) (by decide)
  obtain⟨a,s,rfl⟩:=bQ (show 1≤s0.length from l1);have hd:doN E 5 y pc ((a::s).map (·.2)) (r0.map (·.2)) (bB los) pr0=(0,⟨pc+1,((a.2.2.length:Int),[])::s.map (·.2),r0.map (·.2),bB los,pr0⟩):=rfl;rw[hd]
  refine(hgen 0 (φ4:=eqS (pc:Int) ((false,(a.2.2.length:Int),[])::s) r0 los pr0) (ed (by decide)) (dA (by decide)) (fun w1 X hB hR=>by
   obtain⟨_,_,_,_,_,sv1,lv1,pv1,h1,rfl,rfl,rfl,rfl,rfl⟩:=hR;refine(yw y a h1 (by simp at hl16;omega) (hsv a (by simp)).2.2).mono ?_;rintro r w' ⟨hr,⟨sv',hm'⟩,hB'⟩;exact⟨hr,fun _=>⟨_,_,_,_,_,_,_,_,hm',rfl,rfl,rfl,rfl,rfl⟩,hB'⟩) (fun _=>ew (by decide)) (fun a' _ _ _ _ h=>by rw[h.1];exact hp0)).mono ?_
  exact Fk
 ·obtain⟨l1,l2,l3⟩:=hpl (by decide) (by decide) (by decide) (by decide)
  obtain⟨b,a,t,s,rfl⟩:=mD (show 3≤s0.length from l1);have hd:doN E 6 y pc ((b::a::t::s).map (·.2)) (r0.map (·.2)) (bB los) pr0=(0,⟨pc+1,(0,fM t.2.2 a.2.1 b.2.1)::s.map (·.2),r0.map (·.2),bB los,pr0⟩):=rfl;rw[hd]
  refine(hgen 0 (φ4:=eqS (pc:Int) ((true,0,fM t.2.2 a.2.1 b.2.1)::s) r0 los pr0) (ed (by decide)) (dA (by decide)) (fun w1 X hB hR=>by
   obtain⟨_,_,_,_,_,sv1,lv1,pv1,h1,rfl,rfl,rfl,rfl,rfl⟩:=hR;refine(qV y b a t h1 (by simp at hl16;omega) (hsv b (by simp)) (hsv a (by simp)) (hsv t (by simp))).mono ?_;rintro r w' ⟨hr,⟨sv',hm'⟩,hB'⟩;exact⟨hr,fun _=>⟨_,_,_,_,_,_,_,_,hm',rfl,rfl,rfl,rfl,rfl⟩,hB'⟩) (fun _=>ew (by decide)) (fun a' _ _ _ _ h=>by rw[h.1];exact hp0)).mono ?_
  exact Fk
 ·obtain⟨l1,l2,l3⟩:=hpl (by decide) (by decide) (by decide) (by decide)
  obtain⟨a,s,rfl⟩:=bQ (show 1≤s0.length from l1);have hd:doN E 7 y pc ((a::s).map (·.2)) (r0.map (·.2)) (bB los) pr0=(0,⟨pc+1,(b_Z a.2.2,[])::s.map (·.2),r0.map (·.2),bB los,pr0⟩):=rfl;rw[hd]
  refine(hgen 0 (φ4:=eqS (pc:Int) ((false,b_Z a.2.2,[])::s) r0 los pr0) (ed (by decide)) (dA (by decide)) (fun w1 X hB hR=>by
   obtain⟨_,_,_,_,_,sv1,lv1,pv1,h1,rfl,rfl,rfl,rfl,rfl⟩:=hR;refine(pT y a h1 (by simp at hl16;omega) (hsv a (by simp)).2.2 (fun w' h2=>hGl w1 w' hB h2)).mono ?_;rintro r w' ⟨hr,⟨sv',hm'⟩,hB'⟩;exact⟨hr,fun _=>⟨_,_,_,_,_,_,_,_,hm',rfl,rfl,rfl,rfl,rfl⟩,hB'⟩) (fun _=>ew (by decide)) (fun a' _ _ _ _ h=>by rw[h.1];exact hp0)).mono ?_
  exact Fk
 ·obtain⟨l1,l2,l3⟩:=hpl (by decide) (by decide) (by decide) (by decide)
  obtain⟨a,s,rfl⟩:=bQ (show 1≤s0.length from l1);have hd:doN E 8 y pc ((a::s).map (·.2)) (r0.map (·.2)) (bB los) pr0=(0,⟨pc+1,(0,Lib.itoa a.2.1)::s.map (·.2),r0.map (·.2),bB los,pr0⟩):=rfl;rw[hd]
  refine(hgen 0 (φ4:=eqS (pc:Int) ((true,0,Lib.itoa a.2.1)::s) r0 los pr0) (ed (by decide)) (fun w1 X hB hR=>by
   obtain⟨_,_,_,_,_,sv1,lv1,pv1,h1,rfl,rfl,rfl,rfl,rfl⟩:=hR;refine(we y a h1 (by simp at hl16;omega) (hsv a (by simp)) (fun w' h2=>hGl w1 w' hB h2)).mono ?_;rintro r w' ⟨hr,⟨sv',hm'⟩,hB'⟩;exact⟨hr,⟨_,_,_,_,_,_,_,_,hm',rfl,rfl,rfl,rfl,rfl⟩,hB'⟩) (eb (by decide)) (fun _=>ew (by decide)) (fun a' _ _ _ _ h=>by rw[h.1];exact hp0)).mono ?_
  exact Fk
 ·obtain⟨l1,l2,l3⟩:=hpl (by decide) (by decide) (by decide) (by decide)
  obtain⟨b,a,s,rfl⟩:=cI (show 2≤s0.length from l1);have hd:doN E 9 y pc ((b::a::s).map (·.2)) (r0.map (·.2)) (bB los) pr0=(0,⟨pc+1,(wrap64 (a.2.1+b.2.1),[])::s.map (·.2),r0.map (·.2),bB los,pr0⟩):=rfl;rw[hd]
  refine(hgen 0 (φ4:=eqS (pc:Int) ((false,wrap64 (a.2.1+b.2.1),[])::s) r0 los pr0) (ed (by decide)) (fun w1 X hB hR=>by
   obtain⟨_,_,_,_,_,sv1,lv1,pv1,h1,rfl,rfl,rfl,rfl,rfl⟩:=hR;refine(yJ y a b h1 (by simp at hl16;omega)).mono ?_;rintro r w' ⟨hr,⟨sv',hm'⟩,hB'⟩;exact⟨hr,⟨_,_,_,_,_,_,_,_,hm',rfl,rfl,rfl,rfl,rfl⟩,hB'⟩) (eb (by decide)) (fun _=>ew (by decide)) (fun a' _ _ _ _ h=>by rw[h.1];exact hp0)).mono ?_
  exact Fk
 ·obtain⟨l1,l2,l3⟩:=hpl (by decide) (by decide) (by decide) (by decide)
  obtain⟨b,a,s,rfl⟩:=cI (show 2≤s0.length from l1);have hd:doN E 10 y pc ((b::a::s).map (·.2)) (r0.map (·.2)) (bB los) pr0=(0,⟨pc+1,(wrap64 (a.2.1*b.2.1),[])::s.map (·.2),r0.map (·.2),bB los,pr0⟩):=rfl;rw[hd]
  refine(hgen 0 (φ4:=eqS (pc:Int) ((false,wrap64 (a.2.1*b.2.1),[])::s) r0 los pr0) (ed (by decide)) (fun w1 X hB hR=>by
   obtain⟨_,_,_,_,_,sv1,lv1,pv1,h1,rfl,rfl,rfl,rfl,rfl⟩:=hR;refine(yv y a b h1 (by simp at hl16;omega)).mono ?_;rintro r w' ⟨hr,⟨sv',hm'⟩,hB'⟩;exact⟨hr,⟨_,_,_,_,_,_,_,_,hm',rfl,rfl,rfl,rfl,rfl⟩,hB'⟩) (eb (by decide)) (fun _=>ew (by decide)) (fun a' _ _ _ _ h=>by rw[h.1];exact hp0)).mono ?_
  exact Fk
 ·obtain⟨l1,l2,l3⟩:=hpl (by decide) (by decide) (by decide) (by decide)
  obtain⟨b,a,s,rfl⟩:=cI (show 2≤s0.length from l1);have hd:doN E 11 y pc ((b::a::s).map (·.2)) (r0.map (·.2)) (bB los) pr0=(0,⟨pc+1,bitM (decide (a.2.1<b.2.1))::s.map (·.2),r0.map (·.2),bB los,pr0⟩):=rfl;rw[hd]
  refine(hgen 0 (φ4:=eqS (pc:Int) ((false,bitM (decide (a.2.1<b.2.1)))::s) r0 los pr0) (ed (by decide)) (fun w1 X hB hR=>by
   obtain⟨_,_,_,_,_,sv1,lv1,pv1,h1,rfl,rfl,rfl,rfl,rfl⟩:=hR;refine(wk y a b h1 (by simp at hl16;omega)).mono ?_;rintro r w' ⟨hr,⟨sv',hm'⟩,hB'⟩;exact⟨hr,⟨_,_,_,_,_,_,_,_,hm',rfl,rfl,rfl,rfl,rfl⟩,hB'⟩) (eb (by decide)) (fun _=>ew (by decide)) (fun a' _ _ _ _ h=>by rw[h.1];exact hp0)).mono ?_
  exact Fk
 ·obtain⟨l1,l2,l3⟩:=hpl (by decide) (by decide) (by decide) (by decide)
  obtain⟨b,a,s,rfl⟩:=cI (show 2≤s0.length from l1);have hd:doN E 12 y pc ((b::a::s).map (·.2)) (r0.map (·.2)) (bB los) pr0=(0,⟨pc+1,bitM (a.2.2==b.2.2)::s.map (·.2),r0.map (·.2),bB los,pr0⟩):=rfl;rw[hd]
  refine(hgen 0 (φ4:=eqS (pc:Int) ((false,bitM (a.2.2==b.2.2))::s) r0 los pr0) (ed (by decide)) (dA (by decide)) (fun w1 X hB hR=>by
   obtain⟨_,_,_,_,_,sv1,lv1,pv1,h1,rfl,rfl,rfl,rfl,rfl⟩:=hR;refine(wg y a b h1 (by simp at hl16;omega)).mono ?_;rintro r w' ⟨hr,⟨sv',hm'⟩,hB'⟩;exact⟨hr,fun _=>⟨_,_,_,_,_,_,_,_,hm',rfl,rfl,rfl,rfl,rfl⟩,hB'⟩) (fun _=>ew (by decide)) (fun a' _ _ _ _ h=>by rw[h.1];exact hp0)).mono ?_
  exact Fk
 ·obtain⟨l1,l2,l3⟩:=hpl (by decide) (by decide) (by decide) (by decide)
  obtain⟨a,s,rfl⟩:=bQ (show 1≤s0.length from l1);have hd:doN E 13 y pc ((a::s).map (·.2)) (r0.map (·.2)) (bB los) pr0=(0,⟨pc+1,bitM (a.2.1==0)::s.map (·.2),r0.map (·.2),bB los,pr0⟩):=rfl;rw[hd]
  refine(hgen 0 (φ4:=eqS (pc:Int) ((false,bitM (a.2.1==0))::s) r0 los pr0) (ed (by decide)) (fun w1 X hB hR=>by
   obtain⟨_,_,_,_,_,sv1,lv1,pv1,h1,rfl,rfl,rfl,rfl,rfl⟩:=hR;refine(yu y a h1 (by simp at hl16;omega)).mono ?_;rintro r w' ⟨hr,⟨sv',hm'⟩,hB'⟩;exact⟨hr,⟨_,_,_,_,_,_,_,_,hm',rfl,rfl,rfl,rfl,rfl⟩,hB'⟩) (eb (by decide)) (fun _=>ew (by decide)) (fun a' _ _ _ _ h=>by rw[h.1];exact hp0)).mono ?_
  exact Fk
 ·obtain⟨l1,l2,l3⟩:=hpl (by decide) (by decide) (by decide) (by decide)
  obtain⟨a,s,rfl⟩:=bQ (show 1≤s0.length from l1);have hd:doN E 14 y pc ((a::s).map (·.2)) (r0.map (·.2)) (bB los) pr0=(0,⟨pc+1,s.map (·.2),r0.map (·.2),bB los,pr0⟩):=rfl;rw[hd]
  refine(hgen 0 (φ4:=eqS (pc:Int) (s) r0 los pr0) (fun w1 X hB hR=>by
   obtain⟨_,_,_,_,_,sv1,lv1,pv1,h1,rfl,rfl,rfl,rfl,rfl⟩:=hR;refine(rm y a h1 (by simp at hl16;omega)).mono ?_;rintro r w' ⟨hr,⟨sv',hm'⟩,hB'⟩;exact⟨hr,⟨_,_,_,_,_,_,_,_,hm',rfl,rfl,rfl,rfl,rfl⟩,hB'⟩) (dA (by decide)) (eb (by decide)) (fun _=>ew (by decide)) (fun a' _ _ _ _ h=>by rw[h.1];exact hp0)).mono ?_
  exact Fk
 ·obtain⟨l1,l2,l3⟩:=hpl (by decide) (by decide) (by decide) (by decide)
  obtain⟨a,s,rfl⟩:=bQ (show 1≤s0.length from l1);have hd:doN E 15 y pc ((a::s).map (·.2)) (r0.map (·.2)) (bB los) pr0=(0,⟨pc+1,a.2::a.2::s.map (·.2),r0.map (·.2),bB los,pr0⟩):=rfl;rw[hd]
  refine(hgen 0 (φ4:=eqS (pc:Int) (a::a::s) r0 los pr0) (fun w1 X hB hR=>by
   obtain⟨_,_,_,_,_,sv1,lv1,pv1,h1,rfl,rfl,rfl,rfl,rfl⟩:=hR;refine(tD y a h1 (by simp at hl16;omega)).mono ?_;rintro r w' ⟨hr,⟨sv',hm'⟩,hB'⟩;exact⟨hr,⟨_,_,_,_,_,_,_,_,hm',rfl,rfl,rfl,rfl,rfl⟩,hB'⟩) (dA (by decide)) (eb (by decide)) (fun _=>ew (by decide)) (fun a' _ _ _ _ h=>by rw[h.1];exact hp0)).mono ?_
  exact Fk
 ·obtain⟨l1,l2,l3⟩:=hpl (by decide) (by decide) (by decide) (by decide)
  obtain⟨b,a,s,rfl⟩:=cI (show 2≤s0.length from l1);have hd:doN E 16 y pc ((b::a::s).map (·.2)) (r0.map (·.2)) (bB los) pr0=(0,⟨pc+1,a.2::b.2::s.map (·.2),r0.map (·.2),bB los,pr0⟩):=rfl;rw[hd]
  refine(hgen 0 (φ4:=eqS (pc:Int) (a::b::s) r0 los pr0) (fun w1 X hB hR=>by
   obtain⟨_,_,_,_,_,sv1,lv1,pv1,h1,rfl,rfl,rfl,rfl,rfl⟩:=hR;refine(qU y a b h1 (by simp at hl16;omega)).mono ?_;rintro r w' ⟨hr,⟨sv',hm'⟩,hB'⟩;exact⟨hr,⟨_,_,_,_,_,_,_,_,hm',rfl,rfl,rfl,rfl,rfl⟩,hB'⟩) (dA (by decide)) (eb (by decide)) (fun _=>ew (by decide)) (fun a' _ _ _ _ h=>by rw[h.1];exact hp0)).mono ?_
  exact Fk
 ·obtain⟨l1,l2,l3⟩:=hpl (by decide) (by decide) (by decide) (by decide)
  have hd:doN E 17 y pc (s0.map (·.2)) (r0.map (·.2)) (bB los) pr0=(0,⟨pc+1,(r0.map (·.2)).getD y.toNat (0,[])::s0.map (·.2),r0.map (·.2),bB los,pr0⟩):=rfl;rw[hd]
  refine(hgen 0 (φ4:=eqS (pc:Int) (r0.getD y.toNat (false,0,[])::s0) r0 los pr0) (fun w1 X hB hR=>by
   obtain⟨_,_,_,_,_,sv1,lv1,pv1,h1,rfl,rfl,rfl,rfl,rfl⟩:=hR;refine(tn y (g17 (.inl (hu 17 rfl))) h1 (by omega)).mono ?_;rintro r w' ⟨hr,⟨sv',hm'⟩,hB'⟩;exact⟨hr,⟨_,_,_,_,_,_,_,_,hm',rfl,rfl,rfl,rfl,rfl⟩,hB'⟩) (dA (by decide)) (eb (by decide)) (fun _=>ew (by decide)) (fun a' _ _ _ _ h=>by rw[h.1];exact hp0)).mono ?_
  rintro r w' ⟨hr,hM',hB'⟩;refine⟨hr,fun _=>?_,hB'⟩;obtain⟨a1,s1,r1,l1,p1,sv',lv',pv',hm',q1,q2,q3,q4,q5⟩:=hM' rfl;subst q2 q3 q4 q5;exact⟨a1,_,_,_,_,_,_,_,hm',by show a1=((pc+1:Nat):Int);omega,by rw[List.map_cons,xt],rfl,rfl,rfl⟩
 ·obtain⟨l1,l2,l3⟩:=hpl (by decide) (by decide) (by decide) (by decide)
  obtain⟨a,s,rfl⟩:=bQ (show 1≤s0.length from l1);have hd:doN E 18 y pc ((a::s).map (·.2)) (r0.map (·.2)) (bB los) pr0=(0,⟨pc+1,s.map (·.2),(r0.map (·.2)).set y.toNat a.2,bB los,pr0⟩):=rfl;rw[hd]
  refine(hgen 0 (φ4:=eqS (pc:Int) (s) (r0.set y.toNat a) los pr0) (fun w1 X hB hR=>by
   obtain⟨_,_,_,_,_,sv1,lv1,pv1,h1,rfl,rfl,rfl,rfl,rfl⟩:=hR;refine(tg y (g17 (.inr (hu 18 rfl))) a h1 (by simp at hl16;omega)).mono ?_;rintro r w' ⟨hr,⟨sv',hm'⟩,hB'⟩;exact⟨hr,⟨_,_,_,_,_,_,_,_,hm',rfl,rfl,rfl,rfl,rfl⟩,hB'⟩) (dA (by decide)) (eb (by decide)) (fun _=>ew (by decide)) (fun a' _ _ _ _ h=>by rw[h.1];exact hp0)).mono ?_
  rintro r w' ⟨hr,hM',hB'⟩;refine⟨hr,fun _=>?_,hB'⟩;obtain⟨a1,s1,r1,l1,p1,sv',lv',pv',hm',q1,q2,q3,q4,q5⟩:=hM' rfl;subst q2 q3 q4 q5;exact⟨a1,_,_,_,_,_,_,_,hm',by show a1=((pc+1:Nat):Int);omega,rfl,by rw[zg],rfl,rfl⟩
 ·obtain⟨e,e1,e2,e3,e4,e5,e6,-⟩:=eh G hpc (.inl (hu 19 rfl))
  rw[←hst,Ed]at e5;obtain⟨a,s,rfl⟩:=bQ e5;have hd:doN E 19 y pc ((a::s).map (·.2)) (r0.map (·.2)) (bB los) pr0=(0,⟨if a.2.1=0 then (E.ends.getD pc 0).toNat+1 else pc+1,s.map (·.2),r0.map (·.2),bB los,pr0⟩):=rfl;rw[hd];have hpe:pc<E.ends.length:=by rw[hel];exact hpc
  have hgd:E.ends.getD pc 0=E.ends[pc]:=by rw[List.getD_eq_getElem?_getD,List.getElem?_eq_getElem hpe];rfl
  have hv:(if a.2.1=0 then E.ends[pc] else (pc:Int))+1=((if a.2.1=0 then (E.ends.getD pc 0).toNat+1 else pc+1:Nat):Int):=by
   split
   ·rw[e3]at hgd⊢;rw[←hgd];simp
   ·simp
  have hb:-1≤(if a.2.1=0 then E.ends[pc] else (pc:Int))∧(if a.2.1=0 then E.ends[pc] else (pc:Int))≤1000:=by
   split
   ·rw[←hgd,e3];omega
   ·exact hp0
  refine(hgen 0 (φ4:=eqS (if a.2.1=0 then E.ends[pc] else (pc:Int)) s r0 los pr0) (ed (by decide)) (dA (by decide)) (eb (by decide)) (fun _=>fun w1 X hB hR=>by
   obtain⟨_,_,_,_,_,sv1,lv1,pv1,h1,rfl,rfl,rfl,rfl,rfl⟩:=hR;refine(wo y a pc h1 (by simp at hl16;omega) (fun w' h2=>hJ w1 w' hB h2) hpe (by omega)).mono ?_;rintro r w' ⟨hr,⟨sv',hm'⟩,hB'⟩;exact⟨hr,⟨_,_,_,_,_,_,_,_,hm',rfl,rfl,rfl,rfl,rfl⟩,hB'⟩) (fun a' _ _ _ _ h=>by rw[h.1];exact hb)).mono ?_
  rintro r w' ⟨hr,hM',hB'⟩;refine⟨hr,fun _=>?_,hB'⟩;obtain⟨a1,s1,r1,l1,p1,sv',lv',pv',hm',q1,q2,q3,q4,q5⟩:=hM' rfl;subst q2 q3 q4 q5;exact⟨a1,_,_,_,_,_,_,_,hm',by rw[←hv,←q1];omega,rfl,rfl,rfl,rfl⟩
 ·obtain⟨e,e1,e2,e3,e4,e5⟩:=qo G hpc (hu 20 rfl)
  have hd:doN E 20 y pc (s0.map (·.2)) (r0.map (·.2)) (bB los) pr0=(0,⟨(E.ends.getD pc 0).toNat,s0.map (·.2),r0.map (·.2),bB los,pr0⟩):=rfl;rw[hd];have hpe:pc<E.ends.length:=by rw[hel];exact hpc
  have hgd:E.ends.getD pc 0=E.ends[pc]:=by rw[List.getD_eq_getElem?_getD,List.getElem?_eq_getElem hpe];rfl
  rw[e3]at hgd
  refine(hgen 0 (φ4:=eqS (E.ends[pc]-1) s0 r0 los pr0) (ed (by decide)) (dA (by decide)) (eb (by decide)) (fun _=>fun w1 X hB hR=>by
   obtain⟨_,_,_,_,_,sv1,lv1,pv1,h1,rfl,rfl,rfl,rfl,rfl⟩:=hR;refine(qZ y pc h1 (hE w1 hB).e hpe (by omega) (by rw[←hgd];omega)).mono ?_;rintro r w' ⟨hr,hm',hB'⟩;exact⟨hr,⟨_,_,_,_,_,_,_,_,hm',rfl,rfl,rfl,rfl,rfl⟩,hB'⟩) (fun a' _ _ _ _ h=>by rw[h.1,←hgd];omega)).mono ?_
  rintro r w' ⟨hr,hM',hB'⟩;refine⟨hr,fun _=>?_,hB'⟩;obtain⟨a1,s1,r1,l1,p1,sv',lv',pv',hm',q1,q2,q3,q4,q5⟩:=hM' rfl;subst q2 q3 q4 q5;exact⟨a1,_,_,_,_,_,_,_,hm',by show a1=(((E.ends.getD pc 0).toNat:Nat):Int);rw[e3];rw[←hgd]at q1;omega,rfl,rfl,rfl,rfl⟩
 ·have hd:doN E 21 y pc (s0.map (·.2)) (r0.map (·.2)) (bB los) pr0=if ey E pc=true then (match bB los with|(a,p::ps)::o=>(0,⟨a+1,(0,p)::s0.map (·.2),r0.map (·.2),(a,ps)::o,pr0⟩)|(_,[])::o=>(0,⟨pc+1,s0.map (·.2),r0.map (·.2),o,pr0⟩)|[]=>(99,⟨pc,s0.map (·.2),r0.map (·.2),bB los,pr0⟩)) else (0,⟨pc+1,s0.map (·.2),r0.map (·.2),bB los,pr0⟩):=rfl
  rw[hd];have hop21:opV E.code pc=21:=hu 21 rfl;obtain⟨j,hj1,hj2,hj3⟩:=hown.at_ pc hpc hop21;have hpo:pc<own.length:=by rw[hown.len];exact hpc
  have hgo:own[pc]=(j:Int):=by rw[←hj1,List.getD_eq_getElem?_getD,List.getElem?_eq_getElem hpo];rfl
  have hjc:opV E.code j=E.code[j].1:=by unfold opV;rw[List.getD_eq_getElem?_getD,List.getElem?_eq_getElem hj2];rfl
  rw[hjc]at hj3;have hol:own.length≤1000:=by rw[hown.len];omega
  cases hle:ey E pc with
  | false =>
   rw[if_neg (by simp)];have hne:E.code[j].1≠22:=fun hh=>by rw[hj3.1 hh]at hle;cases hle
   refine(hgen 0 (φ4:=eqS (pc:Int) s0 r0 los pr0) (ed (by decide)) (dA (by decide)) (eb (by decide)) (fun _=>fun w1 X hB hR=>by
    obtain⟨_,_,_,_,_,sv1,lv1,pv1,h1,rfl,rfl,rfl,rfl,rfl⟩:=hR;refine(tu y pc j h1 (hE w1 hB).o (hE w1 hB).c hpo hol (by omega) hgo hj2 hne).mono ?_;rintro r w' ⟨hr,hB'⟩;exact⟨hr,⟨_,_,_,_,_,_,_,_,h1.below hB',rfl,rfl,rfl,rfl,rfl⟩,hB'.mono h1.size⟩) (fun a' _ _ _ _ h=>by rw[h.1];exact hp0)).mono ?_
   exact Fk
  | true =>
   rw[if_pos rfl];have h22:E.code[j].1=22:=hj3.2 hle;obtain⟨j',b',e1,e2,e3,e4,e5,e6,e7,e8⟩:=qn G hpc (hu 21 rfl);have hle2:=il e5 (by omega) e4;rw[hle]at hle2;rw[if_pos (e2.1 (by simpa using hle2.symm))]at e6;rw[e6]at hopl
   cases hops:bB los with
   | nil=>rw[hops]at hopl;cases hopl
   | cons x o =>
    obtain⟨a,ps0⟩:=x;obtain⟨l,e,rfl,ha,hps,ho2⟩:=wU hops;rw[hops]at hov;have hpl2:e.ps.length≤1024:=by rw[hps];exact(hov _ (D2 ..)).1
    have hal:a=j':=by rw[hops]at hopl;injection hopl
    subst ha hps;have hat0:e.at_≤1000:=by omega
    cases hpse:e.ps with
    | nil =>
     refine(hgen 0 (φ4:=eqS (pc:Int) s0 r0 l pr0) (ed (by decide)) (dA (by decide)) (eb (by decide)) (fun _=>fun w1 X hB hR=>by
      obtain⟨_,_,_,_,_,sv1,lv1,pv1,h1,rfl,rfl,rfl,rfl,rfl⟩:=hR;refine(lE y pc j h1 (by omega) (by simp at heo;omega) (by omega) (hE w1 hB).o (hE w1 hB).c hpo hol (by omega) hgo hj2 h22).mono ?_;rintro r w' ⟨hr,(⟨-,lv',hm'⟩|⟨p,ps,hpp,-⟩),hB'⟩
      ·exact⟨hr,⟨_,_,_,_,_,_,_,_,hm',rfl,rfl,rfl,rfl,rfl⟩,hB'⟩
      ·rw[hpse]at hpp;cases hpp) (fun a' _ _ _ _ h=>by rw[h.1];exact hp0)).mono ?_
     rintro r w' ⟨hr,hM',hB'⟩;refine⟨hr,fun _=>?_,hB'⟩;obtain⟨a1,s1,r1,l1,p1,sv',lv',pv',hm',q1,q2,q3,q4,q5⟩:=hM' rfl;subst q2 q3 q4 q5;exact⟨a1,_,_,_,_,_,_,_,hm',by show a1=((pc+1:Nat):Int);omega,rfl,rfl,ho2,rfl⟩
    | cons p ps =>
     refine(hgen 0 (φ4:=fun a' s' r' l' p'=>a'=(e.at_:Int)∧s'=(true,0,p)::s0∧r'=r0∧bB l'=(e.at_,ps)::bB l∧p'=pr0) (ed (by decide)) (dA (by decide)) (eb (by decide)) (fun _=>fun w1 X hB hR=>by
      obtain⟨_,_,_,_,_,sv1,lv1,pv1,h1,rfl,rfl,rfl,rfl,rfl⟩:=hR;refine(lE y pc j h1 (by omega) (by simp at heo;omega) (by omega) (hE w1 hB).o (hE w1 hB).c hpo hol (by omega) hgo hj2 h22).mono ?_;rintro r w' ⟨hr,(⟨hpp,-⟩|⟨p',ps',hpp,sv',lv',e',he1,he2,hm'⟩),hB'⟩
      ·rw[hpse]at hpp;cases hpp
      ·rw[hpse]at hpp
       injection hpp with hp1 hp2
       subst hp1 hp2;exact⟨hr,⟨_,_,_,_,_,_,_,_,hm',rfl,rfl,rfl,by rw[k8,he1,he2],rfl⟩,hB'⟩) (fun a' _ _ _ _ h=>by rw[h.1];omega)).mono ?_
     rintro r w' ⟨hr,hM',hB'⟩;refine⟨hr,fun _=>?_,hB'⟩;obtain⟨a1,s1,r1,l1,p1,sv',lv',pv',hm',q1,q2,q3,q4,q5⟩:=hM' rfl;subst q2 q3 q5;exact⟨a1,_,_,_,_,_,_,_,hm',by show a1=((e.at_+1:Nat):Int);omega,rfl,rfl,by rw[q4,ho2],rfl⟩
 ·obtain⟨e,e1,e2,e3,e4,e5,e6,-⟩:=eh G hpc (.inr (hu 22 rfl))
  rw[←hst,Ed]at e5;obtain⟨a,s,rfl⟩:=bQ e5;have hd:doN E 22 y pc ((a::s).map (·.2)) (r0.map (·.2)) (bB los) pr0=(match bN a.2.2 y with|[]=>(0,⟨(E.ends.getD pc 0).toNat+1,s.map (·.2),r0.map (·.2),bB los,pr0⟩)|p::ps=>(0,⟨pc+1,(0,p)::s.map (·.2),r0.map (·.2),(pc,ps)::bB los,pr0⟩)):=rfl;rw[hd];have hpe:pc<E.ends.length:=by rw[hel];exact hpc
  have hgd:E.ends.getD pc 0=E.ends[pc]:=by rw[List.getD_eq_getElem?_getD,List.getElem?_eq_getElem hpe];rfl
  rw[e3]at hgd
  cases hpi:bN a.2.2 y with
  | nil =>
   refine(hgen 0 (φ4:=eqS E.ends[pc] s r0 los pr0) (ed (by decide)) (dA (by decide)) (eb (by decide)) (fun _=>fun w1 X hB hR=>by
    obtain⟨_,_,_,_,_,sv1,lv1,pv1,h1,rfl,rfl,rfl,rfl,rfl⟩:=hR;refine(lG y a pc h1 (by simp at hl16;omega) (by omega) (hsv a (by simp)).2.2 (fun w' h2=>hJ w1 w' hB h2) hpe (by omega)).mono ?_;rintro r w' ⟨hr,(⟨-,sv',hm'⟩|⟨p,ps,hpp,-⟩),hB'⟩
    ·exact⟨hr,⟨_,_,_,_,_,_,_,_,hm',rfl,rfl,rfl,rfl,rfl⟩,hB'⟩
    ·rw[hpi]at hpp;cases hpp) (fun a' _ _ _ _ h=>by rw[h.1,←hgd];omega)).mono ?_
   rintro r w' ⟨hr,hM',hB'⟩;refine⟨hr,fun _=>?_,hB'⟩;obtain⟨a1,s1,r1,l1,p1,sv',lv',pv',hm',q1,q2,q3,q4,q5⟩:=hM' rfl;subst q2 q3 q4 q5;exact⟨a1,_,_,_,_,_,_,_,hm',by show a1=(((E.ends.getD pc 0).toNat+1:Nat):Int);rw[e3];rw[←hgd]at q1;omega,rfl,rfl,rfl,rfl⟩
  | cons p ps =>
   refine(hgen 0 (φ4:=fun a' s' r' l' p'=>a'=(pc:Int)∧s'=(true,0,p)::s∧r'=r0∧bB l'=(pc,ps)::bB los∧p'=pr0) (ed (by decide)) (dA (by decide)) (eb (by decide)) (fun _=>fun w1 X hB hR=>by
    obtain⟨_,_,_,_,_,sv1,lv1,pv1,h1,rfl,rfl,rfl,rfl,rfl⟩:=hR;refine(lG y a pc h1 (by simp at hl16;omega) (by omega) (hsv a (by simp)).2.2 (fun w' h2=>hJ w1 w' hB h2) hpe (by omega)).mono ?_;rintro r w' ⟨hr,(⟨hpp,-⟩|⟨p',ps',hpp,sv',lv',e',he1,he2,hm'⟩),hB'⟩
    ·rw[hpi]at hpp;cases hpp
    ·rw[hpi]at hpp
     injection hpp with hp1 hp2
     subst hp1 hp2;exact⟨hr,⟨_,_,_,_,_,_,_,_,hm',rfl,rfl,rfl,by rw[k8,he1,he2],rfl⟩,hB'⟩) (fun a' _ _ _ _ h=>by rw[h.1];exact hp0)).mono ?_
   rintro r w' ⟨hr,hM',hB'⟩;refine⟨hr,fun _=>?_,hB'⟩;obtain⟨a1,s1,r1,l1,p1,sv',lv',pv',hm',q1,q2,q3,q4,q5⟩:=hM' rfl;subst q2 q3 q5;exact⟨a1,_,_,_,_,_,_,_,hm',by show a1=((pc+1:Nat):Int);omega,rfl,rfl,q4,rfl⟩
 ·obtain⟨l1,l2,l3⟩:=hpl (by decide) (by decide) (by decide) (by decide)
  obtain⟨b,a,s,rfl⟩:=cI (show 2≤s0.length from l1);have hd:doN E 23 y pc ((b::a::s).map (·.2)) (r0.map (·.2)) (bB los) pr0=if 256≤pr0.length then (4,⟨pc,(b::a::s).map (·.2),r0.map (·.2),bB los,pr0⟩) else (0,⟨pc+1,s.map (·.2),r0.map (·.2),bB los,pr0++[(a.2.2,b.2.2)]⟩):=rfl;rw[hd]
  by_cases hc:256≤pr0.length
  ·rw[if_pos hc]
   refine(hgen 4 (φ3:=eqS (pc:Int) s r0 los pr0) (φ4:=eqS (pc:Int) s r0 los pr0) (ed (by decide)) (dA (by decide)) (fun w1 X hB hR=>by
    obtain⟨_,_,_,_,_,sv1,lv1,pv1,h1,rfl,rfl,rfl,rfl,rfl⟩:=hR;exact(tw y h1 hc hpr).mono fun r w' ⟨hr,hB'⟩=>⟨hr,fun h=>absurd h (by decide),hB'⟩) (fun h=>absurd h (by decide)) (fun a' _ _ _ _ h=>by rw[h.1];exact hp0)).mono ?_
   rintro r w' ⟨hr,-,hB'⟩;exact⟨hr,fun h=>absurd h (by simp),hB'⟩
  ·rw[if_neg hc]
   refine(hgen 0 (φ4:=eqS (pc:Int) (s) r0 los (pr0++[(a.2.2,b.2.2)])) (ed (by decide)) (dA (by decide)) (fun w1 X hB hR=>by
    obtain⟨_,_,_,_,_,sv1,lv1,pv1,h1,rfl,rfl,rfl,rfl,rfl⟩:=hR;refine(ws y a b h1 (by simp at hl16;omega) hc).mono ?_;rintro r w' ⟨hr,⟨sv',pv',hm'⟩,hB'⟩;exact⟨hr,fun _=>⟨_,_,_,_,_,_,_,_,hm',rfl,rfl,rfl,rfl,rfl⟩,hB'⟩) (fun _=>ew (by decide)) (fun a' _ _ _ _ h=>by rw[h.1];exact hp0)).mono ?_
   exact Fk
end
end
section
structure Jb where
 mt:LL_
 mc:List VI
 jt:LL_
 jc:List VI
 tt:LL_
 tc:List VI
 parts:Int
 fuel:Int
def br (j:Jb):Nat×Nat×Nat :=
 if (aq j.mt j.mc 1).2.1≠0 then (1,(aq j.mt j.mc 1).1,(aq j.mt j.mc 1).2.1)
 else if (aq j.jt j.jc 2).2.1≠0 then (2,(aq j.jt j.jc 2).1,(aq j.jt j.jc 2).2.1)
 else if (aq j.tt j.tc 3).2.1≠0 then (3,(aq j.tt j.tc 3).1,(aq j.tt j.tc 3).2.1)
 else if j.parts<1∨16<j.parts∨j.fuel<1∨65536<j.fuel then (0,0,2) else (0,0,0)
def bJ (j:Jb):Bool:=(br j).2.2==0
theorem mn {j:Jb}(h:bJ j=true):((aq j.mt j.mc 1).2.1=0∧(aq j.jt j.jc 2).2.1=0∧(aq j.tt j.tc 3).2.1=0)∧1≤j.parts∧j.parts≤16∧1≤j.fuel∧j.fuel≤65536:=by
 unfold bJ br at h
 split at h
 ·rename_i h1;exact absurd (by simpa using h) h1
 rename_i h1
 split at h
 ·rename_i h2;exact absurd (by simpa using h) h2
 rename_i h2
 split at h
 ·rename_i h3;exact absurd (by simpa using h) h3
 rename_i h3
 split at h
 ·simp at h
 rename_i h4;exact⟨⟨Decidable.byContradiction h1,Decidable.byContradiction h2,Decidable.byContradiction h3⟩,by omega,by omega,by omega,by omega⟩
def cn (texts:LL_)(code:List VI)(role:UInt8)(ins:LL_)(fuel:Int):Bool :=
 (aq texts code role).2.1==0&&ins.length==inputsV role&&decide (0≤fuel∧fuel≤65536)&&ins.all fun s=>decide (s.length≤1024)
def vmV (texts:LL_)(code:List VI)(role:UInt8)(ins:LL_)(fuel:Int):Nat×List (LU_×LU_)×LU_ :=
 if cn texts code role ins fuel=true then l8 ⟨texts,code,ins,(aq texts code role).2.2.ends⟩ role fuel.toNat else (2,[],[])
theorem mB {texts:LL_}{code:List VI}{role:UInt8}{ins:LL_}{fuel:Int}(h:cn texts code role ins fuel=false):vmV texts code role ins fuel=(2,[],[]):=by
 unfold vmV;rw[if_neg (by rw[h];simp)]
theorem jW {texts:LL_}{code:List VI}{role:UInt8}{ins:LL_}{fuel:Int}(h:cn texts code role ins fuel=true):vmV texts code role ins fuel=l8 ⟨texts,code,ins,(aq texts code role).2.2.ends⟩ role fuel.toNat:=by
 unfold vmV;rw[if_pos h]
theorem dG {texts:LL_}{code:List VI}{role:UInt8}{ins:LL_}{fuel:Int}(h:cn texts code role ins fuel=true):(aq texts code role).2.1=0∧ins.length=inputsV role∧0≤fuel∧fuel≤65536∧∀ s∈ins,s.length≤1024:=by
 unfold cn at h;simp only[DS,beq_iff_eq,decide_eq_true_eq,List.all_eq_true]at h;obtain⟨⟨⟨h1,h2⟩,h3,h4⟩,h5⟩:=h;exact⟨h1,h2,h3,h4,h5⟩
theorem pA {texts:LL_}{code:List VI}{role:UInt8}{ins:LL_}{fuel:Int}(h1:(aq texts code role).2.1=0)(h2:ins.length=inputsV role)(h3:0≤fuel)(h4:fuel≤65536)(h5:∀ s∈ins,s.length≤1024):cn texts code role ins fuel=true:=by
 unfold cn;simp only[DS,beq_iff_eq,decide_eq_true_eq,List.all_eq_true];exact⟨⟨⟨h1,h2⟩,h3,h4⟩,h5⟩
end
