/- Lemmas. -/
import Derived.ProofKit
import Derived.OpenShut
import Derived.ShutString
import Derived.Deep.Slices
import Derived.Lay
import Derived.LaidMore
import Derived.Lib.LaidU8
import Derived.HandedShaped
import Derived.Stop.LaidErr
import Derived.Shelf.Vars
import Derived.LaidSub
import Derived.Stop.Joined
import Derived.Test.YtfjpghgdebpliaaGreatDoorContractPlaysK24
set_option linter.unusedSimpArgs false
set_option linter.unusedVariables false
set_option maxRecDepth 100000
set_option maxHeartbeats 16000000
namespace Go.Proofs.YtfjpghgdebpliaaGreatDoor
open Go.Proofs.Tryz
open Go.RowKit Oct
section
open Go.ChangeShapes Go.WideShapes Go.ChangeAt Go.RowKit Oct
open Go.ChangeMaps (open_string shut_string)
section
variable {P:Program}{A:Type}{c:T_×V_→A}{W:Z}{bZ:Nat}
theorem DK {t j:Nat}{v:V_}{d:DataW A}{ps:List MemPlace}{a:List T_}{ds:List (DataW A)}(ht:P.underlying t=some .string)(hv:Value.okWide P W .any bZ t v)(h:DataW.Trod c P W 0 (fun _=>true) true t v d ps)(a6:(DataW.weightsEach P a ds).all (·≤reachBytes)=true)(hj:a[j]?=some t)(hd:ds[j]?=some d):∃ l:q,v=.string (bs l)∧l.length≤140737488355328:=by
 obtain⟨s,rfl,rfl,_,_⟩:=open_string ht hv h;refine⟨s.data.toList,by rw[Ek],?_⟩;have:=sized_string a6 hj hd;have h2:=reachBytes_lt;omega
theorem Eu {w:Z}{a:Addr}{i:Nat}{u:V_}(h:w.cell? (a.add i)=some u):a.add i=⟨a.block,a.off+i,none⟩:=by
 unfold Addr.add at h⊢
 split
 ·rename_i hi
  rw[if_pos hi]at h;subst hi
  cases a with
  | mk b o d =>
   cases d with
   | none=>rfl
   | some x=>exfalso;revert h;simp only[World.cell?];split<;>simp
 ·rfl
end
end
section
open Go.ChangeShapes Go.WideShapes Go.ChangeAt Go.RowKit Oct
open Go.ChangeMaps (open_string shut_string)
section
variable {P:Program}{A:Type}{c:T_×V_→A}{W:Z}{α β γ:Type}
def cM (c:T_×V_→A)(P:Program)(W:Z)(t:T_)(b:α→Nat)(l:LV_→α→Prop):Prop :=
 ∀ n cs d ps,DataW.trod c P W 0 (fun _=>true) true n t cs=some (d,ps)→(∀ x∈d.weights P t,x≤reachBytes)→∃ x,l cs x∧b x≤Rows.uptoBulk d
theorem qZ (D:Nat→DataW A)(f:Nat→α)(b:α→Nat):∀ n,(∀ i,i<n→b (f i)≤Rows.uptoBulk (D i))→(((List.range n).map f).map b).sum≤Rows.uptoBulkAll ((List.range n).map D)
 | 0,_=>by simp
 | n+1,h=>by
  have H:=qZ D f b n (fun i hi=>h i Y)
  have a:∀ (l r:List (DataW A)),Rows.uptoBulkAll (l++r)=Rows.uptoBulkAll l+Rows.uptoBulkAll r:=by
   intro l r
   induction l with
   | nil=>simp[Rows.uptoBulkAll]
   | cons x l H=>simp only[Jk,Rows.uptoBulkAll,H];omega
  have:=h n Y;simp only[List.range_succ,Jf,List.sum_append,a,List.map_cons,List.map_nil,List.sum_cons,List.sum_nil,Rows.uptoBulkAll];omega
theorem cM.imp {t:T_}{b:α→Nat}{l a:LV_→α→Prop}(h:cM c P W t b l)(hi:∀ cs x,l cs x→a cs x):cM c P W t b a:=by
 intro n cs d ps hd hw;obtain⟨x,hx,hb⟩:=h n cs d ps hd hw;exact⟨x,hi _ _ hx,hb⟩
def px (W:Z)(size:Nat)(l:LV_→α→Prop)(v:V_)(xs:List α):Prop :=
 ∃ a ah,v=.slice a xs.length ah∧xs.length≤ah∧(a=none→xs.length=0∧ah=0) ∧
  ∀ k (h:k<xs.length),∃ b aL cs,a=some ⟨b,aL,none⟩∧cs.length=size∧(∀ j u,cs[j]?=some u→W.cell? ⟨b,aL+k*size+j,none⟩=some u)∧l cs xs[k]
theorem j9 (e:T_):∀ (ds:List (DataW A)) (d:DataW A),d∈ds→∀ x∈d.weights P e,x∈DataW.weightsAll P e ds
 | [],_,h=>by simp at h
 | d0::ds,d,h=>by
  intro x hx;rw[DataW.weightsAll];rcases JK.1 h with rfl|h
  ·exact Jt.2 (.inl hx)
  ·exact Jt.2 (.inr (j9 e ds d h x hx))
theorem lm {t:T_}(ht:P.underlying t=some .string):cM c P W t (fun l:q=>l.length+1) fun cs (l:q)=>cs=[.string (bs l)]∧l.length≤140737488355328:=by
 intro n cs d ps h hw;obtain⟨s,rfl,hx,_⟩:=DataW.trod_string ht h;simp only[Prod.mk.injEq]at hx;obtain⟨rfl,rfl⟩:=hx;have:=hw s.data.toList.length (by simp[DataW.weights]);have h2:=reachBytes_lt;exact⟨s.data.toList,⟨by rw[Ek],by omega⟩,by simp[Rows.uptoBulk]⟩
theorem gZ {t:T_}{k:IntKind}(ht:P.underlying t=some (.int k)):cM c P W t (fun _=>1) fun cs (a:Int)=>cs=[.int k a]∧(Lit.int k a).wf=true:=by
 intro n cs d ps h hw;obtain⟨a,rfl,hx,b⟩:=DataW.trod_int ht h;simp only[Prod.mk.injEq]at hx;obtain⟨rfl,rfl⟩:=hx;exact⟨a,⟨rfl,b⟩,by simp[Rows.uptoBulk]⟩
theorem je {t:T_}{f0 f1:Field}{c0 c1:Nat}{m0:α→Nat}{m1:β→Nat}{H0:LV_→α→Prop}{H1:LV_→β→Prop}(ht:P.underlying t=some (.struct #[f0,f1]))(hc:P.cellsOf t=c0+c1)(bw:P.cellsOf f0.type=c0)(y:P.cellsOf f1.type=c1)(o0:f0.offset=0)(o1:f1.offset=c0)(h0:cM c P W f0.type m0 H0)(h1:cM c P W f1.type m1 H1):cM c P W t (fun p=>m0 p.1+m1 p.2+1) fun cs (p:α×β)=>∃ e f,cs=e++f∧e.length=c0∧f.length=c1∧H0 e p.1∧H1 f p.2:=by
 intro n cs d ps h hw;obtain⟨y0,y1,m,hx,hl,e0,e1⟩:=trod_struct2 ht h;simp only[Prod.mk.injEq]at hx;obtain⟨rfl,rfl⟩:=hx
 have b:∀ x,x∈y0.1.weights P f0.type∨x∈y1.1.weights P f1.type→x≤reachBytes:=by
  intro x hx;refine hw x ?_;simp only[DataW.weights,ht,DataW.weightsEach,List.map_cons,Jt];rcases hx with hx|hx
  ·exact .inl hx
  ·exact .inr (.inl hx)
 obtain⟨x0,k0,o⟩:=h0 _ _ _ _ e0 (fun x hx=>b x (.inl hx));obtain⟨x1,k1,b1⟩:=h1 _ _ _ _ e1 (fun x hx=>b x (.inr hx));rw[o0,bw,JF]at k0;rw[o1,y]at k1;refine⟨(x0,x1),⟨cs.take c0,(cs.drop c0).take c1,?_,?_,?_,k0,k1⟩,by simp only[Rows.uptoBulk,Rows.uptoBulkAll];omega⟩
 ·have:(cs.drop c0).take c1=cs.drop c0:=I5 yza
  rw[this,List.take_append_drop]
 ·simp;omega
 ·simp;omega
theorem gH {t e:T_}{size:Nat}{b:α→Nat}{l:LV_→α→Prop}(ht:P.underlying t=some (.slice e))(hc:P.cellsOf e=size)(ab:0<size)(he:cM c P W e b l):cM c P W t (fun xs=>(xs.map b).sum+1) fun cs (xs:List α)=>∃ v,cs=[v]∧px W size l v xs∧xs.length*P.bytesOf e≤reachBytes:=by
 intro n cs d ps h hw;rcases Deep.open_slice ht h with ⟨rfl,hx⟩|⟨a,o,ah,m,S,D,z,rfl,_,hl,hm,aK,hx,y⟩
 ·simp only[Prod.mk.injEq]at hx
  obtain⟨rfl,_⟩:=hx;exact⟨[],⟨_,rfl,⟨none,0,rfl,I6 _,fun _=>⟨rfl,rfl⟩,fun k hk=>by simp at hk⟩,by simp⟩,by simp[Rows.uptoBulk]⟩
 ·simp only[Prod.mk.injEq]at hx
  obtain⟨rfl,_⟩:=hx;simp only[if_true]at aK;subst aK
  have N:∀ i,i<o→∀ x∈(D i).weights P e,x≤reachBytes:=by
   intro i hi x hx;refine hw x ?_;simp only[DataW.weights,ht];exact JK.2 (.inr (Jt.2 (.inl (j9 e _ (D i) (List.mem_map.2 ⟨i,by simpa using hi,rfl⟩) x hx))))
  have af:∀ i,i<o→∃ x:α,(∃ g,W.cells? 0 (a.add (i*size)) size=some g∧l g x)∧b x≤Rows.uptoBulk (D i):=by
   intro i hi;obtain⟨g,h1,h2⟩:=y i Y;rw[hc]at h1;obtain⟨x,hx,hb⟩:=he _ _ _ _ h2 (N i hi);exact⟨x,⟨g,h1,hx⟩,hb⟩
  have ai:=hw ((o+(m-o))*P.bytesOf e) (by simp[DataW.weights,ht]);have cw:o*P.bytesOf e≤(o+(m-o))*P.bytesOf e:=JO _ Y
  by_cases h0:o=0
  ·subst h0
   exact⟨[],⟨_,rfl,⟨some a,m,rfl,Jl _,by simp,fun k hk=>by simp at hk⟩,by simp⟩,by simp[Rows.uptoBulk]⟩
  obtain⟨x0,_⟩:=af 0 Y
  haveI:Inhabited α:=⟨x0⟩
  obtain⟨f,hf⟩:=Deep.choose_lt af
  have q:a=⟨a.block,a.off,none⟩:=by
   obtain⟨⟨g,h1,_⟩,_⟩:=hf 0 Y;obtain⟨_,s,aR⟩:=World.cells?_some h1;have h2:=aR 0 Y;rw[Nat.zero_mul]at h2;have h3:∃ u,g[0]?=some u:=⟨g[0]' Y,List.getElem?_eq_getElem _⟩
   obtain⟨u,hu⟩:=h3;rw[hu]at h2;have:=Eu (a:=a.add 0) (i:=0) h2;simpa[Addr.add] using this
  have r:=qZ D f b o (fun i hi=>(hf i hi).2);refine⟨(List.range o).map f,⟨_,rfl,⟨some a,m,by simp,by simpa using hl,by simp,?_⟩,?_⟩,by simp only[Rows.uptoBulk];omega⟩
  ·intro k hk
   have H:k<o:=by simpa using hk
   obtain⟨⟨g,h1,w⟩,_⟩:=hf k H;obtain⟨_,s,aR⟩:=World.cells?_some h1;refine⟨a.block,a.off,g,by rw[←q],s,?_,by simpa using w⟩;intro j u hj
   have b':j<size:=by
    rcases Nat.lt_or_ge j size with h|h
    ·exact h
    ·rw[List.getElem?_eq_none Y]at hj;cases hj
   have h2:=aR j b';rw[q,hj,Addr.add_lit,Addr.add_lit]at h2;rw[←h2]
  ·simp only[Js,List.length_range];omega
theorem qn {t j:Nat}{v:V_}{d:DataW A}{ps:List MemPlace}{a:List T_}{ds:List (DataW A)}{b:α→Nat}{l:LV_→α→Prop}(ho:cM c P W t b l)(h:DataW.Trod c P W 0 (fun _=>true) true t v d ps)(a6:(DataW.weightsEach P a ds).all (·≤reachBytes)=true)(hj:a[j]?=some t)(hd:ds[j]?=some d):∃ x,l v.cells.toList x∧b x≤Rows.uptoBulk d:=by
 obtain⟨aa,hf⟩:=h;refine ho _ _ _ _ hf fun x hx=>?_;simpa using List.all_eq_true.1 a6 x (DataW.weights_mem_each hj hd x hx)
theorem o6 {bZ:Nat}{t e:T_}{v v':V_}(ht:P.underlying t=some (.slice e))(hv:Value.okWide P W .any bZ t v)(h:v.cells.toList=[v']):v=v':=by
 obtain⟨a0,o,ah,rfl⟩:=okWide_slice ht hv;simpa[Value.cells] using h
end
end
section
open Go.ChangeShapes Go.WideShapes Go.ChangeAt Go.RowKit Oct
section
variable {A:Type}{c:T_×V_→A}{W:Z}
theorem Dq {α:Type}(R:Rec α){l:LV_→α→Prop}(w:∀ cs x,l cs x→cs=R.cell x){v:V_}{xs:List α}(h:px W R.n l v xs):R.Row W v xs∧∀ x∈xs,∃ cs,l cs x:=by
 obtain⟨a,ah,rfl,aq,hn,hc⟩:=h;have ab:=R.pos;refine⟨⟨⟨a,ah,rfl,hn,?_⟩,a,ah,rfl,aq⟩,?_⟩
 ·intro j u hj
  have b':j<xs.length*R.n:=by
   rcases Nat.lt_or_ge j (xs.length*R.n) with h|h
   ·exact h
   ·rw[List.getElem?_eq_none (by rw[Rec.cells_length];exact h)]at hj;cases hj
  have hk:j / R.n<xs.length:=Nat.div_lt_of_lt_mul (by rw[Nat.mul_comm];exact b');obtain⟨b,aL,cs,ha,hl,y,aR⟩:=hc (j / R.n) hk;obtain rfl:=w _ _ aR;refine⟨b,aL,ha,?_⟩;have hm:j%R.n<R.n:=Nat.mod_lt _ ab;have hu:(R.cell xs[j / R.n])[j%R.n]?=some ((R.cell xs[j / R.n])[j%R.n]'(by rw[R.len];exact hm)):=List.getElem?_eq_getElem _;have h1:=R.cells_at xs (j / R.n) hk (j%R.n) _ hu;have e:j / R.n*R.n+j%R.n=j:=Nat.div_add_mod' j R.n;rw[e,hj]at h1;have h2:=y (j%R.n) _ hu;rw[←Option.some.inj h1,Ji,e]at h2;exact h2
 ·intro p hp
  obtain⟨k,hk,rfl⟩:=List.getElem_of_mem hp;obtain⟨_,_,cs,_,_,_,h⟩:=hc k hk;exact⟨cs,h⟩
end
end
section
open Go.ChangeShapes Go.WideShapes Go.ChangeAt Go.RowKit Oct
theorem xK {a:Int}(h:(Lit.int .u8 a).wf=true):∃ r:U8_,a=(r.toNat:Int):=by
 have h2:0≤a∧a<256:=by
  simp[Lit.wf,IntKind.min,IntKind.max,IntKind.signed,IntKind.bits]at h;omega
 refine⟨UInt8.ofNat a.toNat,?_⟩;rw[UInt8.toNat_ofNat'];omega
section
variable {A:Type}{c:T_×V_→A}{W:Z}
theorem IZ {P:Program}{α β:Type}{t:T_}{b:α→Nat}{e:β→Nat}{l:LV_→α→Prop}{a:LV_→β→Prop}(h:cM c P W t b l)(hi:∀ cs x,l cs x→∃ y,a cs y∧e y≤b x):cM c P W t e a:=by
 intro n cs d ps hd hw;obtain⟨x,hx,hb⟩:=h n cs d ps hd hw;obtain⟨y,hy,hm⟩:=hi _ _ hx;exact⟨y,hy,Jc hm hb⟩
theorem Bv:cM c prog W 109 (fun _:VI=>0) fun cs x=>cs=bH.cell x:=by
 refine IZ (je (c0:=1) (c1:=1) underlying109 q_ q_ q_ rfl rfl (gZ (k:=.u8) underlying5) (gZ (k:=.u8) underlying5)) ?_;rintro cs⟨a,b⟩ ⟨e,f,rfl,_,_,⟨rfl,h0⟩,rfl,h1⟩;obtain⟨Q,rfl⟩:=xK h0;obtain⟨r1,rfl⟩:=xK h1;exact⟨(Q,r1),rfl,Jl _⟩
end
def FZ : List (String × DataW Unit) := [("unicode/utf8.acceptRanges", Rows.laid_unicode_utf8_acceptRanges), ("maslin/verify.effects" /- 0 -/, Rows.laid_maslin_verify_effects), ("unicode/utf8.first", Rows.laid_unicode_utf8_first)]
theorem BK:Rows.laid_maslin_verify_effects (H:=Unit) /- 0 281 -/=.agg (ep.map fun e=>.agg [.lit (.string e.1),.lit (.string e.2)]):=q_
theorem zJ {s:ByteArray}{l:q}(h:s.data.toList=l):Value.string s=.string (bs l):=by subst h;rw[Ek]
theorem wU {W:Z}(h:laidMetH prog FZ W):lL W∧0<W.heap.size:=by
 rw[MakeChecks.laidMetH_plain _ _ _ q_]at h;obtain ⟨g, t, cs, aa, p, hg, ht, hv, hd⟩ := Lib.laidMet.reads (n := "maslin/verify.effects") (d := Rows.laid_maslin_verify_effects) h (.tail _ (.head _));obtain rfl := Option.some.inj ((show prog.globalNamed "maslin/verify.effects" = some 0 by kernel_rfl).symm.trans hg);obtain rfl:=Option.some.inj ((show(prog.globals[0]?).map (·.type)=some 281 by kernel_rfl).symm.trans ht);rw[BK]at hd;obtain⟨xs,m,_,ex,_,hl,aS⟩:=DataW.trod_array underlying281 hd;have c2:prog.cellsOf 280=2:=q_;have c1:prog.cellsOf 9=1:=q_;have e3:xs.map (·.1)=ep.map fun e=>.agg [.lit (.string e.1),.lit (.string e.2)]:=(DataW.agg.inj (Prod.mk.inj ex).1).symm
 have z:lL W:=by
  intro k hk;have hE:=aS k hk;rw[c2,List.getElem?_eq_getElem Y]at hE;have ai:ep.length=24:=wT;have e4:(xs.map (·.1))[k]?=(ep.map fun e=>(DataW.agg [.lit (.string e.1),.lit (.string e.2)]:DataW Unit))[k]?:=by rw[e3]
  rw[List.getElem?_map,List.getElem?_map,List.getElem?_eq_getElem (by omega:k<xs.length),List.getElem?_eq_getElem (by omega:k<ep.length)]at e4;obtain⟨y0,y1,n,hx,_,t0,t1⟩:=trod_struct2 underlying280 hE;obtain⟨K,q0,a,_⟩:=DataW.trod_string underlying9 t0;obtain⟨q,q1,i,_⟩:=DataW.trod_string underlying9 t1;rw[hx,a,i]at e4;simp only[Option.map_some,Option.some.injEq,DataW.agg.injEq,List.cons.injEq,DataW.lit.injEq,Lit.string.injEq,and_true]at e4;have aL:ep.getD k ([],[])=ep[k]' Y:=by rw[List.getD,List.getElem?_eq_getElem (by omega:k<ep.length)];rfl
  rw[World.var?_cell hg hv,World.var?_cell hg hv,aL];rw[c1]at q0 q1
  have p0:cs.toList[k*2]?=some (.string K):=by
   have:((((cs.toList.drop (k*2)).take 2).drop 0).take 1)[0]?=some (.string K):=by rw[q0];rfl
   simpa using this
  have p1:cs.toList[k*2+1]?=some (.string q):=by
   have:((((cs.toList.drop (k*2)).take 2).drop 1).take 1)[0]?=some (.string q):=by rw[q1];rfl
   simpa using this
  refine⟨?_,?_⟩
  ·rw[←zJ e4.1];simpa using p0
  ·rw[←zJ e4.2];simpa using p1
 refine⟨z,?_⟩;have:=(z 0 d_).1;rcases Nat.lt_or_ge 0 W.heap.size with hn|hn
 ·exact hn
 ·exfalso
  rw[World.cell?,Array.getElem?_eq_none hn]at this
  cases this
end
section
open Go.ChangeShapes Go.WideShapes Go.ChangeAt Go.RowKit Oct
section
variable {A:Type}{c:T_×V_→A}{W:Z}
theorem ng {a:Assume}{C:Checked}{d:Os}{f:FuncId}{fn:Func}{s:ChangeSpec}{o:List PathCond}{k r m u:Bool}{X:Z→AV_→Prop}(hX:∀ (w w':Z) (az:AV_),w.heap=w'.heap→X w az→X w' az)(own:ownKnob C.prog.godebug=none)(g:d.Started)(y:C.prog.inits.idxOf? f=none)(af:C.prog.funcs[f]?=some fn)(x:∃ (w:Z) (l:Tape) (i:Input),w.os=d∧(w.forCall l i).Shaped C.prog∧i.vars=[]∧Input.okWide C.prog (w.forCall l i) .any w.heap.size f i ∧((s.pre c C.prog fn o k (w.forCall l i).memory i.args∧X (w.forCall l i).memory i.args)∧sizedMet c C.prog fn (OpenSpec.ofChange s) k (w.forCall l i).memory i.args)∧a.holds C.prog (lone (Frame.enter C.prog f i.args .normal) [] (w.forCall l i)))(n:∀ (W:Z) (bZ:Nat) (az:AV_) (ds L:List (DataW A)) (before:List MemPlace), (∀ (j:Nat) t v,fn.params[j]?=some t→az[j]?=some v→Value.okWide C.prog W .any bZ t v) → DataW.Whole c C.prog fn.params.toList s.vars k W az.toList ds L before → (DataW.weightsEach C.prog (fn.params.toList++s.plain.varTypes C.prog) (ds++L)).all (·≤reachBytes)=true→X W az→W.ShapedOpen C.prog → Calls C.prog f az W fun e W'=>∃ v,e=.returned v∧s.post c C.prog fn k r m u W az v W'):ReturnsInHanded a C d f .any (fun w az=>(s.pre c C.prog fn o k w az∧X w az)∧sizedMet c C.prog fn (OpenSpec.ofChange s) k w az) (s.post c C.prog fn k r m u):=by
 refine returnsInHanded_of_calls own g y x ?_;intro w l i _ ac _ bb ao _;obtain⟨_,_,_,B,z,_,_,_,_,q⟩:=bb;have e:B=fn:=Option.some.inj (z.symm.trans af);subst e;obtain⟨⟨⟨ds,L,before,hw,_⟩,hx⟩,hz⟩:=ao;have b:=DataW.Whole.of_heap (w':=w.forCall l i) yzf hw;refine(n (w.forCall l i) w.heap.size i.args ds L before q b (hz.weights hw) (hX _ _ _ yzf hx) ac).mono fun e W' ⟨v,he,hp⟩=>?_;subst he;exact ChangeSpec.post_blind hp
end
theorem Eb (u : T_)(h : prog.typeName? 3 u = some "*errors.errorString") : u = 347 :=
 have hs : "*" ++ "errors.errorString" = "*errors.errorString" := by decide
 typeName_ptr_named (nm := "errors.errorString") (by rw [hs]; kernel_rfl) q_ d_ u (by rw [hs]; exact h)
end
section
open Go.ChangeShapes Go.WideShapes Go.ChangeAt Go.RowKit Oct
section
variable {A:Type}{c:T_×V_→A}{W:Z}
def EA (cs:LV_)(p:PR):Prop:=cs=[.string (bs p.1),.string (bs p.2)]∧p.1.length≤140737488355328∧p.2.length≤140737488355328
theorem yx:cM c prog W 64 (fun p=>p.1.length+1+(p.2.length+1)+1) EA:=by
 refine cM.imp (je (c0:=1) (c1:=1) underlying64 q_ q_ q_ rfl rfl (lm underlying9) (lm underlying9)) ?_;rintro cs p⟨e,f,rfl,_,_,⟨rfl,h0⟩,rfl,h1⟩;exact⟨rfl,h0,h1⟩
theorem Hs {v:V_}{xs:LP_}(h:px W 2 EA v xs):RP W v xs∧∀ p∈xs,p.1.length≤140737488355328∧p.2.length≤140737488355328:=by
 obtain⟨a,ah,rfl,aq,hn,hc⟩:=h;refine⟨⟨⟨a,ah,rfl,hn,?_⟩,a,ah,rfl,aq⟩,?_⟩
 ·intro j u hj
  have b':j<xs.length*2:=by
   rcases Nat.lt_or_ge j (xs.length*2) with h|h
   ·exact h
   ·rw[List.getElem?_eq_none (by rw[gr];exact h)]at hj;cases hj
  have hk:j / 2<xs.length:=Y;obtain⟨b,aL,cs,ha,_,y,aR,_⟩:=hc (j / 2) hk;subst aR;refine⟨b,aL,ha,?_⟩;rcases Nat.mod_two_eq_zero_or_one j with hm|hm
  ·have e:j=j / 2*2:=Y
   rw[e,l8 xs _ hk]at hj;have:=y 0 _ rfl;rw[e,←hj];exact this
  ·have e:j=j / 2*2+1:=Y
   rw[e,lZ xs _ hk]at hj;have:=y 1 _ rfl;rw[e,←hj,←Ji];exact this
 ·intro p hp
  obtain⟨k,hk,rfl⟩:=List.getElem_of_mem hp;obtain⟨_,_,_,_,_,_,_,h⟩:=hc k hk;exact h
def Io (W:Z)(cs:LV_)(l:LP_):Prop:=∃ v,cs=[v]∧RP W v l∧l.length≤4398046511104∧∀ p∈l,p.1.length≤140737488355328∧p.2.length≤140737488355328
def Ga (l:LP_):Nat:=(l.map fun p:PR=>p.1.length+1+(p.2.length+1)+1).sum+1
theorem kE:cM c prog W 29 Ga (Io W):=by
 refine cM.imp (gH (size:=2) underlying29 q_ d_ yx) ?_;rintro cs l⟨v,rfl,hs,hb⟩;have aS:prog.bytesOf 64=32:=q_;rw[aS]at hb;have h2:=reachBytes_lt;obtain⟨h1,h3⟩:=Hs hs;exact⟨v,rfl,h1,by omega,h3⟩
theorem yA {bZ j:Nat}{v:V_}{d:DataW A}{ps:List MemPlace}{a:List T_}{ds:List (DataW A)}(hv:Value.okWide prog W .any bZ 29 v)(h:DataW.Trod c prog W 0 (fun _=>true) true 29 v d ps)(a6:(DataW.weightsEach prog a ds).all (·≤reachBytes)=true)(hj:a[j]?=some 29)(hd:ds[j]?=some d):∃ l:LP_,RP W v l∧l.length≤4398046511104∧∀ p∈l,p.1.length≤140737488355328∧p.2.length≤140737488355328:=by
 obtain⟨l,⟨v',aR,h1,h2,h3⟩,_⟩:=qn kE h a6 hj hd;obtain rfl:=o6 underlying29 hv aR;exact⟨l,h1,h2,h3⟩
end
end
section
open Go.ChangeShapes Go.WideShapes Go.ChangeAt Go.RowKit Oct
def kK : List (String × DataW Unit) := [("math/bits.deBruijn32tab", Rows.laid_math_bits_deBruijn32tab), ("math/bits.deBruijn64tab", Rows.laid_math_bits_deBruijn64tab), ("internal/strconv.uint64pow10", Rows.laid_internal_strconv_uint64pow10), ("unicode/utf8.acceptRanges", Rows.laid_unicode_utf8_acceptRanges), ("strconv.ErrRange", Rows.laid_strconv_ErrRange), ("strconv.ErrSyntax", Rows.laid_strconv_ErrSyntax), ("maslin/verify.effects", Rows.laid_maslin_verify_effects), ("maslin/vm.does" /- 1 -/, Rows.laid_maslin_vm_does), ("unicode/utf8.first", Rows.laid_unicode_utf8_first)]
def gO : List (String × DataW Unit) := [("math/bits.deBruijn32tab", Rows.laid_math_bits_deBruijn32tab), ("math/bits.deBruijn64tab", Rows.laid_math_bits_deBruijn64tab), ("internal/strconv.uint64pow10", Rows.laid_internal_strconv_uint64pow10), ("unicode/utf8.acceptRanges", Rows.laid_unicode_utf8_acceptRanges), ("strconv.ErrRange", Rows.laid_strconv_ErrRange), ("strconv.ErrSyntax", Rows.laid_strconv_ErrSyntax), ("maslin/verify.effects", Rows.laid_maslin_verify_effects), ("unicode/utf8.first" /- 1 -/, Rows.laid_unicode_utf8_first)]
theorem wu {W:Z}(h:laidMetH prog kK W):laidMet prog gO W:=by
 have h1:=(laidMetH_iff.1 h).1;rw[show(kK.filter fun x=>x.2.handleName?.isNone)=gO from rfl]at h1;exact h1
theorem yO {W:Z}(h:laidMetH prog kK W):lL W∧0<W.heap.size:=by
 have h1 := h.filter fun x => x.1 == "unicode/utf8.acceptRanges" || x.1 == "maslin/verify.effects" || x.1 == "unicode/utf8.first"
 rw [show (kK.filter fun x => x.1 == "unicode/utf8.acceptRanges" || x.1 == "maslin/verify.effects" || x.1 == "unicode/utf8.first") = FZ from rfl] at h1;exact wU h1
theorem BL:Rows.laid_internal_strconv_uint64pow10 (H:=Unit) /- 1 -/=Lib.tabData .u64 Lib.pow10Tab:=q_
theorem yN {W:Z}(h0:laidMetH prog kK W)(ac:W.ShapedOpen prog):dS W:=by
 have h:=wu h0;refine⟨?_,?_,?_,?_⟩
 ·have h2:=h.tail.tail
  rw[BL]at h2;exact Lib.tabIs_of_head (g:=5) (t:=332) (e:=118) (n:=20) q_ q_ underlying332 underlying118 q_ q_ h2
 ·have hg : prog.globalNamed "strconv.ErrSyntax" = some 6 := by kernel_rfl
  obtain⟨a,s,hv,_,_,_⟩:=laid_sentinel h.tail.tail.tail.tail.tail hg q_ underlying120 Eb underlying347 underlying349 rfl rfl underlying9 q_ q_;exact⟨_,_,by rw[World.var?_cell hg hv];rfl⟩
 ·have hg : prog.globalNamed "strconv.ErrRange" = some 7 := by kernel_rfl
  obtain⟨a,s,hv,_,_,_⟩:=laid_sentinel h.tail.tail.tail.tail hg q_ underlying120 Eb underlying347 underlying349 rfl rfl underlying9 q_ q_;exact⟨_,_,by rw[World.var?_cell hg hv];rfl⟩
 ·exact cell_of_shapedOpen_int (zero:=#[.int .i64 0]) (t:=3) ac (of_decide_eq_true q_) q_ rfl q_ q_ underlying3
def zG:List (DataW (q)):=[.nil,.held [40,42,109,97,115,108,105,110,47,118,109,46,109,97,99,104,105,110,101,41,46,116,101,120,116],.held [40,42,109,97,115,108,105,110,47,118,109,46,109,97,99,104,105,110,101,41,46,110,117,109],.held [40,42,109,97,115,108,105,110,47,118,109,46,109,97,99,104,105,110,101,41,46,105,110,112,117,116],.held [40,42,109,97,115,108,105,110,47,118,109,46,109,97,99,104,105,110,101,41,46,99,97,116],.held [40,42,109,97,115,108,105,110,47,118,109,46,109,97,99,104,105,110,101,41,46,115,105,122,101],.held [40,42,109,97,115,108,105,110,47,118,109,46,109,97,99,104,105,110,101,41,46,112,97,114,116],.held [40,42,109,97,115,108,105,110,47,118,109,46,109,97,99,104,105,110,101,41,46,112,97,114,115,101],.held [40,42,109,97,115,108,105,110,47,118,109,46,109,97,99,104,105,110,101,41,46,115,104,111,119],.held [40,42,109,97,115,108,105,110,47,118,109,46,109,97,99,104,105,110,101,41,46,97,100,100],.held [40,42,109,97,115,108,105,110,47,118,109,46,109,97,99,104,105,110,101,41,46,109,117,108],.held [40,42,109,97,115,108,105,110,47,118,109,46,109,97,99,104,105,110,101,41,46,108,101,115,115],.held [40,42,109,97,115,108,105,110,47,118,109,46,109,97,99,104,105,110,101,41,46,115,97,109,101],.held [40,42,109,97,115,108,105,110,47,118,109,46,109,97,99,104,105,110,101,41,46,110,111,116],.held [40,42,109,97,115,108,105,110,47,118,109,46,109,97,99,104,105,110,101,41,46,100,114,111,112],.held [40,42,109,97,115,108,105,110,47,118,109,46,109,97,99,104,105,110,101,41,46,100,117,112],.held [40,42,109,97,115,108,105,110,47,118,109,46,109,97,99,104,105,110,101,41,46,115,119,97,112],.held [40,42,109,97,115,108,105,110,47,118,109,46,109,97,99,104,105,110,101,41,46,103,101,116],.held [40,42,109,97,115,108,105,110,47,118,109,46,109,97,99,104,105,110,101,41,46,115,101,116],.held [40,42,109,97,115,108,105,110,47,118,109,46,109,97,99,104,105,110,101,41,46,98,114,97,110,99,104],.held [40,42,109,97,115,108,105,110,47,118,109,46,109,97,99,104,105,110,101,41,46,116,117,114,110],.held [40,42,109,97,115,108,105,110,47,118,109,46,109,97,99,104,105,110,101,41,46,101,110,100],.held [40,42,109,97,115,108,105,110,47,118,109,46,109,97,99,104,105,110,101,41,46,101,97,99,104],.held [40,42,109,97,115,108,105,110,47,118,109,46,109,97,99,104,105,110,101,41,46,101,109,105,116]] /- 1 -/
theorem yP {W:Z}(h:laidMetH prog kK W):dp W:=by
 obtain ⟨g, t, cs, aa, p, hg, ht, hv, hd⟩ := h.funcs (n := "maslin/vm.does") (Jo _ (Jo _ (Jo _ (Jo _ (Jo _ (Jo _ (Jo _ (Jn ..))))))));obtain rfl := Option.some.inj ((show prog.globalNamed "maslin/vm.does" = some 1 by kernel_rfl).symm.trans hg);obtain rfl:=Option.some.inj ((show(prog.globals[1]?).map (·.type)=some 287 by kernel_rfl).symm.trans ht);have aL:DataW.trod (funcToken prog) prog W 0 (fun _=>true) true aa 287 cs.toList=some (.agg zG,p):=hd;obtain⟨xs,m,_,ex,_,hl,aS⟩:=DataW.trod_array underlying287 aL;have c1:prog.cellsOf 286=1:=q_;have e3:xs.map (·.1)=zG:=(DataW.agg.inj (Prod.mk.inj ex).1).symm
 have z:∀ k b r f0,k<24→zG[k]?=some (.held (b::r))→((List.range prog.funcs.size).filter fun f=>(prog.funcs[f]?).any (·.name.toUTF8.data.toList==b::r))=[f0]→W.cell? ⟨1,k,none⟩=some (.func (.func f0) #[] #[]):=by
  intro k b r f0 hk I aZ;have hE:=aS k hk;rw[c1,Nat.mul_one,List.getElem?_eq_getElem Y]at hE;have e4:(xs.map (·.1))[k]?=zG[k]?:=by rw[e3]
  rw[List.getElem?_map,List.getElem?_eq_getElem (by omega:k<xs.length),I]at e4;simp only[Option.map_some,Option.some.injEq]at e4;obtain⟨⟨x,ap⟩,hx⟩:∃ y,xs[k]=y:=⟨_,rfl⟩
  rw[hx]at hE e4;simp only at e4;subst e4
  have ai:((cs.toList.drop k).take 1)≠[]:=by
   intro h0;rw[h0]at hE
   cases m with
   | zero=>simp[DataW.trod]at hE
   | succ n=>simp[DataW.trod,underlying286]at hE
  obtain⟨v,aH⟩:∃ v,(cs.toList.drop k).take 1=[v]:=by
   cases h1:cs.toList.drop k with
   | nil=>rw[h1]at ai;simp at ai
   | cons a l=>exact⟨a,by simp⟩
  rw[aH]at hE;obtain rfl:=func_of_trod (f0:=f0) underlying286 aZ hE;rw[World.var?_cell hg hv];have:((cs.toList.drop k).take 1)[0]?=some (.func (.func f0) #[] #[]):=by rw[aH];rfl
  simpa using this
 intro k h1 h2;rcases(by omega:k=1∨k=2∨k=3∨k=4∨k=5∨k=6∨k=7∨k=8∨k=9∨k=10∨k=11∨k=12∨k=13∨k=14∨k=15∨k=16∨k=17∨k=18∨k=19∨k=20∨k=21∨k=22∨k=23) with rfl|rfl|rfl|rfl|rfl|rfl|rfl|rfl|rfl|rfl|rfl|rfl|rfl|rfl|rfl|rfl|rfl|rfl|rfl|rfl|rfl|rfl|rfl
 ·exact z 1 _ _ _ d_ rfl q_
 ·exact z 2 _ _ _ d_ rfl q_
 ·exact z 3 _ _ _ d_ rfl q_
 ·exact z 4 _ _ _ d_ rfl q_
 ·exact z 5 _ _ _ d_ rfl q_
 ·exact z 6 _ _ _ d_ rfl q_
 ·exact z 7 _ _ _ d_ rfl q_
 ·exact z 8 _ _ _ d_ rfl q_
 ·exact z 9 _ _ _ d_ rfl q_
 ·exact z 10 _ _ _ d_ rfl q_
 ·exact z 11 _ _ _ d_ rfl q_
 ·exact z 12 _ _ _ d_ rfl q_
 ·exact z 13 _ _ _ d_ rfl q_
 ·exact z 14 _ _ _ d_ rfl q_
 ·exact z 15 _ _ _ d_ rfl q_
 ·exact z 16 _ _ _ d_ rfl q_
 ·exact z 17 _ _ _ d_ rfl q_
 ·exact z 18 _ _ _ d_ rfl q_
 ·exact z 19 _ _ _ d_ rfl q_
 ·exact z 20 _ _ _ d_ rfl q_
 ·exact z 21 _ _ _ d_ rfl q_
 ·exact z 22 _ _ _ d_ rfl q_
 ·exact z 23 _ _ _ d_ rfl q_
end
section
open Go.ChangeShapes Go.WideShapes Go.ChangeAt Go.RowKit Oct
section
variable {A:Type}{c:T_×V_→A}{W:Z}
theorem tB {P:Program}{w:Z}{bZ:Nat}{a:Nat→Bool}{b:Bool}{t:T_}{f0 f1 f2 f3 f4:Field}{aa:Nat}{cs:LV_}{x:DataW A×List MemPlace}(ht:P.underlying t=some (.struct #[f0,f1,f2,f3,f4]))(h:DataW.trod c P w bZ a b aa t cs=some x):∃ (y0 y1 y2 y3 y4:DataW A×List MemPlace) (n:Nat),x.1=.agg [y0.1,y1.1,y2.1,y3.1,y4.1]∧cs.length=P.cellsOf t∧DataW.trod c P w bZ a b n f0.type ((cs.drop f0.offset).take (P.cellsOf f0.type))=some y0 ∧DataW.trod c P w bZ a b n f1.type ((cs.drop f1.offset).take (P.cellsOf f1.type))=some y1∧DataW.trod c P w bZ a b n f2.type ((cs.drop f2.offset).take (P.cellsOf f2.type))=some y2 ∧DataW.trod c P w bZ a b n f3.type ((cs.drop f3.offset).take (P.cellsOf f3.type))=some y3∧DataW.trod c P w bZ a b n f4.type ((cs.drop f4.offset).take (P.cellsOf f4.type))=some y4:=by
 obtain⟨xs,n,_,rfl,hl,ai,hf⟩:=DataW.trod_struct ht h
 match xs,ai with
 | [y0,y1,y2,y3,y4],_=>exact⟨y0,y1,y2,y3,y4,n,by simp,hl,by simpa using hf 0 f0 rfl,by simpa using hf 1 f1 rfl,by simpa using hf 2 f2 rfl,by simpa using hf 3 f3 rfl,by simpa using hf 4 f4 rfl⟩
theorem lP {P:Program}{α0 α1 α2 α3 α4:Type}{t:T_}{f0 f1 f2 f3 f4:Field}{m0:α0→Nat}{m1:α1→Nat}{m2:α2→Nat}{m3:α3→Nat}{a:α4→Nat}{H0:LV_→α0→Prop}{H1:LV_→α1→Prop}{H2:LV_→α2→Prop}{H3:LV_→α3→Prop}{H4:LV_→α4→Prop}(ht:P.underlying t=some (.struct #[f0,f1,f2,f3,f4]))(h0:cM c P W f0.type m0 H0)(h1:cM c P W f1.type m1 H1)(h2:cM c P W f2.type m2 H2)(h3:cM c P W f3.type m3 H3)(h4:cM c P W f4.type a H4):cM c P W t (fun _=>0) fun cs (p:α0×α1×α2×α3×α4)=>cs.length=P.cellsOf t∧H0 ((cs.drop f0.offset).take (P.cellsOf f0.type)) p.1∧H1 ((cs.drop f1.offset).take (P.cellsOf f1.type)) p.2.1∧H2 ((cs.drop f2.offset).take (P.cellsOf f2.type)) p.2.2.1 ∧H3 ((cs.drop f3.offset).take (P.cellsOf f3.type)) p.2.2.2.1∧H4 ((cs.drop f4.offset).take (P.cellsOf f4.type)) p.2.2.2.2:=by
 intro n cs d ps h hw;obtain⟨y0,y1,y2,y3,y4,m,hx,hl,e0,e1,e2,e3,e4⟩:=tB ht h;simp only at hx;subst hx
 have b:∀ x,x∈y0.1.weights P f0.type∨x∈y1.1.weights P f1.type∨x∈y2.1.weights P f2.type∨x∈y3.1.weights P f3.type∨x∈y4.1.weights P f4.type→x≤reachBytes:=by
  intro x hx;refine hw x ?_;simp only[DataW.weights,ht,DataW.weightsEach,List.map_cons,Jt];rcases hx with hx|hx|hx|hx|hx
  ·exact .inl hx
  ·exact .inr (.inl hx)
  ·exact .inr (.inr (.inl hx))
  ·exact .inr (.inr (.inr (.inl hx)))
  ·exact .inr (.inr (.inr (.inr (.inl hx))))
 obtain⟨x0,k0,_⟩:=h0 _ _ _ _ e0 (fun x hx=>b x (.inl hx));obtain⟨x1,k1,_⟩:=h1 _ _ _ _ e1 (fun x hx=>b x (.inr (.inl hx)));obtain⟨x2,k2,_⟩:=h2 _ _ _ _ e2 (fun x hx=>b x (.inr (.inr (.inl hx))));obtain⟨x3,k3,_⟩:=h3 _ _ _ _ e3 (fun x hx=>b x (.inr (.inr (.inr (.inl hx)))));obtain⟨x4,k4,_⟩:=h4 _ _ _ _ e4 (fun x hx=>b x (.inr (.inr (.inr (.inr hx)))));exact⟨(x0,x1,x2,x3,x4),⟨hl,k0,k1,k2,k3,k4⟩,Jl _⟩
def GT (W:Z)(cs:LV_)(p:LL_×LJ_):Prop:=∃ tv cv,cs=[tv,cv]∧k7 W tv cv p.1 p.2
theorem me:cM c prog W 25 (fun _=>0) (GT W):=by
 have h3:=reachBytes_lt;have o1:cM c prog W 22 _ _:=gH (size:=1) underlying22 q_ d_ (lm underlying9);have t:cM c prog W 23 _ _:=gH (size:=2) underlying23 q_ d_ Bv;refine IZ (je (c0:=1) (c1:=1) underlying25 q_ q_ q_ rfl rfl o1 t) ?_;rintro cs⟨texts,I⟩ ⟨e,f,rfl,_,_,⟨tv,rfl,h1,h2⟩,cv,rfl,h4,h5⟩;have a8:prog.bytesOf 9=16:=q_;have aY:prog.bytesOf 109=2:=q_;rw[a8]at h2;rw[aY]at h5;obtain⟨r1,r2⟩:=Dq aP (fun cs x h=>h.1) h1;obtain⟨r3,_⟩:=Dq bH (fun cs x h=>h) h4;refine⟨(texts,I),⟨tv,cv,rfl,⟨r1,r3,?_,?_,fun s hs=>by obtain⟨cs,_,h⟩:=r2 s hs;exact h⟩⟩,Jl _⟩
 ·have E:texts.length*16≤reachBytes:=h2
  show texts.length≤_;omega
 ·have a:I.length*2≤reachBytes:=h5
  show I.length≤_;omega
theorem yW {a:Int}(h:(Lit.int .i64 a).wf=true):-9223372036854775808≤a∧a≤9223372036854775807:=by
 simp[Lit.wf,IntKind.min,IntKind.max,IntKind.signed,IntKind.bits]at h;omega
theorem DL {bZ j:Nat}{v:V_}{d:DataW A}{ps:List MemPlace}{a:List T_}{ds:List (DataW A)}(hv:Value.okWide prog W .any bZ 27 v)(h:DataW.Trod c prog W 0 (fun _=>true) true 27 v d ps)(a6:(DataW.weightsEach prog a ds).all (·≤reachBytes)=true)(hj:a[j]?=some 27)(hd:ds[j]?=some d):∃ (t1 c1 t2 c2 t3 c3:V_) (ap:Jb),v=bM t1 c1 t2 c2 t3 c3 ap∧rM W t1 c1 t2 c2 t3 c3 ap:=by
 obtain⟨⟨p0,p1,p2,a3,a4⟩,⟨hl,k0,k1,k2,k3,k4⟩,_⟩:=qn (lP underlying27 me me me (gZ (k:=.i64) underlying3) (gZ (k:=.i64) underlying3)) h a6 hj hd;obtain⟨cs,rfl,f⟩:=okWide_struct underlying27 hv;have c8:prog.cellsOf 27=8:=q_;have c2:prog.cellsOf 25=2:=q_;have c1:prog.cellsOf 3=1:=q_;have e:(Value.agg cs).cells.toList=cs.toList:=by simp[Value.cells]
 rw[e]at hl k0 k1 k2 k3 k4;rw[c8]at hl;dsimp only at k0 k1 k2 k3 k4;simp only[c2,c1]at k0 k1 k2 k3 k4;obtain⟨L,hL⟩:=H cs.toList;rw[←hL]at hl k0 k1 k2 k3 k4
 match L,hl,hL,k0,k1,k2,k3,k4 with
 | [l0,l1,l2,l3,l4,i,l,t],_,hL,⟨n,o,q0,Q⟩,⟨q,r,q1,r1⟩,⟨s,dC,q2,r2⟩,⟨q3,r3⟩,⟨q4,b⟩ =>
  simp at q0 q1 q2 q3 q4;obtain⟨rfl,rfl⟩:=q0;obtain⟨rfl,rfl⟩:=q1;obtain⟨rfl,rfl⟩:=q2;subst q3 q4;obtain⟨b3,m⟩:=yW r3;obtain⟨b4,g⟩:=yW b;refine⟨l0,l1,l2,l3,l4,i,⟨p0.1,p0.2,p1.1,p1.2,p2.1,p2.2,a3,a4⟩,?_,⟨Q,r1,r2,b3,m,b4,g⟩⟩;rw[←Array.toArray_toList (xs:=cs),←hL]
  rfl
def FM (W:Z)(cs:LV_)(ac:LQ_):Prop:=∃ v,cs=[v]∧RR W v ac∧ac.length≤5864062014634∧∀ l∈ac,l.length≤4398046511104∧∀ p∈l,p.1.length≤140737488355328∧p.2.length≤140737488355328
theorem vX:cM c prog W 32 (fun ac:LQ_=>(ac.map Ga).sum+1) (FM W):=by
 refine cM.imp (gH (size:=1) underlying32 q_ d_ kE) ?_;rintro cs ac⟨v,rfl,⟨a,ah,rfl,aq,hn,hc⟩,hb⟩;have aS:prog.bytesOf 29=24:=q_;rw[aS]at hb;have h2:reachBytes=140737488351232:=rfl;refine⟨_,rfl,⟨a,ah,rfl,aq,hn,?_⟩,by omega,?_⟩
 ·intro k hk
  obtain⟨b,aL,cs,ha,_,y,v,rfl,h1,_⟩:=hc k hk;refine⟨b,aL,v,ha,?_,h1⟩;have:=y 0 _ rfl;simpa using this
 ·intro l hl
  obtain⟨k,hk,rfl⟩:=List.getElem_of_mem hl;obtain⟨_,_,_,_,_,_,_,_,_,h3,h4⟩:=hc k hk;exact⟨h3,h4⟩
end
end
section
open Go.ChangeShapes Go.WideShapes Go.ChangeAt Go.RowKit Oct
def B3:AV_:=#[.nilFunc,.func (.func 262) #[] #[],.func (.func 263) #[] #[],.func (.func 264) #[] #[],.func (.func 265) #[] #[],.func (.func 266) #[] #[],.func (.func 267) #[] #[],.func (.func 268) #[] #[],.func (.func 269) #[] #[],.func (.func 270) #[] #[],.func (.func 271) #[] #[],.func (.func 272) #[] #[],.func (.func 273) #[] #[],.func (.func 274) #[] #[],.func (.func 275) #[] #[],.func (.func 276) #[] #[],.func (.func 277) #[] #[],.func (.func 278) #[] #[],.func (.func 279) #[] #[],.func (.func 280) #[] #[],.func (.func 281) #[] #[],.func (.func 282) #[] #[],.func (.func 283) #[] #[],.func (.func 284) #[] #[]] /- 1 -/
def EU:Obj→Obj
 | .cells _ t E=>.cells B3 t E
 | o=>o
noncomputable def tE (d:Os):Z:={ World.holding prog d ⟨#[],#[],[]⟩ with heap:=(World.holding prog d ⟨#[],#[],[]⟩).heap.modify 1 EU }
noncomputable def tF (d:Os):Z:=(tE d).layVars prog gO
theorem AS (d:Os):(tF d).os=d:=by
 show((tE d).layVars prog gO).os=d;rw[World.layVars_os]
 rfl
theorem xP (d:Os)(az:AV_):laidMetH prog kK ((tF d).forCall (fun _ _=>0) ⟨#[],az,[]⟩).memory:=by
 refine laidMetH_of_parts3 (fuel:=8) ?_ q_ q_;rw[show(kK.filter fun x=>x.2.handleName?.isNone)=gO from rfl];have e1:(gO.filter fun x=>(gO.map (·.1)).contains x.1)=gO:=List.filter_eq_self.2 fun x hx=>List.contains_iff_mem.2 (List.mem_map.2 ⟨x,hx,rfl⟩);have e2:(gO.filter fun x=>!(gO.map (·.1)).contains x.1)=[]:=List.filter_eq_nil_iff.2 fun x hx=>by rw[List.contains_iff_mem.2 (List.mem_map.2 ⟨x,hx,rfl⟩)];simp
 have h:laidMet prog gO (tF d):=laidMet_layVars (w0:=tE d) (gO.map (·.1)) [] (by rw[e1];rfl) (by rw[e1];kernel_rfl) (by rw[e1];kernel_rfl) (by rw[e2];exact LaidIn.none);exact h.of_heap (by simp[World.memory,World.forCall,Input.heap])
end
section
open Go.ChangeShapes Go.WideShapes Go.ChangeAt Go.RowKit Oct
section
variable {A:Type}{c:T_×V_→A}{W:Z}
def Ev (W:Z)(cs:LV_)(s:Stp):Prop:=∃ ra rn rc ov,cs=[.int .i64 s.act,.slice ra rn rc,.int .u8 s.k.toNat,.string (bs s.key),ov]∧RR W (.slice ra rn rc) s.rows∧RP W ov s.row∧StB s
theorem yw:cM c prog W 53 (fun _:Stp=>0) (Ev W):=by
 refine IZ (lP underlying53 (gZ (k:=.i64) underlying3) vX (gZ (k:=.u8) underlying5) (lm underlying9) kE) ?_;rintro cs⟨az,ac,k,z,row⟩ ⟨hl,k0,k1,k2,k3,k4⟩;have c5:prog.cellsOf 53=5:=q_;have c0:prog.cellsOf 3=1:=q_;have c1:prog.cellsOf 32=1:=q_;have c2:prog.cellsOf 5=1:=q_;have c3:prog.cellsOf 9=1:=q_;have c4:prog.cellsOf 29=1:=q_;rw[c5]at hl;dsimp only at k0 k1 k2 k3 k4;simp only[c0,c1,c2,c3,c4]at k0 k1 k2 k3 k4
 match cs,hl,k0,k1,k2,k3,k4 with
 | [l0,l1,l2,l3,l4],_,⟨q0,w0⟩,⟨v1,q1,r1,b1,a⟩,⟨q2,w2⟩,⟨q3,b3⟩,⟨m,q4,b,b4,g⟩ =>
  simp at q0 q1 q2 q3 q4;subst q0 q1 q2 q3 q4;obtain⟨a0,a1⟩:=yW w0;obtain⟨kk,rfl⟩:=xK w2;have d:=r1;obtain⟨ra,rc,rfl,-,-,-⟩:=d;exact⟨⟨az,ac,kk,z,row⟩,⟨ra,ac.length,rc,_,rfl,r1,b,⟨a0,a1,by show ac.length≤_;omega,fun r hr=>⟨by have:=(a r hr).1;omega,(a r hr).2⟩,b3,⟨by show row.length≤_;omega,g⟩⟩⟩,Jl _⟩
theorem Gr {v:V_}{xs:List Stp}(h:px W 5 (Ev W) v xs):SpR W v xs∧∀ s∈xs,StB s:=by
 obtain⟨a,ah,rfl,aq,hn,hc⟩:=h;refine⟨⟨a,ah,rfl,aq,fun i hi=>?_⟩,fun p hp=>?_⟩
 ·obtain⟨b,aL,cs,ha,hl,y,ra,rn,rc,ov,rfl,h1,h2,h3⟩:=hc i hi
  refine⟨b,aL,ra,rn,rc,ov,ha,?_,y 1 _ rfl,y 2 _ rfl,y 3 _ rfl,y 4 _ rfl,h1,h2⟩;have:=y 0 _ rfl;simpa using this
 ·obtain⟨k,hk,rfl⟩:=List.getElem_of_mem hp
  obtain⟨_,_,_,_,_,_,_,_,_,_,_,_,_,h⟩:=hc k hk;exact h
theorem yy {bZ j:Nat}{v:V_}{d:DataW A}{ps:List MemPlace}{a:List T_}{ds:List (DataW A)}(hv:Value.okWide prog W .any bZ 28 v)(h:DataW.Trod c prog W 0 (fun _=>true) true 28 v d ps)(a6:(DataW.weightsEach prog a ds).all (·≤reachBytes)=true)(hj:a[j]?=some 28)(hd:ds[j]?=some d):∃ l:List Stp,SpR W v l∧l.length≤140737488355328∧∀ s∈l,StB s:=by
 have ho:cM c prog W 28 _ _:=gH (size:=5) underlying28 q_ d_ yw;obtain⟨l,⟨v',aR,h1,h2⟩,_⟩:=qn ho h a6 hj hd;obtain rfl:=o6 underlying28 hv aR;have aS:prog.bytesOf 53=80:=q_;rw[aS]at h2;have h3:=reachBytes_lt;obtain⟨h4,h5⟩:=Gr h1;exact⟨l,h4,by omega,h5⟩
end
end
