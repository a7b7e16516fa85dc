/- Lemmas for MapperTells: walks, plain laws. -/
import Derived.ProofKit
import Derived.OpenShut
import Derived.ShutString
import Derived.ChangeOld
import Derived.SizedLaws
import Derived.SliceStrings
import Derived.Deep.Slices
import Derived.ChangeSame
import Derived.Lay
import Derived.LaidMore
import Derived.Lib.LaidU8
import Derived.HandedShaped
import Derived.Stop.LaidErr
import Derived.Shelf.Vars
import Derived.LaidSub
import Derived.Stop.Joined
import Derived.Test.YtckhfapcmjlmbaaGreatDoorMapperTellsK20
set_option linter.unusedSimpArgs false
set_option linter.unusedVariables false
set_option maxRecDepth 100000
set_option maxHeartbeats 16000000
namespace Go.Proofs.YtckhfapcmjlmbaaGreatDoor
open Go.RowKit Oct
section
open Go.ChangeShapes Go.WideShapes Go.ChangeAt Go.RowKit Oct
open Go.ChangeMaps (open_string shut_string)
section
variable {P:Program}{H:Type}{enc:TypeId×Value→H}{W:World}{bZ:Nat}
theorem yZ {t j:Nat}{v:Value}{d:DataW H}{ps:List MemPlace}{ts:List TypeId}{ds:List (DataW H)}(ht:P.underlying t=some .string)(hv:Value.okWide P W .any bZ t v)(h:DataW.Trod enc P W 0 (fun _=>true) true t v d ps)(hsz:(DataW.weightsEach P ts ds).all (·≤reachBytes)=true)(hj:ts[j]?=some t)(hd:ds[j]?=some d):∃ l:LU_,v=.string (bs l)∧l.length≤140737488355328:=by
 obtain⟨s,rfl,rfl,_,_⟩:=open_string ht hv h;refine⟨s.data.toList,by rw[zG],?_⟩;have:=sized_string hsz hj hd;have h2:=reachBytes_lt;omega
theorem zN {w:World}{a:Addr}{i:Nat}{u:Value}(h:w.cell? (a.add i)=some u):a.add i=⟨a.block,a.off+i,none⟩:=by
 unfold Addr.add at h⊢
 split
 ·rename_i hi
  rw[if_pos hi]at h;subst hi
  cases a with
  | mk b o sp =>
   cases sp with
   | none=>rfl
   | some x=>exfalso;revert h;simp only[World.cell?];split<;>simp
 ·rfl
end
end
section
open Go.ChangeShapes Go.WideShapes Go.ChangeAt Go.RowKit Oct
open Go.ChangeMaps (open_string shut_string)
section
variable {P:Program}{H:Type}{enc:TypeId×Value→H}{W:World}{α β γ:Type}
def dE (enc:TypeId×Value→H)(P:Program)(W:World)(t:TypeId)(mu:α→Nat)(He:List Value→α→Prop):Prop :=
 ∀ n cs d ps,DataW.trod enc P W 0 (fun _=>true) true n t cs=some (d,ps)→(∀ x∈d.weights P t,x≤reachBytes)→∃ x,He cs x∧mu x≤Rows.uptoBulk d
theorem nQ (D:Nat→DataW H)(f:Nat→α)(mu:α→Nat):∀ n,(∀ i,i<n→mu (f i)≤Rows.uptoBulk (D i))→(((List.range n).map f).map mu).sum≤Rows.uptoBulkAll ((List.range n).map D)
 | 0,_=>by simp
 | n+1,h=>by
  have ih:=nQ D f mu n (fun i hi=>h i (by omega))
  have app:∀ (l r:List (DataW H)),Rows.uptoBulkAll (l++r)=Rows.uptoBulkAll l+Rows.uptoBulkAll r:=by
   intro l r
   induction l with
   | nil=>simp[Rows.uptoBulkAll]
   | cons x l ih=>simp only[Dx,Rows.uptoBulkAll,ih];omega
  have:=h n (by omega);simp only[List.range_succ,DJ,List.sum_append,app,List.map_cons,List.map_nil,List.sum_cons,List.sum_nil,Rows.uptoBulkAll];omega
def vp (W:World)(size:Nat)(He:List Value→α→Prop)(v:Value)(xs:List α):Prop :=
 ∃ a cap,v=.slice a xs.length cap∧xs.length≤cap∧(a=none→xs.length=0∧cap=0) ∧
  ∀ k (h:k<xs.length),∃ b off cs,a=some ⟨b,off,none⟩∧cs.length=size∧(∀ j u,cs[j]?=some u→W.cell? ⟨b,off+k*size+j,none⟩=some u)∧He cs xs[k]
theorem iw (e:TypeId):∀ (ds:List (DataW H)) (d:DataW H),d∈ds→∀ x∈d.weights P e,x∈DataW.weightsAll P e ds
 | [],_,h=>by simp at h
 | d0::ds,d,h=>by
  intro x hx;rw[DataW.weightsAll];rcases List.mem_cons.1 h with rfl|h
  ·exact DM.2 (.inl hx)
  ·exact DM.2 (.inr (iw e ds d h x hx))
theorem wV {t:TypeId}(ht:P.underlying t=some .string):dE enc P W t (fun l:LU_=>l.length+1) fun cs (l:LU_)=>cs=[.string (bs l)]∧l.length≤140737488355328:=by
 intro n cs d ps h hw;obtain⟨s,rfl,hx,_⟩:=DataW.trod_string ht h;simp only[Prod.mk.injEq]at hx;obtain⟨rfl,rfl⟩:=hx;have:=hw s.data.toList.length (by simp[DataW.weights]);have h2:=reachBytes_lt;exact⟨s.data.toList,⟨by rw[zG],by omega⟩,by simp[Rows.uptoBulk]⟩
theorem jj {t:TypeId}{k:IntKind}(ht:P.underlying t=some (.int k)):dE enc P W t (fun _=>1) fun cs (a:Int)=>cs=[.int k a]∧(Lit.int k a).wf=true:=by
 intro n cs d ps h hw;obtain⟨a,rfl,hx,hwf⟩:=DataW.trod_int ht h;simp only[Prod.mk.injEq]at hx;obtain⟨rfl,rfl⟩:=hx;exact⟨a,⟨rfl,hwf⟩,by simp[Rows.uptoBulk]⟩
theorem jC {t:TypeId}{f0 f1:Field}{c0 c1:Nat}{m0:α→Nat}{m1:β→Nat}{H0:List Value→α→Prop}{H1:List Value→β→Prop}(ht:P.underlying t=some (.struct #[f0,f1]))(hc:P.cellsOf t=c0+c1)(hc0:P.cellsOf f0.type=c0)(hc1:P.cellsOf f1.type=c1)(o0:f0.offset=0)(o1:f1.offset=c0)(h0:dE enc P W f0.type m0 H0)(h1:dE enc P W f1.type m1 H1):dE enc P W t (fun p=>m0 p.1+m1 p.2+1) fun cs (p:α×β)=>∃ cs0 cs1,cs=cs0++cs1∧cs0.length=c0∧cs1.length=c1∧H0 cs0 p.1∧H1 cs1 p.2:=by
 intro n cs d ps h hw;obtain⟨y0,y1,m,hx,hl,e0,e1⟩:=trod_struct2 ht h;simp only[Prod.mk.injEq]at hx;obtain⟨rfl,rfl⟩:=hx
 have hw':∀ x,x∈y0.1.weights P f0.type∨x∈y1.1.weights P f1.type→x≤reachBytes:=by
  intro x hx;refine hw x ?_;simp only[DataW.weights,ht,DataW.weightsEach,List.map_cons,DM];rcases hx with hx|hx
  ·exact .inl hx
  ·exact .inr (.inl hx)
 obtain⟨x0,k0,b0⟩:=h0 _ _ _ _ e0 (fun x hx=>hw' x (.inl hx));obtain⟨x1,k1,b1⟩:=h1 _ _ _ _ e1 (fun x hx=>hw' x (.inr hx));rw[o0,hc0,DX]at k0;rw[o1,hc1]at k1;refine⟨(x0,x1),⟨cs.take c0,(cs.drop c0).take c1,?_,?_,?_,k0,k1⟩,by simp only[Rows.uptoBulk,Rows.uptoBulkAll];omega⟩
 ·have:(cs.drop c0).take c1=cs.drop c0:=DB (by simp;omega)
  rw[this,List.take_append_drop]
 ·simp;omega
 ·simp;omega
theorem lN {t e:TypeId}{size:Nat}{mu:α→Nat}{He:List Value→α→Prop}(ht:P.underlying t=some (.slice e))(hc:P.cellsOf e=size)(hpos:0<size)(he:dE enc P W e mu He):dE enc P W t (fun xs=>(xs.map mu).sum+1) fun cs (xs:List α)=>∃ v,cs=[v]∧vp W size He v xs∧xs.length*P.bytesOf e≤reachBytes:=by
 intro n cs d ps h hw;rcases Deep.open_slice ht h with ⟨rfl,hx⟩|⟨a,len,cap,m,n',D,Pl,rfl,_,hl,hm,hmm,hx,hcell⟩
 ·simp only[Prod.mk.injEq]at hx
  obtain⟨rfl,_⟩:=hx;exact⟨[],⟨_,rfl,⟨none,0,rfl,DC _,fun _=>⟨rfl,rfl⟩,fun k hk=>by simp at hk⟩,by simp⟩,by simp[Rows.uptoBulk]⟩
 ·simp only[Prod.mk.injEq]at hx
  obtain⟨rfl,_⟩:=hx;simp only[if_true]at hmm;subst hmm
  have hin:∀ i,i<len→∀ x∈(D i).weights P e,x≤reachBytes:=by
   intro i hi x hx;refine hw x ?_;simp only[DataW.weights,ht];exact List.mem_cons.2 (.inr (DM.2 (.inl (iw e _ (D i) (List.mem_map.2 ⟨i,by simpa using hi,rfl⟩) x hx))))
  have each:∀ i,i<len→∃ x:α,(∃ cs',W.cells? 0 (a.add (i*size)) size=some cs'∧He cs' x)∧mu x≤Rows.uptoBulk (D i):=by
   intro i hi;obtain⟨cs',h1,h2⟩:=hcell i (by omega);rw[hc]at h1;obtain⟨x,hx,hb⟩:=he _ _ _ _ h2 (hin i hi);exact⟨x,⟨cs',h1,hx⟩,hb⟩
  have hlen:=hw ((len+(m-len))*P.bytesOf e) (by simp[DataW.weights,ht]);have hlb:len*P.bytesOf e≤(len+(m-len))*P.bytesOf e:=DV _ (by omega)
  by_cases h0:len=0
  ·subst h0
   exact⟨[],⟨_,rfl,⟨some a,m,rfl,D6 _,by simp,fun k hk=>by simp at hk⟩,by simp⟩,by simp[Rows.uptoBulk]⟩
  obtain⟨x0,_⟩:=each 0 (by omega)
  haveI:Inhabited α:=⟨x0⟩
  obtain⟨f,hf⟩:=Deep.choose_lt each
  have haddr:a=⟨a.block,a.off,none⟩:=by
   obtain⟨⟨cs',h1,_⟩,_⟩:=hf 0 (by omega);obtain⟨_,hl',hcs⟩:=World.cells?_some h1;have h2:=hcs 0 (by omega);rw[Nat.zero_mul]at h2;have h3:∃ u,cs'[0]?=some u:=⟨cs'[0]'(by omega),List.getElem?_eq_getElem _⟩
   obtain⟨u,hu⟩:=h3;rw[hu]at h2;have:=zN (a:=a.add 0) (i:=0) h2;simpa[Addr.add] using this
  have hbulk:=nQ D f mu len (fun i hi=>(hf i hi).2);refine⟨(List.range len).map f,⟨_,rfl,⟨some a,m,by simp,by simpa using hl,by simp,?_⟩,?_⟩,by simp only[Rows.uptoBulk];omega⟩
  ·intro k hk
   have hk':k<len:=by simpa using hk
   obtain⟨⟨cs',h1,hHe⟩,_⟩:=hf k hk';obtain⟨_,hl',hcs⟩:=World.cells?_some h1;refine⟨a.block,a.off,cs',by rw[←haddr],hl',?_,by simpa using hHe⟩;intro j u hj
   have hjl:j<size:=by
    rcases Nat.lt_or_ge j size with h|h
    ·exact h
    ·rw[List.getElem?_eq_none (by omega)]at hj;cases hj
   have h2:=hcs j hjl;rw[haddr,hj,Addr.add_lit,Addr.add_lit]at h2;rw[←h2]
  ·simp only[Ed,List.length_range];omega
theorem y9 {t j:Nat}{v:Value}{d:DataW H}{ps:List MemPlace}{ts:List TypeId}{ds:List (DataW H)}{mu:α→Nat}{He:List Value→α→Prop}(ho:dE enc P W t mu He)(h:DataW.Trod enc P W 0 (fun _=>true) true t v d ps)(hsz:(DataW.weightsEach P ts ds).all (·≤reachBytes)=true)(hj:ts[j]?=some t)(hd:ds[j]?=some d):∃ x,He v.cells.toList x∧mu x≤Rows.uptoBulk d:=by
 obtain⟨fuel,hf⟩:=h;refine ho _ _ _ _ hf fun x hx=>?_;simpa using List.all_eq_true.1 hsz x (DataW.weights_mem_each hj hd x hx)
end
end
section
open Go.ChangeShapes Go.WideShapes Go.ChangeAt Go.RowKit Oct
section
variable {H:Type}{enc:TypeId×Value→H}{W:World}
theorem yA {α:Type}(R:Rec α){He:List Value→α→Prop}(hcs0:∀ cs x,He cs x→cs=R.cell x){v:Value}{xs:List α}(h:vp W R.n He v xs):R.Row W v xs∧∀ x∈xs,∃ cs,He cs x:=by
 obtain⟨a,cap,rfl,hle,hn,hc⟩:=h;have hpos:=R.pos;refine⟨⟨⟨a,cap,rfl,hn,?_⟩,a,cap,rfl,hle⟩,?_⟩
 ·intro j u hj
  have hjl:j<xs.length*R.n:=by
   rcases Nat.lt_or_ge j (xs.length*R.n) with h|h
   ·exact h
   ·rw[List.getElem?_eq_none (by rw[Rec.cells_length];exact h)]at hj;cases hj
  have hk:j / R.n<xs.length:=Nat.div_lt_of_lt_mul (by rw[Nat.mul_comm];exact hjl);obtain⟨b,off,cs,ha,hl,hcell,hcs⟩:=hc (j / R.n) hk;obtain rfl:=hcs0 _ _ hcs;refine⟨b,off,ha,?_⟩;have hm:j%R.n<R.n:=Nat.mod_lt _ hpos;have hu:(R.cell xs[j / R.n])[j%R.n]?=some ((R.cell xs[j / R.n])[j%R.n]'(by rw[R.len];exact hm)):=List.getElem?_eq_getElem _;have h1:=R.cells_at xs (j / R.n) hk (j%R.n) _ hu;have e:j / R.n*R.n+j%R.n=j:=Nat.div_add_mod' j R.n;rw[e,hj]at h1;have h2:=hcell (j%R.n) _ hu;rw[←Option.some.inj h1,Dy,e]at h2;exact h2
 ·intro p hp
  obtain⟨k,hk,rfl⟩:=List.getElem_of_mem hp;obtain⟨_,_,cs,_,_,_,h⟩:=hc k hk;exact⟨cs,h⟩
end
end
section
open Go.ChangeShapes Go.WideShapes Go.ChangeAt Go.RowKit Oct
theorem ye {a:Int}(h:(Lit.int .u8 a).wf=true):∃ r:UInt8,a=(r.toNat:Int):=by
 have h2:0≤a∧a<256:=by
  simp[Lit.wf,IntKind.min,IntKind.max,IntKind.signed,IntKind.bits]at h;omega
 refine⟨UInt8.ofNat a.toNat,?_⟩;rw[UInt8.toNat_ofNat'];omega
section
variable {H:Type}{enc:TypeId×Value→H}{W:World}
theorem dE.mapV {P:Program}{α β:Type}{t:TypeId}{mu:α→Nat}{mu':β→Nat}{He:List Value→α→Prop}{He':List Value→β→Prop}(h:dE enc P W t mu He)(hi:∀ cs x,He cs x→∃ y,He' cs y∧mu' y≤mu x):dE enc P W t mu' He':=by
 intro n cs d ps hd hw;obtain⟨x,hx,hb⟩:=h n cs d ps hd hw;obtain⟨y,hy,hm⟩:=hi _ _ hx;exact⟨y,hy,DG hm hb⟩
theorem wW:dE enc Tryz.prog W 127 (fun _:VI=>0) fun cs x=>cs=bp.cell x:=by
 refine dE.mapV (jC (c0:=1) (c1:=1) Tryz.underlying127 (by kernel_rfl) (by kernel_rfl) (by kernel_rfl) rfl rfl (jj (k:=.u8) Tryz.underlying5) (jj (k:=.u8) Tryz.underlying5)) ?_;rintro cs ⟨a,b⟩ ⟨cs0,cs1,rfl,_,_,⟨rfl,h0⟩,rfl,h1⟩;obtain⟨r0,rfl⟩:=ye h0;obtain⟨r1,rfl⟩:=ye h1;exact⟨(r0,r1),rfl,D6 _⟩
end
def Bf : List (String × DataW Unit) := [("unicode/utf8.acceptRanges", Rows.laid_unicode_utf8_acceptRanges), ("maslin/verify.effects" /- 1 -/, Rows.laid_maslin_verify_effects), ("unicode/utf8.first", Rows.laid_unicode_utf8_first)]
theorem xj:Rows.laid_maslin_verify_effects (H:=Unit) /- 1 330 -/=.agg (dj.map fun e=>.agg [.lit (.string e.1),.lit (.string e.2)]):=by kernel_rfl
theorem uM {s:ByteArray}{l:LU_}(h:s.data.toList=l):Value.string s=.string (bs l):=by subst h;rw[zG]
theorem ss {W:World}(h:laidMetH Tryz.prog Bf W):jy W∧1<W.heap.size:=by
 rw[MakeChecks.laidMetH_plain _ _ _ (by kernel_rfl)]at h;obtain ⟨g, t, cs, fuel, p, hg, ht, hv, hd⟩ := Lib.laidMet.reads (n := "maslin/verify.effects") (d := Rows.laid_maslin_verify_effects) h (.tail _ (.head _));obtain rfl := Option.some.inj ((show Tryz.prog.globalNamed "maslin/verify.effects" = some 1 by kernel_rfl).symm.trans hg);obtain rfl:=Option.some.inj ((show(Tryz.prog.globals[1]?).map (·.type)=some 330 by kernel_rfl).symm.trans ht);rw[xj]at hd;obtain⟨xs,m,_,ex,_,hl,hel⟩:=DataW.trod_array Tryz.underlying330 hd;have c2:Tryz.prog.cellsOf 329=2:=by kernel_rfl
 have c1:Tryz.prog.cellsOf 9=1:=by kernel_rfl
 have e3:xs.map (·.1)=dj.map fun e=>.agg [.lit (.string e.1),.lit (.string e.2)]:=(DataW.agg.inj (Prod.mk.inj ex).1).symm
 have key:jy W:=by
  intro k hk;have hE:=hel k hk;rw[c2,List.getElem?_eq_getElem (by omega)]at hE;have hlen:dj.length=24:=sr;have e4:(xs.map (·.1))[k]?=(dj.map fun e=>(DataW.agg [.lit (.string e.1),.lit (.string e.2)]:DataW Unit))[k]?:=by rw[e3]
  rw[List.getElem?_map,List.getElem?_map,List.getElem?_eq_getElem (by omega:k<xs.length),List.getElem?_eq_getElem (by omega:k<dj.length)]at e4;obtain⟨y0,y1,n,hx,_,t0,t1⟩:=trod_struct2 Tryz.underlying329 hE;obtain⟨s0,q0,hy0,_⟩:=DataW.trod_string Tryz.underlying9 t0;obtain⟨s1,q1,hy1,_⟩:=DataW.trod_string Tryz.underlying9 t1;rw[hx,hy0,hy1]at e4;simp only[Option.map_some,Option.some.injEq,DataW.agg.injEq,List.cons.injEq,DataW.lit.injEq,Lit.string.injEq,and_true]at e4;have hd':dj.getD k ([],[])=dj[k]'(by omega):=by rw[List.getD,List.getElem?_eq_getElem (by omega:k<dj.length)];rfl
  rw[World.var?_cell hg hv,World.var?_cell hg hv,hd'];rw[c1]at q0 q1
  have p0:cs.toList[k*2]?=some (.string s0):=by
   have:((((cs.toList.drop (k*2)).take 2).drop 0).take 1)[0]?=some (.string s0):=by rw[q0];rfl
   simpa using this
  have p1:cs.toList[k*2+1]?=some (.string s1):=by
   have:((((cs.toList.drop (k*2)).take 2).drop 1).take 1)[0]?=some (.string s1):=by rw[q1];rfl
   simpa using this
  refine⟨?_,?_⟩
  ·rw[←uM e4.1];simpa using p0
  ·rw[←uM e4.2];simpa using p1
 refine⟨key,?_⟩;have:=(key 0 (by decide)).1;rcases Nat.lt_or_ge 1 W.heap.size with hn|hn
 ·exact hn
 ·exfalso
  rw[World.cell?,Array.getElem?_eq_none hn]at this
  cases this
end
section
open Go.ChangeShapes Go.WideShapes Go.ChangeAt Go.RowKit Oct
section
variable {H:Type}{enc:TypeId×Value→H}{W:World}
theorem kL {a:Assume}{C:Checked}{os:Os}{f:FuncId}{fn:Func}{s:ChangeSpec}{conds:List PathCond}{apart fresh handsOn again:Bool}{X:World→Array Value→Prop}(hX:∀ (w w':World) (args:Array Value),w.heap=w'.heap→X w args→X w' args)(own:ownKnob C.prog.godebug=none)(started:os.Started)(noInit:C.prog.inits.idxOf? f=none)(hfn:C.prog.funcs[f]?=some fn)(witness:∃ (w:World) (tape:Tape) (i:Input),w.os=os∧(w.forCall tape i).Shaped C.prog∧i.vars=[]∧Input.okWide C.prog (w.forCall tape i) .any w.heap.size f i ∧((s.pre enc C.prog fn conds apart (w.forCall tape i).memory i.args∧X (w.forCall tape i).memory i.args)∧sizedMet enc C.prog fn (OpenSpec.ofChange s) apart (w.forCall tape i).memory i.args)∧a.holds C.prog (lone (Frame.enter C.prog f i.args .normal) [] (w.forCall tape i)))(contract:∀ (W:World) (bZ:Nat) (args:Array Value) (ds gs:List (DataW H)) (before:List MemPlace), (∀ (j:Nat) t v,fn.params[j]?=some t→args[j]?=some v→Value.okWide C.prog W .any bZ t v) → DataW.Whole enc C.prog fn.params.toList s.vars apart W args.toList ds gs before → (DataW.weightsEach C.prog (fn.params.toList++s.plain.varTypes C.prog) (ds++gs)).all (·≤reachBytes)=true→X W args→W.ShapedOpen C.prog → Calls C.prog f args W fun e W'=>∃ v,e=.returned v∧s.post enc C.prog fn apart fresh handsOn again W args v W'):ReturnsInHanded a C os f .any (fun w args=>(s.pre enc C.prog fn conds apart w args∧X w args)∧sizedMet enc C.prog fn (OpenSpec.ofChange s) apart w args) (s.post enc C.prog fn apart fresh handsOn again):=by
 refine returnsInHanded_of_calls own started noInit witness ?_;intro w tape i _ hsh _ hok hpre _;obtain⟨_,_,_,fn',hfn',_,_,_,_,hval⟩:=hok;have e:fn'=fn:=Option.some.inj (hfn'.symm.trans hfn);subst e;obtain⟨⟨⟨ds,gs,before,hw,_⟩,hx⟩,hz⟩:=hpre;have hw':=DataW.Whole.of_heap (w':=w.forCall tape i) (by rfl) hw;refine(contract (w.forCall tape i) w.heap.size i.args ds gs before hval hw' (hz.weights hw) (hX _ _ _ (by rfl) hx) hsh).mono fun e W' ⟨v,he,hp⟩=>?_;subst he;exact ChangeSpec.post_blind hp
end
theorem zy (u : TypeId)(h : Tryz.prog.typeName? 3 u = some "*errors.errorString") : u = 379 :=
 have hs : "*" ++ "errors.errorString" = "*errors.errorString" := by decide
 typeName_ptr_named (nm := "errors.errorString") (by rw [hs]; kernel_rfl) (by kernel_rfl) (by decide) u (by rw [hs]; exact h)
end
section
open Go.ChangeShapes Go.WideShapes Go.ChangeAt Go.RowKit Oct
section
variable {H:Type}{enc:TypeId×Value→H}{W:World}
end
end
section
open Go.ChangeShapes Go.WideShapes Go.ChangeAt Go.RowKit Oct
def iR : List (String × DataW Unit) := [("math/bits.deBruijn32tab", Rows.laid_math_bits_deBruijn32tab), ("math/bits.deBruijn64tab", Rows.laid_math_bits_deBruijn64tab), ("internal/strconv.uint64pow10", Rows.laid_internal_strconv_uint64pow10), ("unicode/utf8.acceptRanges", Rows.laid_unicode_utf8_acceptRanges), ("strconv.ErrRange", Rows.laid_strconv_ErrRange), ("strconv.ErrSyntax", Rows.laid_strconv_ErrSyntax), ("maslin/verify.effects", Rows.laid_maslin_verify_effects), ("maslin/vm.does" /- 0 -/, Rows.laid_maslin_vm_does), ("unicode/utf8.first", Rows.laid_unicode_utf8_first)]
def fo : List (String × DataW Unit) := [("math/bits.deBruijn32tab", Rows.laid_math_bits_deBruijn32tab), ("math/bits.deBruijn64tab", Rows.laid_math_bits_deBruijn64tab), ("internal/strconv.uint64pow10", Rows.laid_internal_strconv_uint64pow10), ("unicode/utf8.acceptRanges", Rows.laid_unicode_utf8_acceptRanges), ("strconv.ErrRange", Rows.laid_strconv_ErrRange), ("strconv.ErrSyntax", Rows.laid_strconv_ErrSyntax), ("maslin/verify.effects", Rows.laid_maslin_verify_effects), ("unicode/utf8.first" /- 0 -/, Rows.laid_unicode_utf8_first)]
theorem rV {W:World}(h:laidMetH Tryz.prog iR W):laidMet Tryz.prog fo W:=by
 have h1:=(laidMetH_iff.1 h).1;rw[show(iR.filter fun x=>x.2.handleName?.isNone)=fo from rfl]at h1;exact h1
theorem ub {W:World}(h:laidMetH Tryz.prog iR W):jy W∧1<W.heap.size:=by
 have h1 := h.filter fun x => x.1 == "unicode/utf8.acceptRanges" || x.1 == "maslin/verify.effects" || x.1 == "unicode/utf8.first"
 rw [show (iR.filter fun x => x.1 == "unicode/utf8.acceptRanges" || x.1 == "maslin/verify.effects" || x.1 == "unicode/utf8.first") = Bf from rfl] at h1;exact ss h1
theorem xk:Rows.laid_internal_strconv_uint64pow10 (H:=Unit) /- 0 -/=Lib.tabData .u64 Lib.pow10Tab:=by kernel_rfl
theorem tZ {W:World}(h0:laidMetH Tryz.prog iR W)(hsh:W.ShapedOpen Tryz.prog):cU W:=by
 have h:=rV h0;refine⟨?_,?_,?_,?_⟩
 ·have h2:=h.tail.tail
  rw[xk]at h2;exact Lib.tabIs_of_head (g:=3) (t:=357) (e:=136) (n:=20) (by kernel_rfl) (by kernel_rfl) Tryz.underlying357 Tryz.underlying136 (by kernel_rfl) (by kernel_rfl) h2
 ·have hg : Tryz.prog.globalNamed "strconv.ErrSyntax" = some 6 := by kernel_rfl
  obtain⟨a,s,hv,_,_,_⟩:=laid_sentinel h.tail.tail.tail.tail.tail hg (by kernel_rfl) Tryz.underlying138 zy Tryz.underlying379 Tryz.underlying381 rfl rfl Tryz.underlying9 (by kernel_rfl) (by kernel_rfl);exact⟨_,_,by rw[World.var?_cell hg hv];rfl⟩
 ·have hg : Tryz.prog.globalNamed "strconv.ErrRange" = some 7 := by kernel_rfl
  obtain⟨a,s,hv,_,_,_⟩:=laid_sentinel h.tail.tail.tail.tail hg (by kernel_rfl) Tryz.underlying138 zy Tryz.underlying379 Tryz.underlying381 rfl rfl Tryz.underlying9 (by kernel_rfl) (by kernel_rfl);exact⟨_,_,by rw[World.var?_cell hg hv];rfl⟩
 ·exact cell_of_shapedOpen_int (zero:=#[.int .i64 0]) (t:=3) hsh (of_decide_eq_true (by kernel_rfl)) (by kernel_rfl) rfl (by kernel_rfl) (by kernel_rfl) Tryz.underlying3
def uL:List (DataW (LU_)):=[.nil,.held [40,42,109,97,115,108,105,110,47,118,109,46,109,97,99,104,105,110,101,41,46,116,101,120,116],.held [40,42,109,97,115,108,105,110,47,118,109,46,109,97,99,104,105,110,101,41,46,110,117,109],.held [40,42,109,97,115,108,105,110,47,118,109,46,109,97,99,104,105,110,101,41,46,105,110,112,117,116],.held [40,42,109,97,115,108,105,110,47,118,109,46,109,97,99,104,105,110,101,41,46,99,97,116],.held [40,42,109,97,115,108,105,110,47,118,109,46,109,97,99,104,105,110,101,41,46,115,105,122,101],.held [40,42,109,97,115,108,105,110,47,118,109,46,109,97,99,104,105,110,101,41,46,112,97,114,116],.held [40,42,109,97,115,108,105,110,47,118,109,46,109,97,99,104,105,110,101,41,46,112,97,114,115,101],.held [40,42,109,97,115,108,105,110,47,118,109,46,109,97,99,104,105,110,101,41,46,115,104,111,119],.held [40,42,109,97,115,108,105,110,47,118,109,46,109,97,99,104,105,110,101,41,46,97,100,100],.held [40,42,109,97,115,108,105,110,47,118,109,46,109,97,99,104,105,110,101,41,46,109,117,108],.held [40,42,109,97,115,108,105,110,47,118,109,46,109,97,99,104,105,110,101,41,46,108,101,115,115],.held [40,42,109,97,115,108,105,110,47,118,109,46,109,97,99,104,105,110,101,41,46,115,97,109,101],.held [40,42,109,97,115,108,105,110,47,118,109,46,109,97,99,104,105,110,101,41,46,110,111,116],.held [40,42,109,97,115,108,105,110,47,118,109,46,109,97,99,104,105,110,101,41,46,100,114,111,112],.held [40,42,109,97,115,108,105,110,47,118,109,46,109,97,99,104,105,110,101,41,46,100,117,112],.held [40,42,109,97,115,108,105,110,47,118,109,46,109,97,99,104,105,110,101,41,46,115,119,97,112],.held [40,42,109,97,115,108,105,110,47,118,109,46,109,97,99,104,105,110,101,41,46,103,101,116],.held [40,42,109,97,115,108,105,110,47,118,109,46,109,97,99,104,105,110,101,41,46,115,101,116],.held [40,42,109,97,115,108,105,110,47,118,109,46,109,97,99,104,105,110,101,41,46,98,114,97,110,99,104],.held [40,42,109,97,115,108,105,110,47,118,109,46,109,97,99,104,105,110,101,41,46,116,117,114,110],.held [40,42,109,97,115,108,105,110,47,118,109,46,109,97,99,104,105,110,101,41,46,101,110,100],.held [40,42,109,97,115,108,105,110,47,118,109,46,109,97,99,104,105,110,101,41,46,101,97,99,104],.held [40,42,109,97,115,108,105,110,47,118,109,46,109,97,99,104,105,110,101,41,46,101,109,105,116]] /- 0 -/
theorem ud {W:World}(h:laidMetH Tryz.prog iR W):de W:=by
 obtain ⟨g, t, cs, fuel, p, hg, ht, hv, hd⟩ := h.funcs (n := "maslin/vm.does") (D4 _ (D4 _ (D4 _ (D4 _ (D4 _ (D4 _ (D4 _ (D2 ..))))))));obtain rfl := Option.some.inj ((show Tryz.prog.globalNamed "maslin/vm.does" = some 0 by kernel_rfl).symm.trans hg);obtain rfl:=Option.some.inj ((show(Tryz.prog.globals[0]?).map (·.type)=some 319 by kernel_rfl).symm.trans ht);have hd':DataW.trod (funcToken Tryz.prog) Tryz.prog W 0 (fun _=>true) true fuel 319 cs.toList=some (.agg uL,p):=hd;obtain⟨xs,m,_,ex,_,hl,hel⟩:=DataW.trod_array Tryz.underlying319 hd';have c1:Tryz.prog.cellsOf 318=1:=by kernel_rfl
 have e3:xs.map (·.1)=uL:=(DataW.agg.inj (Prod.mk.inj ex).1).symm
 have key:∀ k b r f0,k<24→uL[k]?=some (.held (b::r))→((List.range Tryz.prog.funcs.size).filter fun f=>(Tryz.prog.funcs[f]?).any (·.name.toUTF8.data.toList==b::r))=[f0]→W.cell? ⟨0,k,none⟩=some (.func (.func f0) #[] #[]):=by
  intro k b r f0 hk ht1 hone;have hE:=hel k hk;rw[c1,Nat.mul_one,List.getElem?_eq_getElem (by omega)]at hE;have e4:(xs.map (·.1))[k]?=uL[k]?:=by rw[e3]
  rw[List.getElem?_map,List.getElem?_eq_getElem (by omega:k<xs.length),ht1]at e4;simp only[Option.map_some,Option.some.injEq]at e4;obtain⟨⟨x,q⟩,hx⟩:∃ y,xs[k]=y:=⟨_,rfl⟩
  rw[hx]at hE e4;simp only at e4;subst e4
  have hlen:((cs.toList.drop k).take 1)≠[]:=by
   intro h0;rw[h0]at hE
   cases m with
   | zero=>simp[DataW.trod]at hE
   | succ n=>simp[DataW.trod,Tryz.underlying318]at hE
  obtain⟨v,hv1⟩:∃ v,(cs.toList.drop k).take 1=[v]:=by
   cases h1:cs.toList.drop k with
   | nil=>rw[h1]at hlen;simp at hlen
   | cons a l=>exact⟨a,by simp⟩
  rw[hv1]at hE;obtain rfl:=func_of_trod (f0:=f0) Tryz.underlying318 hone hE;rw[World.var?_cell hg hv];have:((cs.toList.drop k).take 1)[0]?=some (.func (.func f0) #[] #[]):=by rw[hv1];rfl
  simpa using this
 intro k h1 h2;rcases(by omega:k=1∨k=2∨k=3∨k=4∨k=5∨k=6∨k=7∨k=8∨k=9∨k=10∨k=11∨k=12∨k=13∨k=14∨k=15∨k=16∨k=17∨k=18∨k=19∨k=20∨k=21∨k=22∨k=23) with rfl|rfl|rfl|rfl|rfl|rfl|rfl|rfl|rfl|rfl|rfl|rfl|rfl|rfl|rfl|rfl|rfl|rfl|rfl|rfl|rfl|rfl|rfl
 ·exact key 1 _ _ _ (by decide) rfl (by kernel_rfl)
 ·exact key 2 _ _ _ (by decide) rfl (by kernel_rfl)
 ·exact key 3 _ _ _ (by decide) rfl (by kernel_rfl)
 ·exact key 4 _ _ _ (by decide) rfl (by kernel_rfl)
 ·exact key 5 _ _ _ (by decide) rfl (by kernel_rfl)
 ·exact key 6 _ _ _ (by decide) rfl (by kernel_rfl)
 ·exact key 7 _ _ _ (by decide) rfl (by kernel_rfl)
 ·exact key 8 _ _ _ (by decide) rfl (by kernel_rfl)
 ·exact key 9 _ _ _ (by decide) rfl (by kernel_rfl)
 ·exact key 10 _ _ _ (by decide) rfl (by kernel_rfl)
 ·exact key 11 _ _ _ (by decide) rfl (by kernel_rfl)
 ·exact key 12 _ _ _ (by decide) rfl (by kernel_rfl)
 ·exact key 13 _ _ _ (by decide) rfl (by kernel_rfl)
 ·exact key 14 _ _ _ (by decide) rfl (by kernel_rfl)
 ·exact key 15 _ _ _ (by decide) rfl (by kernel_rfl)
 ·exact key 16 _ _ _ (by decide) rfl (by kernel_rfl)
 ·exact key 17 _ _ _ (by decide) rfl (by kernel_rfl)
 ·exact key 18 _ _ _ (by decide) rfl (by kernel_rfl)
 ·exact key 19 _ _ _ (by decide) rfl (by kernel_rfl)
 ·exact key 20 _ _ _ (by decide) rfl (by kernel_rfl)
 ·exact key 21 _ _ _ (by decide) rfl (by kernel_rfl)
 ·exact key 22 _ _ _ (by decide) rfl (by kernel_rfl)
 ·exact key 23 _ _ _ (by decide) rfl (by kernel_rfl)
end
section
open Go.ChangeShapes Go.WideShapes Go.ChangeAt Go.RowKit Oct
section
variable {H:Type}{enc:TypeId×Value→H}{W:World}
theorem pK {P:Program}{w:World}{bZ:Nat}{spare:Nat→Bool}{held:Bool}{t:TypeId}{f0 f1 f2 f3 f4:Field}{fuel:Nat}{cs:List Value}{x:DataW H×List MemPlace}(ht:P.underlying t=some (.struct #[f0,f1,f2,f3,f4]))(h:DataW.trod enc P w bZ spare held fuel t cs=some x):∃ (y0 y1 y2 y3 y4:DataW H×List MemPlace) (n:Nat),x.1=.agg [y0.1,y1.1,y2.1,y3.1,y4.1]∧cs.length=P.cellsOf t∧DataW.trod enc P w bZ spare held n f0.type ((cs.drop f0.offset).take (P.cellsOf f0.type))=some y0 ∧DataW.trod enc P w bZ spare held n f1.type ((cs.drop f1.offset).take (P.cellsOf f1.type))=some y1∧DataW.trod enc P w bZ spare held n f2.type ((cs.drop f2.offset).take (P.cellsOf f2.type))=some y2 ∧DataW.trod enc P w bZ spare held n f3.type ((cs.drop f3.offset).take (P.cellsOf f3.type))=some y3∧DataW.trod enc P w bZ spare held n f4.type ((cs.drop f4.offset).take (P.cellsOf f4.type))=some y4:=by
 obtain⟨xs,n,_,rfl,hl,hlen,hf⟩:=DataW.trod_struct ht h
 match xs,hlen with
 | [y0,y1,y2,y3,y4],_=>exact⟨y0,y1,y2,y3,y4,n,by simp,hl,by simpa using hf 0 f0 rfl,by simpa using hf 1 f1 rfl,by simpa using hf 2 f2 rfl,by simpa using hf 3 f3 rfl,by simpa using hf 4 f4 rfl⟩
theorem oq {P:Program}{α0 α1 α2 α3 α4:Type}{t:TypeId}{f0 f1 f2 f3 f4:Field}{m0:α0→Nat}{m1:α1→Nat}{m2:α2→Nat}{m3:α3→Nat}{m4:α4→Nat}{H0:List Value→α0→Prop}{H1:List Value→α1→Prop}{H2:List Value→α2→Prop}{H3:List Value→α3→Prop}{H4:List Value→α4→Prop}(ht:P.underlying t=some (.struct #[f0,f1,f2,f3,f4]))(h0:dE enc P W f0.type m0 H0)(h1:dE enc P W f1.type m1 H1)(h2:dE enc P W f2.type m2 H2)(h3:dE enc P W f3.type m3 H3)(h4:dE enc P W f4.type m4 H4):dE enc P W t (fun _=>0) fun cs (p:α0×α1×α2×α3×α4)=>cs.length=P.cellsOf t∧H0 ((cs.drop f0.offset).take (P.cellsOf f0.type)) p.1∧H1 ((cs.drop f1.offset).take (P.cellsOf f1.type)) p.2.1∧H2 ((cs.drop f2.offset).take (P.cellsOf f2.type)) p.2.2.1 ∧H3 ((cs.drop f3.offset).take (P.cellsOf f3.type)) p.2.2.2.1∧H4 ((cs.drop f4.offset).take (P.cellsOf f4.type)) p.2.2.2.2:=by
 intro n cs d ps h hw;obtain⟨y0,y1,y2,y3,y4,m,hx,hl,e0,e1,e2,e3,e4⟩:=pK ht h;simp only at hx;subst hx
 have hw':∀ x,x∈y0.1.weights P f0.type∨x∈y1.1.weights P f1.type∨x∈y2.1.weights P f2.type∨x∈y3.1.weights P f3.type∨x∈y4.1.weights P f4.type→x≤reachBytes:=by
  intro x hx;refine hw x ?_;simp only[DataW.weights,ht,DataW.weightsEach,List.map_cons,DM];rcases hx with hx|hx|hx|hx|hx
  ·exact .inl hx
  ·exact .inr (.inl hx)
  ·exact .inr (.inr (.inl hx))
  ·exact .inr (.inr (.inr (.inl hx)))
  ·exact .inr (.inr (.inr (.inr (.inl hx))))
 obtain⟨x0,k0,_⟩:=h0 _ _ _ _ e0 (fun x hx=>hw' x (.inl hx));obtain⟨x1,k1,_⟩:=h1 _ _ _ _ e1 (fun x hx=>hw' x (.inr (.inl hx)));obtain⟨x2,k2,_⟩:=h2 _ _ _ _ e2 (fun x hx=>hw' x (.inr (.inr (.inl hx))));obtain⟨x3,k3,_⟩:=h3 _ _ _ _ e3 (fun x hx=>hw' x (.inr (.inr (.inr (.inl hx)))));obtain⟨x4,k4,_⟩:=h4 _ _ _ _ e4 (fun x hx=>hw' x (.inr (.inr (.inr (.inr hx)))));exact⟨(x0,x1,x2,x3,x4),⟨hl,k0,k1,k2,k3,k4⟩,D6 _⟩
def BY (W:World)(cs:List Value)(p:LL_×List VI):Prop:=∃ tv cv,cs=[tv,cv]∧je W tv cv p.1 p.2
theorem jP:dE enc Tryz.prog W 25 (fun _=>0) (BY W):=by
 have h3:=reachBytes_lt;have o1:dE enc Tryz.prog W 22 _ _:=lN (size:=1) Tryz.underlying22 (by kernel_rfl) (by decide) (wV Tryz.underlying9);have o2:dE enc Tryz.prog W 23 _ _:=lN (size:=2) Tryz.underlying23 (by kernel_rfl) (by decide) wW;refine dE.mapV (jC (c0:=1) (c1:=1) Tryz.underlying25 (by kernel_rfl) (by kernel_rfl) (by kernel_rfl) rfl rfl o1 o2) ?_;rintro cs ⟨texts,code⟩ ⟨cs0,cs1,rfl,_,_,⟨tv,rfl,h1,h2⟩,cv,rfl,h4,h5⟩;have hb1:Tryz.prog.bytesOf 9=16:=by kernel_rfl
 have hb2:Tryz.prog.bytesOf 127=2:=by kernel_rfl
 rw[hb1]at h2;rw[hb2]at h5;obtain⟨r1,r2⟩:=yA aK (fun cs x h=>h.1) h1;obtain⟨r3,_⟩:=yA bp (fun cs x h=>h) h4;refine⟨(texts,code),⟨tv,cv,rfl,⟨r1,r3,?_,?_,fun s hs=>by obtain⟨cs,_,h⟩:=r2 s hs;exact h⟩⟩,D6 _⟩
 ·have h2':texts.length*16≤reachBytes:=h2
  show texts.length≤_;omega
 ·have h5':code.length*2≤reachBytes:=h5
  show code.length≤_;omega
theorem zu {a:Int}(h:(Lit.int .i64 a).wf=true):-9223372036854775808≤a∧a≤9223372036854775807:=by
 simp[Lit.wf,IntKind.min,IntKind.max,IntKind.signed,IntKind.bits]at h;omega
theorem y8 {bZ j:Nat}{v:Value}{d:DataW H}{ps:List MemPlace}{ts:List TypeId}{ds:List (DataW H)}(hv:Value.okWide Tryz.prog W .any bZ 27 v)(h:DataW.Trod enc Tryz.prog W 0 (fun _=>true) true 27 v d ps)(hsz:(DataW.weightsEach Tryz.prog ts ds).all (·≤reachBytes)=true)(hj:ts[j]?=some 27)(hd:ds[j]?=some d):∃ (t1 c1 t2 c2 t3 c3:Value) (q:Jb),v=bM t1 c1 t2 c2 t3 c3 q∧qr W t1 c1 t2 c2 t3 c3 q:=by
 obtain⟨⟨p0,p1,p2,a3,a4⟩,⟨hl,k0,k1,k2,k3,k4⟩,_⟩:=y9 (oq Tryz.underlying27 jP jP jP (jj (k:=.i64) Tryz.underlying3) (jj (k:=.i64) Tryz.underlying3)) h hsz hj hd;obtain⟨cs,rfl,hsize⟩:=okWide_struct Tryz.underlying27 hv;have c8:Tryz.prog.cellsOf 27=8:=by kernel_rfl
 have c2:Tryz.prog.cellsOf 25=2:=by kernel_rfl
 have c1:Tryz.prog.cellsOf 3=1:=by kernel_rfl
 have e:(Value.agg cs).cells.toList=cs.toList:=by simp[Value.cells]
 rw[e]at hl k0 k1 k2 k3 k4;rw[c8]at hl;dsimp only at k0 k1 k2 k3 k4;simp only[c2,c1]at k0 k1 k2 k3 k4;obtain⟨L,hL⟩:=ex_ cs.toList;rw[←hL]at hl k0 k1 k2 k3 k4
 match L,hl,hL,k0,k1,k2,k3,k4 with
 | [l0,l1,l2,l3,l4,l5,l6,l7],_,hL,⟨tv0,cv0,q0,r0⟩,⟨tv1,cv1,q1,r1⟩,⟨tv2,cv2,q2,r2⟩,⟨q3,r3⟩,⟨q4,r4⟩ =>
  simp at q0 q1 q2 q3 q4;obtain⟨rfl,rfl⟩:=q0;obtain⟨rfl,rfl⟩:=q1;obtain⟨rfl,rfl⟩:=q2;subst q3 q4;obtain⟨b3,b3'⟩:=zu r3;obtain⟨b4,b4'⟩:=zu r4;refine⟨l0,l1,l2,l3,l4,l5,⟨p0.1,p0.2,p1.1,p1.2,p2.1,p2.2,a3,a4⟩,?_,⟨r0,r1,r2,b3,b3',b4,b4'⟩⟩;rw[←Array.toArray_toList (xs:=cs),←hL]
  rfl
end
end
section
open Go.ChangeShapes Go.WideShapes Go.ChangeAt Go.RowKit Oct
def xy:Array Value:=#[.nilFunc,.func (.func 302) #[] #[],.func (.func 303) #[] #[],.func (.func 304) #[] #[],.func (.func 305) #[] #[],.func (.func 306) #[] #[],.func (.func 307) #[] #[],.func (.func 308) #[] #[],.func (.func 309) #[] #[],.func (.func 310) #[] #[],.func (.func 311) #[] #[],.func (.func 312) #[] #[],.func (.func 313) #[] #[],.func (.func 314) #[] #[],.func (.func 315) #[] #[],.func (.func 316) #[] #[],.func (.func 317) #[] #[],.func (.func 318) #[] #[],.func (.func 319) #[] #[],.func (.func 320) #[] #[],.func (.func 321) #[] #[],.func (.func 322) #[] #[],.func (.func 323) #[] #[],.func (.func 324) #[] #[]] /- 0 -/
def Ag:Obj→Obj
 | .cells _ t fz=>.cells xy t fz
 | o=>o
noncomputable def pM (os:Os):World:={ World.holding Tryz.prog os ⟨#[],#[],[]⟩ with heap:=(World.holding Tryz.prog os ⟨#[],#[],[]⟩).heap.modify 0 Ag }
noncomputable def pO (os:Os):World:=(pM os).layVars Tryz.prog fo
theorem vW (os:Os):(pO os).os=os:=by
 show((pM os).layVars Tryz.prog fo).os=os;rw[World.layVars_os]
 rfl
theorem s9 (os:Os)(args:Array Value):laidMetH Tryz.prog iR ((pO os).forCall (fun _ _=>0) ⟨#[],args,[]⟩).memory:=by
 refine laidMetH_of_parts3 (fuel:=8) ?_ (by kernel_rfl) (by kernel_rfl);rw[show(iR.filter fun x=>x.2.handleName?.isNone)=fo from rfl];have e1:(fo.filter fun x=>(fo.map (·.1)).contains x.1)=fo:=List.filter_eq_self.2 fun x hx=>List.contains_iff_mem.2 (List.mem_map.2 ⟨x,hx,rfl⟩);have e2:(fo.filter fun x=>!(fo.map (·.1)).contains x.1)=[]:=List.filter_eq_nil_iff.2 fun x hx=>by rw[List.contains_iff_mem.2 (List.mem_map.2 ⟨x,hx,rfl⟩)];simp
 have h:laidMet Tryz.prog fo (pO os):=laidMet_layVars (w0:=pM os) (fo.map (·.1)) [] (by rw[e1];rfl) (by rw[e1];kernel_rfl) (by rw[e1];kernel_rfl) (by rw[e2];exact LaidIn.none);exact h.of_heap (by simp[World.memory,World.forCall,Input.heap])
end
