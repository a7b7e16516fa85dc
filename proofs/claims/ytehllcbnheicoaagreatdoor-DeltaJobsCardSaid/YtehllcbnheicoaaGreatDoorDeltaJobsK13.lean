/- Lemmas for DeltaJobs: walks, plain laws. -/
import Derived.Test.YtehllcbnheicoaaGreatDoorDeltaJobsK8
set_option linter.unusedSimpArgs false
set_option linter.unusedVariables false
set_option maxRecDepth 100000
set_option maxHeartbeats 16000000
namespace Go.Proofs.YtehllcbnheicoaaGreatDoor
open Go.RowKit Oct
section
attribute [local irreducible] wpG
section
variable {bZ G:Nat}{w w':World}{f:Mf}{at_:Int}{st rg:List MV}{eos:List Eo}{pr:List (LU_×LU_)}{tr:List Int}{stv opv prv trv:Value}{X:List (Pt bZ)}
theorem rR {P:Program}{fn:Func}{p q:Tmp}{ty tz:TypeId}{tmps:Array Value}{w:World}{v u:Value}{b c:Nat}(hr:fn.results=#[.cell p ty,.cell q tz])(hp:tmps.getD p undef=.pointer (some ⟨b,0,none⟩))(hq:tmps.getD q undef=.pointer (some ⟨c,0,none⟩))(hl:(loadVar ty ⟨b,0,none⟩).run P w=.ok v w)(hk:(loadVar tz ⟨c,0,none⟩).run P w=.ok u w):(results fn tmps).run P w=.ok (.tuple #[v,u]) w:=by
 simp only[Array.getD_eq_getD_getElem?]at hp hq⊢;simp[results,hr,Sem.run_bind,Result.andThen,hp,hq,asAddr,hl,hk]
@[go_sem] theorem CQ (v0 v1:Value) (w:World):(Instr.field 223 (.agg #[v0,v1]) 0).run Tryz.prog w=.ok v0 w:=by kernel_rfl
@[go_sem] theorem CP (v0 v1:Value) (w:World):(Instr.field 223 (.agg #[v0,v1]) 1).run Tryz.prog w=.ok v1 w:=by kernel_rfl
theorem eP (w:World)(o:Obj):(w.alloc o).heap.size=w.heap.size+1:=Array.size_push ..
theorem se {α:Type}{X L:List α}(h:X <+: L)(k:Nat)(q:α):X <+: L.set (X.length+k) q:=by
 obtain⟨Z,rfl⟩:=h;rw[List.set_append_right _ _ (by omega)];exact List.prefix_append _ _
theorem gQ (a b:MV)(h:MR bZ w G f at_ (b::a::st) rg eos pr tr stv opv prv trv X)(hl:st.length≤900):Calls Tryz.prog 294 #[.pointer (some ⟨G,0,none⟩)] w fun e w'=>e=.returned (.tuple #[mvV a,mvV b])∧(∃ stv',MR bZ w' G f at_ st rg eos pr tr stv' opv prv trv X)∧Below bZ w w':=by
 have HH:=zH h;obtain⟨R,hR⟩:=ex_ w.heap.size;obtain⟨W1,hW1⟩:=ex_ ((w.alloc (.cells #[.int .i64 0,.string ⟨#[]⟩] 223)).alloc (.cells #[.int .i64 0,.string ⟨#[]⟩] 223));have hRb:bZ≤R:=by rw[hR];exact HH.o.size
 have hRb1:bZ≤R+1:=by omega
 have hm1:MR bZ W1 G f at_ (b::a::st) rg eos pr tr stv opv prv trv (X++[aB R hRb 223 [.int .i64 0,.string ⟨#[]⟩]]++[aB (R+1) hRb1 223 [.int .i64 0,.string ⟨#[]⟩]]):=by
  have h2:=(HH.o.add [.int .i64 0,.string ⟨#[]⟩] 223).add [.int .i64 0,.string ⟨#[]⟩] 223;have hsz:(w.alloc (.cells [Value.int .i64 0,.string ⟨#[]⟩].toArray 223)).heap.size=R+1:=by rw[hR];exact eP _ _
  simp only[hsz]at h2;subst hR;rw[hW1];exact h2
 have HB1:=zH (show Below w.heap.size w W1 by rw[hW1];exact bt (af _ _) (af _ _));have HM1:=zH hm1;have HP1:=zH (et b hm1 (by simp;omega));clear h hm1;go_enter Tryz.func294,Tryz.ntmps294;go_upto_region 1 with fail;rw[←hW1,←hR];clear hW1 hR;go_upto_region 2 with(go_at_call 150;refine HP1.o.mono ?_;rintro e w2 ⟨rfl,⟨sv2,hm⟩,hB⟩;unfold mvV;have HM2:=zH hm;have HB2:=zH hB;have hR1:Blk w2 (R+1) 223 [.int .i64 0,.string ⟨#[]⟩]:=hm.loc (p:=aB (R+1) hRb1 223 [.int .i64 0,.string ⟨#[]⟩]) (by simp);obtain⟨r0,r1⟩:=cl2 hR1;obtain⟨k0,k1⟩:=fr2 hR1;have HR1:=zH hR1;clear hR1 hm hB);obtain⟨hy3,hc3⟩:=jz HR1.o (.int .i64 b.1) (.string (bs b.2));obtain⟨W3,hW3⟩:=ex_ ((w2.setCell ⟨R+1,0,none⟩ (.int .i64 b.1)).setCell ⟨R+1,1,none⟩ (.string (bs b.2)));rw[←hW3]at hy3 hc3⊢;obtain⟨hm3,hb3⟩:=HM2.o.updX (i:=X.length+1) (p:=aB (R+1) hRb1 223 [.int .i64 0,.string ⟨#[]⟩]) (by rw[Et,List.getElem?_append_right (by omega)];simp) hc3 (fun k hk=>hk) (aB (R+1) hRb1 223 [.int .i64 b.1,.string (bs b.2)]) hy3 (fun k hk=>hk)
 rw[show(X++[aB R hRb 223 [.int .i64 0,.string ⟨#[]⟩]]++[aB (R+1) hRb1 223 [.int .i64 0,.string ⟨#[]⟩]]).set (X.length+1) (aB (R+1) hRb1 223 [.int .i64 b.1,.string (bs b.2)])=X++[aB R hRb 223 [.int .i64 0,.string ⟨#[]⟩]]++[aB (R+1) hRb1 223 [.int .i64 b.1,.string (bs b.2)]] from by
  rw[Et,Et,List.set_append_right _ _ (by omega),Nat.add_sub_cancel_left];rfl]at hm3
 have HB3:=zH (((HB1.o.mono HH.o.size).trans HB2.o).trans hb3);have hmd:=hm3.below (b_drew W3);have HP2:=zH (et a hmd (by omega));have y0:W3.cell? ⟨R+1,0,none⟩=some (.int .i64 b.1):=hy3.cell (k:=0) rfl;have y1:W3.cell? ⟨R+1,1,none⟩=some (.string (bs b.2)):=hy3.cell (k:=1) rfl;have HMD:=zH hmd;have hs3:bZ≤W3.heap.size:=hm3.size;clear hW3 r0 r1 k0 k1 HR1 HM2 HB2 HP1 HM1 HB1 hy3 hc3 hm3 hb3 hmd;go_region_with (go_at_call 150;refine HP2.o.mono ?_;rintro e w4 ⟨rfl,⟨sv4,hm⟩,hB⟩;unfold mvV;have HM4:=zH hm;have HB4:=zH ((HB3.o.trans ((b_drew W3).mono hs3)).trans hB);have hR1:Blk w4 (R+1) 223 [.int .i64 b.1,.string (bs b.2)]:=hm.loc (p:=aB (R+1) hRb1 223 [.int .i64 b.1,.string (bs b.2)]) (by simp);have hR0:Blk w4 R 223 [.int .i64 0,.string ⟨#[]⟩]:=hm.loc (p:=aB R hRb 223 [.int .i64 0,.string ⟨#[]⟩]) (by simp);obtain⟨s0,s1⟩:=cl2 hR1;obtain⟨k0,k1⟩:=fr2 hR1;obtain⟨r0,r1⟩:=cl2 hR0;obtain⟨j0,j1⟩:=fr2 hR0;have HR0:=zH hR0;have HR1:=zH hR1;clear hR0 hR1 hm hB)
 all_goals
  (try dsimp only)
  (try go_frame)
  go_wp2_with fail;obtain⟨h5,c5⟩:=jz HR0.o (.int .i64 a.1) (.string (bs a.2));obtain⟨m5,b5⟩:=HM4.o.updX (i:=X.length) (p:=aB R hRb 223 [.int .i64 0,.string ⟨#[]⟩]) (by simp) c5 (fun k hk=>hk) (aB R hRb 223 [.int .i64 a.1,.string (bs a.2)]) h5 (fun k hk=>hk);obtain⟨h6,c6⟩:=jz (HR1.o.chg c5 (by show ¬(R+1=R);omega)) (.int .i64 b.1) (.string (bs b.2));obtain⟨m6,b6⟩:=m5.updX (i:=X.length+1) (p:=aB (R+1) hRb1 223 [.int .i64 b.1,.string (bs b.2)]) (by rw[List.getElem?_set_ne (by omega),Et,List.getElem?_append_right (by omega)];simp) c6 (fun k hk=>hk) (aB (R+1) hRb1 223 [.int .i64 b.1,.string (bs b.2)]) h6 (fun k hk=>hk);have h7:=h5.chg c6 (by show ¬(R=R+1);omega);refine bodyPost_ret (rR rfl rfl rfl (qH (h7.cell (k:=0) rfl) (h7.cell (k:=1) rfl)) (qH (h6.cell (k:=0) rfl) (h6.cell (k:=1) rfl))) rfl ?_;exact⟨rfl,⟨_,m6.pre (se (se (k:=0) (by rw[Et];exact List.prefix_append _ _) _) 1 _)⟩,(HB4.o.trans b5).trans b6⟩
theorem F_ {T:Prop} (h:T:=by
 go_enter Tryz.func295,Tryz.ntmps295;go_wp2_with (go_at_call 293;refine HP.o.mono ?_;rintro e w2 ⟨rfl,⟨sv,hm⟩,hB⟩;have HM:=zH hm;have HB:=zH hB;clear hm hB);go_ret;exact⟨rfl,⟨_,HM.o⟩,HB.o⟩
):T:=h
theorem qQ (q:Bool)(h:MR bZ w G f at_ st rg eos pr tr stv opv prv trv X)(hl:st.length≤1000):Calls Tryz.prog 295 #[.pointer (some ⟨G,0,none⟩),.bool q] w fun e w'=>e=.returned (.int .i64 0)∧(∃ stv',MR bZ w' G f at_ (bitM q::st) rg eos pr tr stv' opv prv trv X)∧Below bZ w w':=by
 have HP:=zH (bN (bitM q) h hl);clear h
 cases q with
 | true =>
  exact F_
 | false =>
  exact F_
theorem yP (y:UInt8)(h:MR bZ w G f at_ st rg eos pr tr stv opv prv trv X)(hl:st.length≤1000):Calls Tryz.prog 271 #[.pointer (some ⟨G,0,none⟩),.int .u8 (y.toNat:Int)] w fun e w'=>e=.returned (.int .i64 0)∧(∃ stv',MR bZ w' G f at_ (((y.toNat:Int),[])::st) rg eos pr tr stv' opv prv trv X)∧Below bZ w w':=by
 have HP:=zH (bN ((y.toNat:Int),[]) h hl);have cw:wrap64 (y.toNat:Int)=(y.toNat:Int):=by have:=y.toNat_lt;unfold wrap64;omega
 have cv:IntKind.i64.wrap (y.toNat:Int)=(y.toNat:Int):=by have:=y.toNat_lt;simp[IntKind.wrap,IntKind.bits,IntKind.signed];omega
 clear h;go_enter Tryz.func271,Tryz.ntmps271;go_wp2_with (go_at_call 293;refine HP.o.mono ?_;rintro e w2 ⟨rfl,⟨sv,hm⟩,hB⟩;have HM:=zH hm;have HB:=zH hB;clear hm hB);go_ret;exact⟨rfl,⟨_,HM.o⟩,HB.o⟩
theorem wS (y:UInt8)(a:MV)(h:MR bZ w G f at_ (a::st) rg eos pr tr stv opv prv trv X)(hl:st.length≤900):Calls Tryz.prog 283 #[.pointer (some ⟨G,0,none⟩),.int .u8 (y.toNat:Int)] w fun e w'=>e=.returned (.int .i64 0)∧(∃ stv',MR bZ w' G f at_ st rg eos pr tr stv' opv prv trv X)∧Below bZ w w':=by
 have HP:=zH (et a h (by omega));clear h;go_enter Tryz.func283,Tryz.ntmps283;go_wp2_with (go_at_call 150;refine HP.o.mono ?_;rintro e w2 ⟨rfl,⟨sv,hm⟩,hB⟩;have HM:=zH hm;have HB:=zH hB;clear hm hB);go_ret;exact⟨rfl,⟨_,HM.o⟩,HB.o⟩
theorem wK (y:UInt8)(a:MV)(h:MR bZ w G f at_ (a::st) rg eos pr tr stv opv prv trv X)(hl:st.length≤900)(ha:a.2.length≤1024):Calls Tryz.prog 274 #[.pointer (some ⟨G,0,none⟩),.int .u8 (y.toNat:Int)] w fun e w'=>e=.returned (.int .i64 0)∧(∃ stv',MR bZ w' G f at_ (((a.2.length:Int),[])::st) rg eos pr tr stv' opv prv trv X)∧Below bZ w w':=by
 have HP:=zH (et a h (by omega));have hc:(a.2.length:Int)≤1024:=by omega
 clear h;go_enter Tryz.func274,Tryz.ntmps274;go_wp2_with (first|(go_at_call 293;refine(bN ((a.2.length:Int),[]) HM.o (by omega)).mono ?_;rintro e w3 ⟨rfl,⟨sv3,hm⟩,hB⟩;have HM3:=zH hm;have HB3:=zH (HB.o.trans hB);clear hm hB)|(go_at_call 150;refine HP.o.mono ?_;rintro e w2 ⟨rfl,⟨sv,hm⟩,hB⟩;have HM:=zH hm;have HB:=zH hB;unfold mvV;clear hm hB));go_ret;exact⟨rfl,⟨_,HM3.o⟩,HB3.o⟩
theorem yQ (y:UInt8)(a:MV)(h:MR bZ w G f at_ (a::st) rg eos pr tr stv opv prv trv X)(hl:st.length≤900):Calls Tryz.prog 282 #[.pointer (some ⟨G,0,none⟩),.int .u8 (y.toNat:Int)] w fun e w'=>e=.returned (.int .i64 0)∧(∃ stv',MR bZ w' G f at_ (bitM (a.1==0)::st) rg eos pr tr stv' opv prv trv X)∧Below bZ w w':=by
 have HP:=zH (et a h (by omega));clear h;go_enter Tryz.func282,Tryz.ntmps282;go_wp2_with (first|(go_at_call 295;refine(qQ (a.1==0) HM.o (by omega)).mono ?_;rintro e w3 ⟨rfl,⟨sv3,hm⟩,hB⟩;have HM3:=zH hm;have HB3:=zH (HB.o.trans hB);clear hm hB)|(go_at_call 150;refine HP.o.mono ?_;rintro e w2 ⟨rfl,⟨sv,hm⟩,hB⟩;have HM:=zH hm;have HB:=zH hB;unfold mvV;clear hm hB));go_ret;exact⟨rfl,⟨_,HM3.o⟩,HB3.o⟩
theorem yS (y:UInt8)(hy:y.toNat<8)(h:MR bZ w G f at_ st rg eos pr tr stv opv prv trv X)(hl:st.length≤1000):Calls Tryz.prog 286 #[.pointer (some ⟨G,0,none⟩),.int .u8 (y.toNat:Int)] w fun e w'=>e=.returned (.int .i64 0)∧(∃ stv',MR bZ w' G f at_ (rg.getD y.toNat (0,[])::st) rg eos pr tr stv' opv prv trv X)∧Below bZ w w':=by
 have HP:=zH (bN (rg.getD y.toNat (0,[])) h hl);obtain⟨q0,q1⟩:=h.reg hy;have i0:(0:Int)≤(y.toNat:Int):=by omega
 have i1:(y.toNat:Int)<8:=by omega
 obtain⟨u,hu⟩:=ex_ (rg.getD y.toNat (0,[]));rw[←hu]at HP q0 q1⊢;clear h hu;go_enter Tryz.func286,Tryz.ntmps286;go_wp2_with (go_at_call 293;refine HP.o.mono ?_;rintro e w2 ⟨rfl,⟨sv,hm⟩,hB⟩;have HM:=zH hm;have HB:=zH hB;clear hm hB);go_ret;exact⟨rfl,⟨_,HM.o⟩,HB.o⟩
end
end
section
attribute [local irreducible] wpG
section
variable {bZ G:Nat}{w w':World}{f:Mf}{at_:Int}{st rg:List MV}{eos:List Eo}{pr:List (LU_×LU_)}{tr:List Int}{stv opv prv trv:Value}{X:List (Pt bZ)}
theorem MR.add2 (h:MR bZ w G f at_ st rg eos pr tr stv opv prv trv X)(cs ds:List Value)(t:TypeId)(D:Nat)(hD:D=w.heap.size)(hDb:bZ≤D)(hDb1:bZ≤D+1):MR bZ ((w.alloc (.cells cs.toArray t)).alloc (.cells ds.toArray t)) G f at_ st rg eos pr tr stv opv prv trv (X++[aB D hDb t cs]++[aB (D+1) hDb1 t ds]):=by
 subst hD;have h2:=(h.add cs t).add ds t;have hsz:(w.alloc (.cells cs.toArray t)).heap.size=w.heap.size+1:=eP _ _;simp only[hsz]at h2;exact h2
theorem Hx {T:Prop} (h:T:=by
 rw[hW3];have:=Blk.new (w2.alloc (.cells #[.int .i64 a.1,.string (bs a.2)] 223)) [.int .i64 b.1,.string (bs b.2)] 223;rw[eP]at this;exact this
):T:=h
theorem FT {T:Prop} (h:T:=by
 exact Hx
):T:=h
theorem yZ (y:UInt8)(a b:MV)(h:MR bZ w G f at_ (b::a::st) rg eos pr tr stv opv prv trv X)(hl:st.length≤900):Calls Tryz.prog 278 #[.pointer (some ⟨G,0,none⟩),.int .u8 (y.toNat:Int)] w fun e w'=>e=.returned (.int .i64 0)∧(∃ stv',MR bZ w' G f at_ ((wrap64 (a.1+b.1),[])::st) rg eos pr tr stv' opv prv trv X)∧Below bZ w w':=by
 have HP:=zH (gQ a b h hl);have HH:=zH h.size;clear h;go_enter Tryz.func278,Tryz.ntmps278;go_upto_region 2 with(go_at_call 294;refine HP.o.mono ?_;rintro e w2 ⟨rfl,⟨sv,hm⟩,hB⟩;unfold mvV;have HM:=zH hm;have HB:=zH hB;clear hm hB);obtain⟨W3,hW3⟩:=ex_ ((w2.alloc (.cells #[.int .i64 a.1,.string (bs a.2)] 223)).alloc (.cells #[.int .i64 b.1,.string (bs b.2)] 223));have hb3:Below w2.heap.size w2 W3:=by rw[hW3];exact bt (af _ _) (af _ _)
 have hx:Blk W3 w2.heap.size 223 [.int .i64 a.1,.string (bs a.2)]:=by rw[hW3];exact(Blk.new w2 _ _).below (af _ _)
 have hy:Blk W3 (w2.heap.size+1) 223 [.int .i64 b.1,.string (bs b.2)]:=by
  exact FT
 have HM3:=zH (HM.o.below hb3);have HB3:=zH (HB.o.trans (hb3.mono HM.o.size));obtain⟨D,hD⟩:=ex_ w2.heap.size;rw[←hD]at hx hy⊢;rw[←hW3];obtain⟨x0,x1⟩:=cl2 hx;obtain⟨y0,y1⟩:=cl2 hy;have HX:=zH hx;have HY:=zH hy;clear hx hy hW3 hD hb3 HM HB;go_wp2_with (go_at_call 293;refine(bN (wrap64 (a.1+b.1),[]) HM3.o (by omega)).mono ?_;rintro e w4 ⟨rfl,⟨sv4,hm⟩,hB⟩;have HM4:=zH hm;have HB4:=zH (HB3.o.trans hB);clear hm hB);go_ret;exact⟨rfl,⟨_,HM4.o⟩,HB4.o⟩
theorem yR (y:UInt8)(a b:MV)(h:MR bZ w G f at_ (b::a::st) rg eos pr tr stv opv prv trv X)(hl:st.length≤900):Calls Tryz.prog 279 #[.pointer (some ⟨G,0,none⟩),.int .u8 (y.toNat:Int)] w fun e w'=>e=.returned (.int .i64 0)∧(∃ stv',MR bZ w' G f at_ ((wrap64 (a.1*b.1),[])::st) rg eos pr tr stv' opv prv trv X)∧Below bZ w w':=by
 have HP:=zH (gQ a b h hl);have HH:=zH h.size;clear h;go_enter Tryz.func279,Tryz.ntmps279;go_upto_region 2 with(go_at_call 294;refine HP.o.mono ?_;rintro e w2 ⟨rfl,⟨sv,hm⟩,hB⟩;unfold mvV;have HM:=zH hm;have HB:=zH hB;clear hm hB);obtain⟨W3,hW3⟩:=ex_ ((w2.alloc (.cells #[.int .i64 a.1,.string (bs a.2)] 223)).alloc (.cells #[.int .i64 b.1,.string (bs b.2)] 223));have hb3:Below w2.heap.size w2 W3:=by rw[hW3];exact bt (af _ _) (af _ _)
 have hx:Blk W3 w2.heap.size 223 [.int .i64 a.1,.string (bs a.2)]:=by rw[hW3];exact(Blk.new w2 _ _).below (af _ _)
 have hy:Blk W3 (w2.heap.size+1) 223 [.int .i64 b.1,.string (bs b.2)]:=by
  exact FT
 have HM3:=zH (HM.o.below hb3);have HB3:=zH (HB.o.trans (hb3.mono HM.o.size));obtain⟨D,hD⟩:=ex_ w2.heap.size;rw[←hD]at hx hy⊢;rw[←hW3];obtain⟨x0,x1⟩:=cl2 hx;obtain⟨y0,y1⟩:=cl2 hy;have HX:=zH hx;have HY:=zH hy;clear hx hy hW3 hD hb3 HM HB;go_wp2_with (go_at_call 293;refine(bN (wrap64 (a.1*b.1),[]) HM3.o (by omega)).mono ?_;rintro e w4 ⟨rfl,⟨sv4,hm⟩,hB⟩;have HM4:=zH hm;have HB4:=zH (HB3.o.trans hB);clear hm hB);go_ret;exact⟨rfl,⟨_,HM4.o⟩,HB4.o⟩
theorem wO (y:UInt8)(a b:MV)(h:MR bZ w G f at_ (b::a::st) rg eos pr tr stv opv prv trv X)(hl:st.length≤900):Calls Tryz.prog 280 #[.pointer (some ⟨G,0,none⟩),.int .u8 (y.toNat:Int)] w fun e w'=>e=.returned (.int .i64 0)∧(∃ stv',MR bZ w' G f at_ (bitM (decide (a.1<b.1))::st) rg eos pr tr stv' opv prv trv X)∧Below bZ w w':=by
 have HP:=zH (gQ a b h hl);have HH:=zH h.size;clear h;go_enter Tryz.func280,Tryz.ntmps280;go_upto_region 2 with(go_at_call 294;refine HP.o.mono ?_;rintro e w2 ⟨rfl,⟨sv,hm⟩,hB⟩;unfold mvV;have HM:=zH hm;have HB:=zH hB;clear hm hB);obtain⟨W3,hW3⟩:=ex_ ((w2.alloc (.cells #[.int .i64 a.1,.string (bs a.2)] 223)).alloc (.cells #[.int .i64 b.1,.string (bs b.2)] 223));have hb3:Below w2.heap.size w2 W3:=by rw[hW3];exact bt (af _ _) (af _ _)
 have hx:Blk W3 w2.heap.size 223 [.int .i64 a.1,.string (bs a.2)]:=by rw[hW3];exact(Blk.new w2 _ _).below (af _ _)
 have hy:Blk W3 (w2.heap.size+1) 223 [.int .i64 b.1,.string (bs b.2)]:=by
  exact FT
 have HM3:=zH (HM.o.below hb3);have HB3:=zH (HB.o.trans (hb3.mono HM.o.size));obtain⟨D,hD⟩:=ex_ w2.heap.size;rw[←hD]at hx hy⊢;rw[←hW3];obtain⟨x0,x1⟩:=cl2 hx;obtain⟨y0,y1⟩:=cl2 hy;have HX:=zH hx;have HY:=zH hy;clear hx hy hW3 hD hb3 HM HB;go_wp2_with (go_at_call 295;refine(qQ (decide (a.1<b.1)) HM3.o (by omega)).mono ?_;rintro e w4 ⟨rfl,⟨sv4,hm⟩,hB⟩;have HM4:=zH hm;have HB4:=zH (HB3.o.trans hB);clear hm hB);go_ret;exact⟨rfl,⟨_,HM4.o⟩,HB4.o⟩
theorem wM (y:UInt8)(a b:MV)(h:MR bZ w G f at_ (b::a::st) rg eos pr tr stv opv prv trv X)(hl:st.length≤900):Calls Tryz.prog 281 #[.pointer (some ⟨G,0,none⟩),.int .u8 (y.toNat:Int)] w fun e w'=>e=.returned (.int .i64 0)∧(∃ stv',MR bZ w' G f at_ (bitM (a.2==b.2)::st) rg eos pr tr stv' opv prv trv X)∧Below bZ w w':=by
 have HP:=zH (gQ a b h hl);have HH:=zH h.size;clear h;go_enter Tryz.func281,Tryz.ntmps281;go_upto_region 2 with(go_at_call 294;refine HP.o.mono ?_;rintro e w2 ⟨rfl,⟨sv,hm⟩,hB⟩;unfold mvV;have HM:=zH hm;have HB:=zH hB;clear hm hB);obtain⟨W3,hW3⟩:=ex_ ((w2.alloc (.cells #[.int .i64 a.1,.string (bs a.2)] 223)).alloc (.cells #[.int .i64 b.1,.string (bs b.2)] 223));have hb3:Below w2.heap.size w2 W3:=by rw[hW3];exact bt (af _ _) (af _ _)
 have hx:Blk W3 w2.heap.size 223 [.int .i64 a.1,.string (bs a.2)]:=by rw[hW3];exact(Blk.new w2 _ _).below (af _ _)
 have hy:Blk W3 (w2.heap.size+1) 223 [.int .i64 b.1,.string (bs b.2)]:=by
  exact FT
 have HM3:=zH (HM.o.below hb3);have HB3:=zH (HB.o.trans (hb3.mono HM.o.size));obtain⟨D,hD⟩:=ex_ w2.heap.size;rw[←hD]at hx hy⊢;rw[←hW3];obtain⟨x0,x1⟩:=cl2 hx;obtain⟨y0,y1⟩:=cl2 hy;have HX:=zH hx;have HY:=zH hy;clear hx hy hW3 hD hb3 HM HB;go_wp2_with (go_at_call 295;refine(qQ (a.2==b.2) HM3.o (by omega)).mono ?_;rintro e w4 ⟨rfl,⟨sv4,hm⟩,hB⟩;have HM4:=zH hm;have HB4:=zH (HB3.o.trans hB);clear hm hB);go_ret;exact⟨rfl,⟨_,HM4.o⟩,HB4.o⟩
theorem wJ (y:UInt8)(a b:MV)(h:MR bZ w G f at_ (b::a::st) rg eos pr tr stv opv prv trv X)(hl:st.length≤900):Calls Tryz.prog 285 #[.pointer (some ⟨G,0,none⟩),.int .u8 (y.toNat:Int)] w fun e w'=>e=.returned (.int .i64 0)∧(∃ stv',MR bZ w' G f at_ (a::b::st) rg eos pr tr stv' opv prv trv X)∧Below bZ w w':=by
 have HP:=zH (gQ a b h hl);have HH:=zH h.size;clear h;go_enter Tryz.func285,Tryz.ntmps285;go_upto_region 2 with(go_at_call 294;refine HP.o.mono ?_;rintro e w2 ⟨rfl,⟨sv,hm⟩,hB⟩;unfold mvV;have HM:=zH hm;have HB:=zH hB;clear hm hB);obtain⟨W3,hW3⟩:=ex_ ((w2.alloc (.cells #[.int .i64 a.1,.string (bs a.2)] 223)).alloc (.cells #[.int .i64 b.1,.string (bs b.2)] 223));have hb3:Below w2.heap.size w2 W3:=by rw[hW3];exact bt (af _ _) (af _ _)
 have hx:Blk W3 w2.heap.size 223 [.int .i64 a.1,.string (bs a.2)]:=by rw[hW3];exact(Blk.new w2 _ _).below (af _ _)
 have hy:Blk W3 (w2.heap.size+1) 223 [.int .i64 b.1,.string (bs b.2)]:=by
  exact FT
 have HM3:=zH (HM.o.below hb3);have HB3:=zH (HB.o.trans (hb3.mono HM.o.size));obtain⟨D,hD⟩:=ex_ w2.heap.size;rw[←hD]at hx hy⊢;rw[←hW3];obtain⟨x0,x1⟩:=cl2 hx;obtain⟨y0,y1⟩:=cl2 hy;have HX:=zH hx;have HY:=zH hy;have hDb:bZ≤D:=by rw[hD];exact HM.o.size
 have hDb1:bZ≤D+1:=by omega
 have HMX:=zH (show MR bZ W3 G f at_ st rg eos pr tr sv opv prv trv (X++[aB D hDb 223 [.int .i64 a.1,.string (bs a.2)]]++[aB (D+1) hDb1 223 [.int .i64 b.1,.string (bs b.2)]]) from by rw[hW3];exact HM.o.add2 _ _ _ D hD hDb hDb1);clear hx hy hW3 hD hb3 HM HB;go_upto_region 3 with(go_at_call 293;refine(bN b HMX.o (by omega)).mono ?_;rintro e w4 ⟨rfl,⟨sv4,hm⟩,hB⟩;have hd:Blk w4 D 223 [.int .i64 a.1,.string (bs a.2)]:=hm.loc (p:=aB D hDb 223 [.int .i64 a.1,.string (bs a.2)]) (by simp);obtain⟨x0,x1⟩:=cl2 hd;have HM5:=zH hm;have HB5:=zH (HB3.o.trans hB);clear hm hB hd);go_wp2_with (go_at_call 293;refine(bN a HM5.o (by simp;omega)).mono ?_;rintro e w6 ⟨rfl,⟨sv6,hm⟩,hB⟩;have HM6:=zH hm;have HB6:=zH (HB5.o.trans hB);clear hm hB);go_ret;exact⟨rfl,⟨_,HM6.o.pre (by rw[Et];exact List.prefix_append _ _)⟩,HB6.o⟩
theorem yV (y:UInt8)(a b:MV)(h:MR bZ w G f at_ (b::a::st) rg eos pr tr stv opv prv trv X)(hl:st.length≤900)(ha:a.2.length≤1024)(hb:b.2.length≤1024):Calls Tryz.prog 273 #[.pointer (some ⟨G,0,none⟩),.int .u8 (y.toNat:Int)] w fun e w'=>((1024<a.2.length+b.2.length∧e=.returned (.int .i64 5))∨(¬1024<a.2.length+b.2.length∧e=.returned (.int .i64 0)∧(∃ stv',MR bZ w' G f at_ ((0,a.2++b.2)::st) rg eos pr tr stv' opv prv trv X)))∧Below bZ w w':=by
 have HP:=zH (gQ a b h hl);have HH:=zH h.size;clear h;go_enter Tryz.func273,Tryz.ntmps273;go_upto_region 2 with(go_at_call 294;refine HP.o.mono ?_;rintro e w2 ⟨rfl,⟨sv,hm⟩,hB⟩;unfold mvV;have HM:=zH hm;have HB:=zH hB;clear hm hB);obtain⟨W3,hW3⟩:=ex_ ((w2.alloc (.cells #[.int .i64 a.1,.string (bs a.2)] 223)).alloc (.cells #[.int .i64 b.1,.string (bs b.2)] 223));have hb3:Below w2.heap.size w2 W3:=by rw[hW3];exact bt (af _ _) (af _ _)
 have hx:Blk W3 w2.heap.size 223 [.int .i64 a.1,.string (bs a.2)]:=by rw[hW3];exact(Blk.new w2 _ _).below (af _ _)
 have hy:Blk W3 (w2.heap.size+1) 223 [.int .i64 b.1,.string (bs b.2)]:=by
  exact FT
 have HM3:=zH (HM.o.below hb3);have HB3:=zH (HB.o.trans (hb3.mono HM.o.size));obtain⟨D,hD⟩:=ex_ w2.heap.size;rw[←hD]at hx hy⊢;rw[←hW3];obtain⟨x0,x1⟩:=cl2 hx;obtain⟨y0,y1⟩:=cl2 hy;have HX:=zH hx;have HY:=zH hy;clear hx hy hW3 hD hb3 HM HB;have la:(a.2.length:Int)≤1024:=by omega
 have lb:(b.2.length:Int)≤1024:=by omega
 by_cases hc:1024<a.2.length+b.2.length
 ·have t1:(1024:Int)<(a.2.length:Int)+(b.2.length:Int):=by omega
  go_wp2_with fail;go_ret;exact⟨.inl ⟨hc,rfl⟩,HB3.o⟩
 ·have t1:¬(1024:Int)<(a.2.length:Int)+(b.2.length:Int):=by omega
  go_wp2_with (go_at_call 293;refine(bN (0,a.2++b.2) HM3.o (by omega)).mono ?_;rintro e w4 ⟨rfl,⟨sv4,hm⟩,hB⟩;have HM4:=zH hm;have HB4:=zH (HB3.o.trans hB);clear hm hB);go_ret;exact⟨.inr ⟨hc,rfl,⟨_,HM4.o⟩⟩,HB4.o⟩
end
end
section
attribute [local irreducible] wpG
theorem cut_split (c:UInt8):∀ s:LU_,(∃ a b,Lib.cut s [c]=(a,b,true)∧b7 c s=a::b7 c b∧a.length≤s.length∧b.length≤s.length)∨(Lib.cut s [c]=(s,[],false)∧b7 c s=[s])
 | []=>.inr ⟨rfl,rfl⟩
 | x::s=>by
  have ih:=cut_split c s
  by_cases hx:x=c
  ·left
   subst hx;refine⟨[],s,?_,?_,by simp,by simp⟩
   ·have hi:Lib.index (x::s) [x]=0:=by unfold Lib.index;simp[List.isPrefixOf]
    unfold Lib.cut;rw[hi];simp
   ·rw[b7,if_pos rfl]
  ·have hp:[c].isPrefixOf (x::s)=false:=by
    simp[List.isPrefixOf];exact fun e=>hx e.symm
   have hi:Lib.index (x::s) [c]=if Lib.index s [c]==-1 then -1 else Lib.index s [c]+1:=by
    rw[Lib.index,hp];rfl
   have hge:=Lib.index_ge s [c];rcases ih with ⟨a,b,h1,h2,h3,h4⟩|⟨h1,h2⟩
   ·left
    unfold Lib.cut at h1
    by_cases h0:0≤Lib.index s [c]
    ·rw[if_pos h0]at h1
     injection h1 with e1 e2
     injection e2 with e2 _
     refine⟨x::a,b,?_,?_,by simp;exact h3,by simp;omega⟩
     ·have hne:(Lib.index s [c]==-1)=false:=by rw[beq_eq_false_iff_ne];omega
      unfold Lib.cut;rw[hi,hne];obtain⟨k,hk⟩:∃ k:Nat,Lib.index s [c]=(k:Int):=⟨(Lib.index s [c]).toNat,by omega⟩
      rw[hk]at e1 e2⊢;rw[if_pos (by show(0:Int)≤(k:Int)+1;omega)];simp only[EP]at e1 e2;have hk1:((k:Int)+1).toNat=k+1:=by omega
      show((x::s).take ((k:Int)+1).toNat,(x::s).drop (((k:Int)+1).toNat+[c].length),true)=_;rw[hk1,←e1,←e2];simp[Nat.add_right_comm]
     ·rw[b7,if_neg hx,h2]
    ·rw[if_neg h0]at h1;cases h1
   ·right
    unfold Lib.cut at h1
    by_cases h0:0≤Lib.index s [c]
    ·rw[if_pos h0]at h1;exact absurd (congrArg (fun p=>p.2.2) h1) (by simp)
    ·have he:Lib.index s [c]=-1:=by omega
     have hi':Lib.index (x::s) [c]=-1:=by rw[hi,he];rfl
     refine⟨?_,?_⟩
     ·unfold Lib.cut;rw[hi',if_neg (by decide)]
     ·rw[b7,if_neg hx,h2]
def gA (e:Eo):LL_:=if e.more=true then b7 e.by_ e.rest else []
def gx (e:Eo):Eo:={ e with more:=(Lib.cut e.rest [e.by_]).2.2,rest:=(Lib.cut e.rest [e.by_]).2.1 }
theorem nU {e:Eo}(h:e.more=true):gA e=(Lib.cut e.rest [e.by_]).1::gA (gx e)∧(Lib.cut e.rest [e.by_]).1.length≤e.rest.length∧(gx e).rest.length≤e.rest.length:=by
 unfold gA gx;rw[if_pos h];rcases cut_split e.by_ e.rest with ⟨a,b,h1,h2,h3,h4⟩|⟨h1,h2⟩
 ·rw[h1,h2];simp[h3,h4]
 ·rw[h1,h2];simp
structure dE (w:World):Prop where
 tab : Lib.TabIs Tryz.prog w "internal/strconv.uint64pow10" .u64 Lib.pow10Tab
 syn:∃ te pe,w.cell? ⟨6,0,none⟩=some (.iface te pe)
 rng:∃ te pe,w.cell? ⟨7,0,none⟩=some (.iface te pe)
 mx:∃ m,w.cell? ⟨2,0,none⟩=some (.int .i64 m)
theorem Ay (l:LU_)(c:UInt8){w:World}(hg:∃ m,w.cell? ⟨2,0,none⟩=some (.int .i64 m))(hl:l.length≤2000):Calls Tryz.prog 298 #[.string (bs l),.string (bs [c])] w fun e w'=>e=.returned (.tuple #[.string (bs (Lib.cut l [c]).1),.string (bs (Lib.cut l [c]).2.1),.bool (Lib.cut l [c]).2.2])∧Bw_ w w':=by
 obtain⟨m,hm⟩:=hg;have h:=Tryz.strings_Cut (bs l) (bs [c]) m w (by rw[bY];omega) hm;rw[show(bs l).data.toList=l by simp[bs],show(bs [c]).data.toList=[c] by simp[bs]]at h;refine h.mono ?_;rintro e w' ⟨rfl,n,rfl⟩;exact⟨rfl,DL _ _⟩
section
variable {bZ:Nat}{w:World}{e:Eo}
theorem sB (h:iZ bZ w e)(hm:e.more=false):Calls Tryz.prog 297 #[.pointer (some ⟨e.bm,0,none⟩),.pointer (some ⟨e.bt,0,none⟩),.pointer (some ⟨e.bc,0,none⟩)] w fun r w'=>r=.returned (.tuple #[.string (bs []),.bool false])∧w'=w:=by
 have c0:=h.1.cell (k:=0) rfl;rw[hm]at c0;clear h hm;go_enter Tryz.func297,Tryz.ntmps297;go_wp2;go_ret2;exact⟨rfl,rfl⟩
theorem pM (h:iZ bZ w e)(hm:e.more=true)(hl:e.rest.length≤1024)(hg:∃ m,w.cell? ⟨2,0,none⟩=some (.int .i64 m)):Calls Tryz.prog 297 #[.pointer (some ⟨e.bm,0,none⟩),.pointer (some ⟨e.bt,0,none⟩),.pointer (some ⟨e.bc,0,none⟩)] w fun r w'=>r=.returned (.tuple #[.string (bs (Lib.cut e.rest [e.by_]).1),.bool true])∧iZ bZ w' (gx e)∧Chg (fun k=>k=e.bm∨k=e.bt) w w':=by
 obtain⟨h1,h2,h3,h4⟩:=h;have c0:=h1.cell (k:=0) rfl;rw[hm]at c0;have c1:=h2.cell (k:=0) rfl;have c2:=h3.cell (k:=0) rfl;have l2:=h3.lt;have HC:=zH (fun w' (hB:Below w.heap.size w w')=>Ay e.rest e.by_ (w:=w') (by obtain⟨m,hm⟩:=hg;exact⟨m,DK hB hm⟩) (by omega));have H1:=zH h1;have H2:=zH h2;have H3:=zH h3;have H4:=zH h4;clear h1 h2 h3 h4 hm hg;go_enter Tryz.func297,Tryz.ntmps297;obtain⟨A,hA⟩:=ex_ ((Lib.cut e.rest [e.by_]).1);obtain⟨B,hB0⟩:=ex_ ((Lib.cut e.rest [e.by_]).2.1);obtain⟨C,hC0⟩:=ex_ ((Lib.cut e.rest [e.by_]).2.2);rw[←hA,←hB0,←hC0]at HC;have HE:=zH (show gx e={ e with more:=C,rest:=B } by rw[hB0,hC0];rfl);have HA:=zH hA;clear hA hB0 hC0;have nb:¬e.bm=e.bt:=H4.o.2.2.2.1;have nb':¬e.bt=e.bm:=fun h=>nb h.symm
 have hcv:(convert 149 9 (.slice (some ⟨w.heap.size,0,none⟩) 1 1)).run Tryz.prog (w.alloc (.cells #[.int .u8 (e.by_.toNat:Int)] 5))=.ok (.string (bs [e.by_])) (w.alloc (.cells #[.int .u8 (e.by_.toNat:Int)] 5)) :=
  s9 _ _ 5 Tryz.underlying149 Tryz.underlying5 Tryz.underlying9 _ w.heap.size _ 1 [e.by_] ⟨rfl,.inr ⟨w.heap.size,1,#[.int .u8 (e.by_.toNat:Int)],rfl,Ei _,World.alloc_heap_new w _,Ei _,by decide,rfl,rfl⟩⟩
 go_wp2_with (go_at_call 298;refine(HC.o _ (af _ _)).mono ?_;rintro r w2 ⟨rfl,hB⟩;have hB2:=bt (af w (.cells #[.int .u8 (e.by_.toNat:Int)] 5)) hB;have q0:=(H1.o.below hB2).cell (k:=0) rfl;have q1:=(H2.o.below hB2).cell (k:=0) rfl;have f0:=(H1.o.below hB2).free (k:=0) (by simp);have f1:=(H2.o.below hB2).free (k:=0) (by simp);have HB2:=zH hB2;clear hB hB2);go_ret2;obtain⟨b1,b2,b3,n1,n2,n3⟩:=H4.o;refine⟨by rw[←HA.o];rfl,?_,?_⟩
 ·rw[HE.o]
  have g1:=H1.o.below HB2.o;have g2:=H2.o.below HB2.o;have g3:=H3.o.below HB2.o;have x1:Chg (fun k=>k=e.bt) w2 (w2.setCell ⟨e.bt,0,none⟩ (.string (bs B))):=Chg.setCell _ _ _ rfl;have x2:Chg (fun k=>k=e.bm) (w2.setCell ⟨e.bt,0,none⟩ (.string (bs B))) ((w2.setCell ⟨e.bt,0,none⟩ (.string (bs B))).setCell ⟨e.bm,0,none⟩ (.bool C)):=Chg.setCell _ _ _ rfl;exact⟨(g1.chg x1 n1).set 0 (.bool C),(g2.set 0 (.string (bs B))).chg x2 (fun h=>n1 h.symm),(g3.chg x1 (fun h=>n3 h.symm)).chg x2 (fun h=>n2 h.symm),b1,b2,b3,n1,n2,n3⟩
 ·exact((DM HB2.o).trans (Chg.setCell w2 ⟨e.bt,0,none⟩ _ (.inr rfl))).trans (Chg.setCell _ ⟨e.bm,0,none⟩ _ (.inl rfl))
theorem uv (s:LU_)(c:UInt8)(w:World)(pc:Nat)(hb:bZ≤w.heap.size):Calls Tryz.prog 296 #[.string (bs s),.int .u8 (c.toNat:Int)] w fun r w'=>r=.returned (eoF ⟨pc,w.heap.size+2,w.heap.size,w.heap.size+1,!s.isEmpty,s,c⟩)∧iZ bZ w' ⟨pc,w.heap.size+2,w.heap.size,w.heap.size+1,!s.isEmpty,s,c⟩∧Bw_ w w':=by
 obtain⟨W3,hW3⟩:=ex_ (((w.alloc (.cells #[.string (bs s)] 9)).alloc (.cells #[.int .u8 (c.toNat:Int)] 5)).alloc (.cells #[.bool (!s.isEmpty)] 4));have hsm:∀ (fn:Fn) (first cap:Array Value) (w:World),(Instr.makeFunc fn first cap).run Tryz.prog w=.ok (.func fn first cap) w:=fun _ _ _ _=>rfl;have h1:Blk W3 w.heap.size 9 [.string (bs s)]:=by rw[hW3];exact((Blk.new w _ _).below (af _ _)).below (af _ _)
 have h2:Blk W3 (w.heap.size+1) 5 [.int .u8 (c.toNat:Int)]:=by
  rw[hW3];have:=Blk.new (w.alloc (.cells #[.string (bs s)] 9)) [.int .u8 (c.toNat:Int)] 5;rw[show(w.alloc (.cells #[.string (bs s)] 9)).heap.size=w.heap.size+1 from Array.size_push ..]at this;exact this.below (af _ _)
 have h3:Blk W3 (w.heap.size+2) 4 [.bool (!s.isEmpty)]:=by
  rw[hW3];have:=Blk.new ((w.alloc (.cells #[.string (bs s)] 9)).alloc (.cells #[.int .u8 (c.toNat:Int)] 5)) [.bool (!s.isEmpty)] 4;rw[show((w.alloc (.cells #[.string (bs s)] 9)).alloc (.cells #[.int .u8 (c.toNat:Int)] 5)).heap.size=w.heap.size+2 from by rw[show((w.alloc (.cells #[.string (bs s)] 9)).alloc (.cells #[.int .u8 (c.toNat:Int)] 5)).heap.size=(w.alloc (.cells #[.string (bs s)] 9)).heap.size+1 from Array.size_push ..,show(w.alloc (.cells #[.string (bs s)] 9)).heap.size=w.heap.size+1 from Array.size_push ..]]at this;exact this
 have hb3:Below w.heap.size w W3:=by rw[hW3];exact bt (af _ _) (bt (af _ _) (af _ _))
 have HK:=zH (show iZ bZ W3 ⟨pc,w.heap.size+2,w.heap.size,w.heap.size+1,!s.isEmpty,s,c⟩∧Below w.heap.size w W3 from⟨⟨h3,h1,h2,by show bZ≤w.heap.size+2;omega,hb,by show bZ≤w.heap.size+1;omega,by show w.heap.size+2≠w.heap.size;omega,by show w.heap.size+2≠w.heap.size+1;omega,by show w.heap.size≠w.heap.size+1;omega⟩,hb3⟩);clear h1 h2 h3 hb3;go_enter Tryz.func296,Tryz.ntmps296;go_upto_region 2 with fail;rw[←hW3];clear hW3;go_wp2_with fail;go_ret;exact⟨rfl,HK.o⟩
end
end
section
attribute [local irreducible] wpG
section
variable {bZ G:Nat}{w w':World}{f:Mf}{at_:Int}{st rg:List MV}{eos:List Eo}{pr:List (LU_×LU_)}{tr:List Int}{tv cv iv ev lv stv opv prv trv:Value}{X:List (Pt bZ)}
theorem mU {n : Int}(h0 : -9223372036854775808 ≤ n)(h1 : n ≤ 9223372036854775807){w : World}(ht : Lib.TabIs Tryz.prog w "internal/strconv.uint64pow10" .u64 Lib.pow10Tab) : Calls Tryz.prog 203 #[.int .i64 n, .int .i64 10] w fun e w' => e = .returned (.string (bs (Lib.itoa n))) ∧ Below w.heap.size w w' := by
 refine(Tryz.strconv_FormatInt_10 n h0 h1 w ht).mono ?_;rintro e w' ⟨rfl,k,os,rfl⟩;refine⟨rfl,?_⟩;have hb:Below w.heap.size w (Sort.grow (w.drewN k) os):=⟨rfl,rfl,rfl,by show w.heap.size≤(w.heap++os).size;rw[Array.size_append];omega,fun j hj=>by show(w.heap++os)[j]?=_;rw[Array.getElem?_append_left hj]⟩
 exact hb
theorem aO {P:Program}{ops:Array Oper}{o:Oper}{a:Act}{w:World}{K:Act→World→Prop}{Q:Exit→Act→World→Prop}{E:Prop}{R:Ending→World→Prop}(hg:o.guard=none)(f:FuncId)(vals:Array Value)(hrun:(execOp a.eval o).run P w=.ok (.enter f vals) w)(hc:Calls P f vals w R)(h:∀ e w',R e w'→match e with|.returned v=>K (a.put o.dst v) w'|.panicked ch=>Q (.panic ch) a w'|.outgrown=>LetsOut Q):if Region.wanted o (yielded ops a.tmps)=true then Oper.wp P o a w K Q else E:=by
 have hw:Region.wanted o (yielded ops a.tmps)=true:=by simp[Region.wanted,hg]
 rw[if_pos hw];unfold Oper.wp;rw[hrun];refine Calls.mono hc ?_;intro e w' hR;have:=h e w' hR
 cases e<;>exact this
theorem MR.setReg (h:MR bZ w G f at_ st rg eos pr tr stv opv prv trv X){i:Nat}(hi:i<8)(v:MV):MR bZ ((w.setCell ⟨G,7+i*2,none⟩ (.int .i64 v.1)).setCell ⟨G,7+i*2+1,none⟩ (.string (bs v.2))) G f at_ st (rg.set i v) eos pr tr stv opv prv trv X∧Below bZ w ((w.setCell ⟨G,7+i*2,none⟩ (.int .i64 v.1)).setCell ⟨G,7+i*2+1,none⟩ (.string (bs v.2))):=by
 have hs:Chg (fun k=>k=G) w ((w.setCell ⟨G,7+i*2,none⟩ (.int .i64 v.1)).setCell ⟨G,7+i*2+1,none⟩ (.string (bs v.2))):=Chg.trans (Chg.setCell w ⟨G,7+i*2,none⟩ _ rfl) (Chg.setCell _ ⟨G,7+i*2+1,none⟩ _ rfl);have hb:=(h.blk.set (7+i*2) (.int .i64 v.1)).set (7+i*2+1) (.string (bs v.2))
 have hc:((br f at_ stv rg opv prv f.tx f.sn trv).set (7+i*2) (.int .i64 v.1)).set (7+i*2+1) (.string (bs v.2))=br f at_ stv (rg.set i v) opv prv f.tx f.sn trv:=by
  obtain⟨a,b,c,d,e,f',g,j,hr⟩:=dM h.rl;rw[hr];rcases(by omega:i=0∨i=1∨i=2∨i=3∨i=4∨i=5∨i=6∨i=7) with rfl|rfl|rfl|rfl|rfl|rfl|rfl|rfl<;>rfl
 rw[hc]at hb;have s2:=h.sep.upd (i:=0) rfl hs (fun k hk=>hk) (aB G h.gb 227 (br f at_ stv (rg.set i v) opv prv f.tx f.sn trv)) hb (fun k hk=>.inl hk);exact⟨⟨h.gb,by rw[EI];exact h.rl,s2⟩,h.sep.updB (i:=0) rfl hs (fun k hk=>hk) h.size⟩
theorem dA {w:World}{v:Value}{l:List Int}(h:bq.Row w v l):∃ a n,v=.slice a l.length n∧∀ k (hk:k<l.length),∃ b off,a=some ⟨b,off,none⟩∧w.cell? ⟨b,off+k,none⟩=some (.int .i64 l[k]):=by
 obtain⟨a,cap,rfl,hle,hc⟩:=Rec.Row.open h;refine⟨a,cap,rfl,fun k hk=>?_⟩;obtain⟨b,off,ha,hu⟩:=hc k hk;refine⟨b,off,ha,?_⟩;have:=hu 0 _ rfl
 rwa [show off+k*bq.n+0=off+k by show off+k*1+0=_;omega]at this
theorem wI (y:UInt8)(h:MR bZ w G ⟨tv,cv,iv,ev,lv,[],0⟩ at_ st rg eos pr tr stv opv prv trv X)(hl:st.length≤1000){l:LL_}(ht:aL.Row w tv l)(hy:y.toNat<l.length)(hl2:l.length≤1000):Calls Tryz.prog 270 #[.pointer (some ⟨G,0,none⟩),.int .u8 (y.toNat:Int)] w fun e w'=>e=.returned (.int .i64 0)∧(∃ stv',MR bZ w' G ⟨tv,cv,iv,ev,lv,[],0⟩ at_ ((0,l.getD y.toNat [])::st) rg eos pr tr stv' opv prv trv X)∧Below bZ w w':=by
 obtain⟨a,n,rfl,-,hc⟩:=an ht;obtain⟨b,off,rfl,d0⟩:=hc y.toNat hy;have HP:=zH (bN (0,l[y.toNat]) h hl);have hg:l.getD y.toNat []=l[y.toNat]:=by rw[List.getD_eq_getElem?_getD,List.getElem?_eq_getElem hy];rfl
 have c0:=h.cell (k:=0) rfl;have i0:(0:Int)≤(y.toNat:Int):=by omega
 have i1:(y.toNat:Int)<(l.length:Int):=by omega
 have i2:(l.length:Int)≤1000:=by omega
 have HG:=zH hg;clear h hg ht hc;go_enter Tryz.func270,Tryz.ntmps270;go_wp2_with (go_at_call 293;refine HP.o.mono ?_;rintro e w2 ⟨rfl,⟨sv,hm⟩,hB⟩;have HM:=zH hm;have HB:=zH hB;clear hm hB);go_ret;rw[HG.o];exact⟨rfl,⟨_,HM.o⟩,HB.o⟩
theorem tR (y:UInt8)(h:MR bZ w G ⟨tv,cv,iv,ev,lv,[],0⟩ at_ st rg eos pr tr stv opv prv trv X)(hl:st.length≤1000){l:LL_}(ht:aL.Row w iv l)(hy:y.toNat<l.length)(hl2:l.length≤1000):Calls Tryz.prog 272 #[.pointer (some ⟨G,0,none⟩),.int .u8 (y.toNat:Int)] w fun e w'=>e=.returned (.int .i64 0)∧(∃ stv',MR bZ w' G ⟨tv,cv,iv,ev,lv,[],0⟩ at_ ((0,l.getD y.toNat [])::st) rg eos pr tr stv' opv prv trv X)∧Below bZ w w':=by
 obtain⟨a,n,rfl,-,hc⟩:=an ht;obtain⟨b,off,rfl,d0⟩:=hc y.toNat hy;have HP:=zH (bN (0,l[y.toNat]) h hl);have hg:l.getD y.toNat []=l[y.toNat]:=by rw[List.getD_eq_getElem?_getD,List.getElem?_eq_getElem hy];rfl
 have c0:=h.cell (k:=2) rfl;have i0:(0:Int)≤(y.toNat:Int):=by omega
 have i1:(y.toNat:Int)<(l.length:Int):=by omega
 have i2:(l.length:Int)≤1000:=by omega
 have HG:=zH hg;clear h hg ht hc;go_enter Tryz.func272,Tryz.ntmps272;go_wp2_with (go_at_call 293;refine HP.o.mono ?_;rintro e w2 ⟨rfl,⟨sv,hm⟩,hB⟩;have HM:=zH hm;have HB:=zH hB;clear hm hB);go_ret;rw[HG.o];exact⟨rfl,⟨_,HM.o⟩,HB.o⟩
theorem wL (y : UInt8)(a : MV)(h : MR bZ w G f at_ (a :: st) rg eos pr tr stv opv prv trv X)(hl : st.length ≤ 900)(ha : vOk a)(ht : ∀ w', Below bZ w w' → Lib.TabIs Tryz.prog w' "internal/strconv.uint64pow10" .u64 Lib.pow10Tab):Calls Tryz.prog 277 #[.pointer (some ⟨G,0,none⟩),.int .u8 (y.toNat:Int)] w fun e w'=>e=.returned (.int .i64 0)∧(∃ stv',MR bZ w' G f at_ ((0,Lib.itoa a.1)::st) rg eos pr tr stv' opv prv trv X)∧Below bZ w w':=by
 have HP:=zH (et a h (by omega));have HT:=zH ht;obtain⟨h1,h2,-⟩:=ha;clear h ht;go_enter Tryz.func277,Tryz.ntmps277;go_wp2_with (first|(go_at_call 293;refine(bN (0,Lib.itoa a.1) HM3.o (by omega)).mono ?_;rintro e w4 ⟨rfl,⟨sv4,hm⟩,hB⟩;have HM4:=zH hm;have HB4:=zH (HB3.o.trans hB);clear hm hB)|(go_at_call 203;refine(mU h1 h2 (HT.o _ HB.o)).mono ?_;rintro e w3 ⟨rfl,hB⟩;have HM3:=zH (HM.o.below hB);have HB3:=zH (HB.o.trans (hB.mono HM.o.size));clear hB)|(go_at_call 150;refine HP.o.mono ?_;rintro e w2 ⟨rfl,⟨sv,hm⟩,hB⟩;have HM:=zH hm;have HB:=zH hB;unfold mvV;clear hm hB));go_ret;exact⟨rfl,⟨_,HM4.o⟩,HB4.o⟩
theorem yN (y:UInt8)(hy:y.toNat<8)(a:MV)(h:MR bZ w G f at_ (a::st) rg eos pr tr stv opv prv trv X)(hl:st.length≤900):Calls Tryz.prog 287 #[.pointer (some ⟨G,0,none⟩),.int .u8 (y.toNat:Int)] w fun e w'=>e=.returned (.int .i64 0)∧(∃ stv',MR bZ w' G f at_ st (rg.set y.toNat a) eos pr tr stv' opv prv trv X)∧Below bZ w w':=by
 have hd:=h.below (b_drew w);have HP:=zH (et a hd (by omega));have HS:=zH h.size;have i0:(0:Int)≤(y.toNat:Int):=by omega
 have i1:(y.toNat:Int)<8:=by omega
 have HY:=zH hy;clear h hd;go_enter Tryz.func287,Tryz.ntmps287;go_wp2_with fail;go_region_with (go_at_call 150;refine HP.o.mono ?_;rintro e w2 ⟨rfl,⟨sv,hm⟩,hB⟩;unfold mvV;have HM:=zH hm;have HB:=zH (((b_drew w).mono HS.o).trans hB);obtain⟨q0,q1⟩:=hm.reg HY.o;have k0:=hm.free (k:=7+y.toNat*2) (by have:=HY.o;omega);have k1:=hm.free (k:=7+y.toNat*2+1) (by have:=HY.o;omega);clear hm hB)
 all_goals
  (try dsimp only)
  (try go_frame)
  go_wp2_with fail;go_ret;obtain⟨m5,b5⟩:=HM.o.setReg HY.o a;exact⟨rfl,⟨_,m5⟩,HB.o.trans b5⟩
theorem yU (y:UInt8)(a:MV)(h:MR bZ w G f at_ (a::st) rg eos pr tr stv opv prv trv X)(hl:st.length≤900):Calls Tryz.prog 284 #[.pointer (some ⟨G,0,none⟩),.int .u8 (y.toNat:Int)] w fun e w'=>e=.returned (.int .i64 0)∧(∃ stv',MR bZ w' G f at_ (a::a::st) rg eos pr tr stv' opv prv trv X)∧Below bZ w w':=by
 obtain⟨⟨ab,cb,hsv⟩,_,_,_⟩:=h.slices;rw[Ea]at hsv;subst hsv;have hd:=h.below (b_drew w);have HP:=zH (bN a hd (by simp;omega));have HS:=zH h.size;obtain⟨g,rfl,-,e0,e1⟩:=h.top;have c6:w.cell? ⟨G,6,none⟩=some (.slice (some ⟨g,0,none⟩) (st.length+1) cb):=h.cell (k:=6) rfl;have hl1:((st.length:Int)+1)-1=(st.length:Int):=by omega
 have hl2:(0:Int)≤(st.length:Int):=by omega
 have hl3:(st.length:Int)<(st.length:Int)+1:=by omega
 have hl4:(st.length:Int)≤1000:=by omega
 have hw:IntKind.i64.wrap (st.length:Int)=(st.length:Int):=IntWalk.i64_in _ (by omega);clear h hd;go_enter Tryz.func284,Tryz.ntmps284;go_wp2_with fail;go_region_law (refine aO rfl 293 #[.pointer (some ⟨G,0,none⟩),.agg #[.int .i64 a.1,.string (bs a.2)]] (by go_simp) HP.o ?_;rintro e w2 ⟨rfl,⟨sv,hm⟩,hB⟩;have HM:=zH hm;have HB:=zH (((b_drew w).mono HS.o).trans hB);clear hm hB)
 all_goals
  (try simp only[EU,ER,Ez])
  (try go_frame)
  (try go_wp2_with fail)
  (try simp only[EU,ER,Ez])
  go_ret;exact⟨rfl,⟨_,HM.o⟩,HB.o⟩
theorem wH (y:UInt8)(pc:Nat)(h:MR bZ w G ⟨tv,cv,iv,ev,lv,[],0⟩ (pc:Int) st rg eos pr tr stv opv prv trv X){l:List Int}(ht:bq.Row w ev l)(hp:pc<l.length)(hl2:l.length≤1000)(hv:-1000≤l[pc]∧l[pc]≤1000):Calls Tryz.prog 289 #[.pointer (some ⟨G,0,none⟩),.int .u8 (y.toNat:Int)] w fun e w'=>e=.returned (.int .i64 0)∧MR bZ w' G ⟨tv,cv,iv,ev,lv,[],0⟩ (l[pc]-1) st rg eos pr tr stv opv prv trv X∧Below bZ w w':=by
 obtain⟨a,n,rfl,hc⟩:=dA ht;obtain⟨b,off,rfl,d0⟩:=hc pc hp;have c3:=h.cell (k:=3) rfl;have c5:=h.cell (k:=5) rfl;have f5:=h.free (k:=5) (by decide);have i0:=nn_ pc;have i1:(pc:Int)<(l.length:Int):=by omega
 have i2:(l.length:Int)≤1000:=by omega
 obtain⟨v,hv'⟩:∃ v,v=l[pc]:=⟨_,rfl⟩
 rw[←hv']at d0 hv⊢;obtain⟨j0,j1⟩:=hv;have HD:=zH (h.below (b_drew w));have HS:=zH h.size;clear h ht hc hv';go_enter Tryz.func289,Tryz.ntmps289;go_wp2_with fail;go_region
 all_goals
  go_wp2_with fail;go_ret;obtain⟨m5,b5⟩:=HD.o.setAt (v-1);exact⟨rfl,m5,((b_drew w).mono HS.o).trans b5⟩
theorem rk (y:UInt8)(a:MV)(pc:Nat)(h:MR bZ w G ⟨tv,cv,iv,ev,lv,[],0⟩ (pc:Int) (a::st) rg eos pr tr stv opv prv trv X)(hl:st.length≤900){l:List Int}(ht:∀ w',Below bZ w w'→bq.Row w' ev l)(hp:pc<l.length)(hl2:l.length≤1000):Calls Tryz.prog 288 #[.pointer (some ⟨G,0,none⟩),.int .u8 (y.toNat:Int)] w fun e w'=>e=.returned (.int .i64 0)∧(∃ stv',MR bZ w' G ⟨tv,cv,iv,ev,lv,[],0⟩ (if a.1=0 then l[pc] else (pc:Int)) st rg eos pr tr stv' opv prv trv X)∧Below bZ w w':=by
 have HP:=zH (et a h (by omega));have HT:=zH ht;clear h ht
 by_cases ha:a.1=0
 ·rw[if_pos ha]
  have i0:=nn_ pc;have i1:(pc:Int)<(l.length:Int):=by omega
  have i2:(l.length:Int)≤1000:=by omega
  have t0:(a.1==0)=true:=by simp[ha]
  have HA:=zH ha;clear ha;go_enter Tryz.func288,Tryz.ntmps288;go_upto_region 2 with(go_at_call 150;refine HP.o.mono ?_;rintro e w2 ⟨rfl,⟨sv,hm⟩,hB⟩;unfold mvV;have HM:=zH hm;have HB:=zH hB;clear hm hB);obtain⟨a',n,hev,hc⟩:=dA (HT.o _ HB.o);obtain⟨b,off,rfl,d0⟩:=hc pc hp;subst hev;obtain⟨v,hv'⟩:∃ v,v=l[pc]:=⟨_,rfl⟩
  rw[←hv']at d0;have HV:=zH hv';have c3:=HM.o.cell (k:=3) rfl;have c5:=HM.o.cell (k:=5) rfl;have f5:=HM.o.free (k:=5) (by decide);have HD:=zH (HM.o.below (b_drew w2));clear hc hv';go_region
  all_goals
   go_wp2_with fail;go_ret;obtain⟨m5,b5⟩:=HD.o.setAt v;exact⟨rfl,⟨_,by rw[←HV.o];exact m5⟩,(HB.o.trans ((b_drew w2).mono HM.o.size)).trans b5⟩
 ·rw[if_neg ha]
  have t0:(a.1==0)=false:=by rw[beq_eq_false_iff_ne];exact ha
  go_enter Tryz.func288,Tryz.ntmps288;go_wp2_with (go_at_call 150;refine HP.o.mono ?_;rintro e w2 ⟨rfl,⟨sv,hm⟩,hB⟩;unfold mvV;have HM:=zH hm;have HB:=zH hB;clear hm hB);go_ret;exact⟨rfl,⟨_,HM.o⟩,HB.o⟩
end
end
section
attribute [local irreducible] wpG
section
variable {bZ G:Nat}{w w' w3:World}{f:Mf}{at_:Int}{st rg:List MV}{eos:List Eo}{pr:List (LU_×LU_)}{tr:List Int}{tv cv iv ev lv stv opv prv prv' trv:Value}{X:List (Pt bZ)}
theorem dE.below {w w':World}(h:dE w)(hB:Below w.heap.size w w'):dE w':=by
 obtain⟨h2,⟨a,b,h3⟩,⟨c,d,h4⟩,⟨m,h5⟩⟩:=h
 have hv : Lib.TabIs Tryz.prog w' "internal/strconv.uint64pow10" .u64 Lib.pow10Tab := by
  have h2:=h2;unfold Lib.TabIs World.var? at h2⊢;generalize Tryz.prog.globalNamed "internal/strconv.uint64pow10" = og at h2 ⊢
  cases og with
  | none=>cases h2
  | some g =>
   simp only[Option.bind_some]at h2⊢
   cases hh:w.heap[g]? with
   | none=>rw[hh]at h2;cases h2
   | some o=>rw[hB.block g (Array.getElem?_eq_some_iff.1 hh).1,hh];rw[hh]at h2;exact h2
 exact⟨hv,⟨a,b,DK hB h3⟩,⟨c,d,DK hB h4⟩,⟨m,DK hB h5⟩⟩
theorem FU {T:Prop} (h:T:=by
 rintro e w' ⟨N,rfl,-,-,hB⟩;exact⟨.inr ⟨fun v h'=>by(first|cases h'|(rw[h]at h';cases h')),_,_,_,rfl⟩,hB⟩
):T:=h
theorem Cj (s:LU_)(hs:s.length≤1024){w:World}(hg:dE w):Calls Tryz.prog 210 #[.string (bs s),.int .i64 10,.int .i64 64] w fun e w'=>((∃ v,Lib.atoiAll s=.ok v∧e=.returned (.tuple #[.int .i64 v,.nilIface]))∨((∀ v,Lib.atoiAll s≠.ok v)∧∃ n tp N,e=.returned (.tuple #[.int .i64 n,.iface tp (.pointer (some ⟨N,0,none⟩))])))∧Bw_ w w':=by
 obtain⟨te,pe,hsy⟩:=hg.syn;obtain⟨te2,pe2,hrg⟩:=hg.rng;have hl:(bs s).data.toList=s:=by simp[bs]
 cases h:Lib.atoiAll s with
 | ok v =>
  refine(Tryz.strconv_ParseInt_10_at64_ok (bs s) (by rw[bY];omega) v (by rw[hl,Lib.parseIntB_64];exact h) w).mono ?_;rintro e w' ⟨rfl,rfl|⟨t,rfl⟩⟩
  ·exact⟨.inl ⟨v,rfl,rfl⟩,Em _ _⟩
  ·exact⟨.inl ⟨v,rfl,rfl⟩,jL _ _ _⟩
 | range =>
  refine(Tryz.strconv_ParseInt_10_at64_range (bs s) (by rw[bY];omega) (by rw[hl,Lib.parseIntB_64];exact h) _ w hrg (.inr ⟨te2,pe2,rfl⟩)).mono ?_;exact FU
 | _ =>
  refine(Tryz.strconv_ParseInt_10_at64_syntax (bs s) (by rw[bY];omega) (by rw[hl,Lib.parseIntB_64];exact h) _ w hsy (.inr ⟨te,pe,rfl⟩)).mono ?_;exact FU
theorem Ie {T:Prop} (h:T:=by
 obtain⟨a,b,c,d,e,f',g,j,hr⟩:=dM h.rl;rw[hr];rfl
):T:=h
theorem MR.newP (h:MR bZ w G f at_ st rg eos pr tr stv opv prv trv X){l:List (LU_×LU_)}(hc:Chg (fun k=>prv.ownBlock=some k) w w3)(hg:∀ k,prv'.ownBlock=some k→prv.ownBlock=some k∨w.heap.size≤k)(ho:recKv.Own w3 bZ prv' l):MR bZ (w3.setCell ⟨G,24,none⟩ prv') G f at_ st rg eos l tr stv opv prv' trv X∧Below bZ w (w3.setCell ⟨G,24,none⟩ prv')∧w3.frozen? ⟨G,24,none⟩=false∧w3.cell? ⟨G,24,none⟩=some prv:=by
 have s1:=h.sep.upd (i:=4) rfl hc (fun k hk=>hk) (ownPt recKv prv' l) ho hg;have hs:Chg (fun k=>k=G) w3 (w3.setCell ⟨G,24,none⟩ prv'):=Chg.setCell _ _ _ rfl;have b3:Blk w3 G 227 (br f at_ stv rg opv prv f.tx f.sn trv):=s1.get (i:=0) rfl
 have hcs:(br f at_ stv rg opv prv f.tx f.sn trv).set 24 prv'=br f at_ stv rg opv prv' f.tx f.sn trv:=by
  exact Ie
 have hb:=b3.set 24 prv';rw[hcs]at hb;have s2:=s1.upd (i:=0) rfl hs (fun k hk=>hk) (aB G h.gb 227 (br f at_ stv rg opv prv' f.tx f.sn trv)) hb (fun k hk=>.inl hk);exact⟨⟨h.gb,h.rl,s2⟩,(h.sep.updB (i:=4) rfl hc (fun k hk=>hk) h.size).trans (hs.below (fun k hk=>by have:=h.gb;omega) (En h.size hc.size)),by obtain⟨a,b,c,d,e,f',g,j,hr⟩:=dM h.rl;rw[hr]at b3;exact b3.free (k:=24) (by show 24<28;decide),by obtain⟨a,b,c,d,e,f',g,j,hr⟩:=dM h.rl;rw[hr]at b3;exact b3.cell (k:=24) rfl⟩
theorem wQ (y:UInt8)(a b:MV)(h:MR bZ w G f at_ (b::a::st) rg eos pr tr stv opv prv trv X)(hl:st.length≤900)(hp:pr.length≤256):Calls Tryz.prog 292 #[.pointer (some ⟨G,0,none⟩),.int .u8 (y.toNat:Int)] w fun e w'=>((256≤pr.length∧e=.returned (.int .i64 4))∨(¬256≤pr.length∧e=.returned (.int .i64 0)∧∃ stv' prv',MR bZ w' G f at_ st rg eos (pr++[(a.2,b.2)]) tr stv' opv prv' trv X))∧Below bZ w w':=by
 obtain⟨_,_,⟨pa,pc,rfl⟩,_⟩:=h.slices;have c24:w.cell? ⟨G,24,none⟩=some (.slice pa pr.length pc):=h.cellR (k:=1) rfl;have HS:=zH h.size
 by_cases h256:256≤pr.length
 ·have t1:(256:Int)≤(pr.length:Int):=by omega
  have hi:(pr.length:Int)≤256:=by omega
  clear h;go_enter Tryz.func292,Tryz.ntmps292;go_wp2_with fail;go_ret;exact⟨.inl ⟨h256,rfl⟩,Em _ _⟩
 ·have t1:¬(256:Int)≤(pr.length:Int):=by omega
  have hi:(pr.length:Int)≤256:=by omega
  have HP:=zH (gQ a b h hl);have H256:=zH h256;clear h h256;go_enter Tryz.func292,Tryz.ntmps292;go_upto_region 4 with(go_at_call 294;refine HP.o.mono ?_;rintro e w2 ⟨rfl,⟨sv,hm⟩,hB⟩;unfold mvV;have HM:=zH hm;have HB:=zH hB;clear hm hB);obtain⟨W3,hW3⟩:=ex_ ((w2.alloc (.cells #[.int .i64 a.1,.string (bs a.2)] 223)).alloc (.cells #[.int .i64 b.1,.string (bs b.2)] 223));have hb3:Below w2.heap.size w2 W3:=by rw[hW3];exact bt (af _ _) (af _ _)
  have hx:Blk W3 w2.heap.size 223 [.int .i64 a.1,.string (bs a.2)]:=by rw[hW3];exact(Blk.new w2 _ _).below (af _ _)
  have hy:Blk W3 (w2.heap.size+1) 223 [.int .i64 b.1,.string (bs b.2)]:=by
   exact Hx
  have hm3:=HM.o.below hb3;have HB3:=zH (HB.o.trans (hb3.mono HM.o.size));obtain⟨D,hD⟩:=ex_ w2.heap.size;rw[←hD]at hx hy⊢;rw[←hW3];have x1:=hx.cell (k:=1) rfl;have y1:=hy.cell (k:=1) rfl;have lx:=hx.lt;have ly:=hy.lt;have c24':W3.cell? ⟨G,24,none⟩=some (.slice pa pr.length pc):=hm3.cellR (k:=1) rfl;have hGl:G<W3.heap.size:=hm3.blk.lt;have h3d:=hm3.below (b_drew W3);have hgb:bZ≤W3.drew.heap.size:=h3d.size;have hby:(pr.length+1)*32≤140737488355328:=by omega
  have H3D:=zH h3d;have hop:=h3d.op;have HM3:=zH hm3;clear hx hy hW3 hD hb3 HM HB h3d hm3 c24;go_region_law (refine recKv.step_append1V W3.drew (a.2,b.2) rfl _ _ 37 rfl Tryz.underlying37 bZ (.slice pa pr.length pc) pr rfl hop _ rfl _ rfl _ rfl hby hgb ?_;intro g gc w4 hown hc hg;have hn:=H3D.o.newP (prv':=.slice (some ⟨g,0,none⟩) (pr.length+1) gc) (l:=pr++[(a.2,b.2)]) hc (fun k hk=>by cases hk;exact hg) hown;have f24:=hn.2.2.1;have c24'':=hn.2.2.2;have HN:=zH hn;clear hn hown hc hg)
  all_goals
   (try simp only[EU,ER,Ez])
   (try go_frame)
   go_wp2_with fail;go_ret;exact⟨.inr ⟨H256.o,rfl,_,_,HN.o.1⟩,(HB3.o.trans ((b_drew W3).mono HM3.o.size)).trans HN.o.2.1⟩
end
end
section
attribute [local irreducible] wpG
section
variable {bZ G:Nat}{w w' w3:World}{f:Mf}{at_:Int}{st rg:List MV}{eos:List Eo}{pr:List (LU_×LU_)}{tr:List Int}{stv opv opv' prv trv trv':Value}{X:List (Pt bZ)}
theorem FZ {T:Prop} (h:T:=by
 obtain⟨a,b,c,d,e,f',g,j,hr⟩:=dM h.rl;rw[hr];rfl
):T:=h
theorem MR.newO (h:MR bZ w G f at_ st rg eos pr tr stv opv prv trv X){l:List Eo}(hc:Chg (fun k=>opv.ownBlock=some k) w w3)(hg:∀ k,opv'.ownBlock=some k→opv.ownBlock=some k∨w.heap.size≤k)(ho:eT.Own w3 bZ opv' l)(hb:(∀ e∈l,iZ bZ w3 e)∧l.Pairwise fun e f=>∀ k,lR k e→¬lR k f)(hf:∀ e∈l,∀ k,lR k e→(∃ e'∈eos,lR k e')):MR bZ (w3.setCell ⟨G,23,none⟩ opv') G f at_ st rg l pr tr stv opv' prv trv X∧Below bZ w (w3.setCell ⟨G,23,none⟩ opv')∧w3.frozen? ⟨G,23,none⟩=false∧w3.cell? ⟨G,23,none⟩=some opv:=by
 have s1:=h.sep.upd (i:=2) rfl hc (fun k hk=>hk) (ownPt eT opv' l) ho hg
 have s15:=s1.same (i:=3) (p:=boxPt eos) rfl (boxPt l) hb (fun k hk=>by
  obtain⟨e,he,hk⟩:=hk;exact hf e he k hk)
 have hs:Chg (fun k=>k=G) w3 (w3.setCell ⟨G,23,none⟩ opv'):=Chg.setCell _ _ _ rfl;have b3:Blk w3 G 227 (br f at_ stv rg opv prv f.tx f.sn trv):=s15.get (i:=0) rfl
 have hcs:(br f at_ stv rg opv prv f.tx f.sn trv).set 23 opv'=br f at_ stv rg opv' prv f.tx f.sn trv:=by
  exact FZ
 have hbk:=b3.set 23 opv';rw[hcs]at hbk;have s2:=s15.upd (i:=0) rfl hs (fun k hk=>hk) (aB G h.gb 227 (br f at_ stv rg opv' prv f.tx f.sn trv)) hbk (fun k hk=>.inl hk);exact⟨⟨h.gb,h.rl,s2⟩,(h.sep.updB (i:=2) rfl hc (fun k hk=>hk) h.size).trans (hs.below (fun k hk=>by have:=h.gb;omega) (En h.size hc.size)),by obtain⟨a,b,c,d,e,f',g,j,hr⟩:=dM h.rl;rw[hr]at b3;exact b3.free (k:=23) (by show 23<28;decide),by obtain⟨a,b,c,d,e,f',g,j,hr⟩:=dM h.rl;rw[hr]at b3;exact b3.cell (k:=23) rfl⟩
theorem MR.newT (h:MR bZ w G f at_ st rg eos pr tr stv opv prv trv X){l:List Int}(hc:Chg (fun k=>trv.ownBlock=some k) w w3)(hg:∀ k,trv'.ownBlock=some k→trv.ownBlock=some k∨w.heap.size≤k)(ho:bq.Own w3 bZ trv' l):MR bZ (w3.setCell ⟨G,27,none⟩ trv') G f at_ st rg eos pr l stv opv prv trv' X∧Below bZ w (w3.setCell ⟨G,27,none⟩ trv')∧w3.frozen? ⟨G,27,none⟩=false∧w3.cell? ⟨G,27,none⟩=some trv:=by
 have s1:=h.sep.upd (i:=5) rfl hc (fun k hk=>hk) (ownPt bq trv' l) ho hg;have hs:Chg (fun k=>k=G) w3 (w3.setCell ⟨G,27,none⟩ trv'):=Chg.setCell _ _ _ rfl;have b3:Blk w3 G 227 (br f at_ stv rg opv prv f.tx f.sn trv):=s1.get (i:=0) rfl
 have hcs:(br f at_ stv rg opv prv f.tx f.sn trv).set 27 trv'=br f at_ stv rg opv prv f.tx f.sn trv':=by
  exact FZ
 have hbk:=b3.set 27 trv';rw[hcs]at hbk;have s2:=s1.upd (i:=0) rfl hs (fun k hk=>hk) (aB G h.gb 227 (br f at_ stv rg opv prv f.tx f.sn trv')) hbk (fun k hk=>.inl hk);exact⟨⟨h.gb,h.rl,s2⟩,(h.sep.updB (i:=5) rfl hc (fun k hk=>hk) h.size).trans (hs.below (fun k hk=>by have:=h.gb;omega) (En h.size hc.size)),by obtain⟨a,b,c,d,e,f',g,j,hr⟩:=dM h.rl;rw[hr]at b3;exact b3.free (k:=27) (by show 27<28;decide),by obtain⟨a,b,c,d,e,f',g,j,hr⟩:=dM h.rl;rw[hr]at b3;exact b3.cell (k:=27) rfl⟩
theorem Sep.merge {A B:List (Pt bZ)}{p q:Pt bZ}(h:Sep bZ w (A++p::B++[q]))(r:Pt bZ)(hr:r.P w)(hf:∀ k,r.fp k→p.fp k∨q.fp k):Sep bZ w (A++r::B):=by
 obtain⟨h1,h2⟩:=h;obtain⟨hab,-,hq⟩:=List.pairwise_append.1 h2;obtain⟨hA,hpB,hAp⟩:=List.pairwise_append.1 hab;obtain⟨hp,hB⟩:=List.pairwise_cons.1 hpB;refine⟨fun x hx=>?_,List.pairwise_append.2 ⟨hA,List.pairwise_cons.2 ⟨fun b hb k hk hk'=>?_,hB⟩,fun a ha b hb k hk hk'=>?_⟩⟩
 ·rcases Ey.1 hx with hx|hx
  ·exact h1 x (by simp[hx])
  ·rcases EW.1 hx with rfl|hx
   ·exact hr
   ·exact h1 x (by simp[hx])
 ·rcases hf k hk with hk|hk
  ·exact hp b hb k hk hk'
  ·exact hq b (by simp[hb]) q (by simp) k hk' hk
 ·rcases EW.1 hb with rfl|hb
  ·rcases hf k hk' with hk'|hk'
   ·exact hAp a ha p (by simp) k hk hk'
   ·exact hq a (by simp[ha]) q (by simp) k hk hk'
  ·exact hAp a ha b (by simp[hb]) k hk hk'
theorem MR.newO2 {e:Eo}(h:MR bZ w G f at_ st rg eos pr tr stv opv prv trv (X++[boxPt [e]]))(hc:Chg (fun k=>opv.ownBlock=some k) w w3)(hg:∀ k,opv'.ownBlock=some k→opv.ownBlock=some k∨w.heap.size≤k)(ho:eT.Own w3 bZ opv' (eos++[e])):MR bZ (w3.setCell ⟨G,23,none⟩ opv') G f at_ st rg (eos++[e]) pr tr stv opv' prv trv X∧Below bZ w (w3.setCell ⟨G,23,none⟩ opv')∧w3.frozen? ⟨G,23,none⟩=false∧w3.cell? ⟨G,23,none⟩=some opv:=by
 have s1:=h.sep.upd (i:=2) rfl hc (fun k hk=>hk) (ownPt eT opv' (eos++[e])) ho hg;have hbe:=s1.get (i:=3) (p:=boxPt eos) rfl;have hb1:(boxPt (bZ:=bZ) [e]).P w3:=s1.1 (boxPt [e]) (by simp)
 have hap:∀ k,(boxPt (bZ:=bZ) eos).fp k→¬(boxPt (bZ:=bZ) [e]).fp k:=by
  have hl:(aB G h.gb 227 (br f at_ stv rg opv prv f.tx f.sn trv)::ownPt ii stv st.reverse::ownPt eT opv' (eos++[e])::boxPt eos::ownPt recKv prv pr::ownPt bq trv tr::(X++[boxPt [e]]))[6+X.length]?=some (boxPt (bZ:=bZ) [e]):=by
   rw[Nat.add_comm];show(X++[boxPt [e]])[X.length]?=_;simp
  exact s1.apart (i:=3) (j:=6+X.length) (p:=boxPt eos) rfl hl (by omega)
 have s15:Sep bZ w3 ([aB G h.gb 227 (br f at_ stv rg opv prv f.tx f.sn trv),ownPt ii stv st.reverse,ownPt eT opv' (eos++[e])]++boxPt (eos++[e])::(ownPt recKv prv pr::ownPt bq trv tr::X)):=by
  refine Sep.merge (p:=boxPt eos) (q:=boxPt [e]) s1 (boxPt (eos++[e])) ⟨fun x hx=>?_,List.pairwise_append.2 ⟨hbe.2,List.pairwise_singleton _ _,fun a ha b hb k hk hk'=>?_⟩⟩ (fun k hk=>?_)
  ·rcases Ey.1 hx with hx|hx
   ·exact hbe.1 x hx
   ·exact hb1.1 x hx
  ·exact hap k ⟨a,ha,hk⟩ ⟨b,hb,hk'⟩
  ·obtain⟨x,hx,hk⟩:=hk
   rcases Ey.1 hx with hx|hx
   ·exact .inl ⟨x,hx,hk⟩
   ·exact .inr ⟨x,hx,hk⟩
 have hs:Chg (fun k=>k=G) w3 (w3.setCell ⟨G,23,none⟩ opv'):=Chg.setCell _ _ _ rfl;have b3:Blk w3 G 227 (br f at_ stv rg opv prv f.tx f.sn trv):=s15.get (i:=0) rfl
 have hcs:(br f at_ stv rg opv prv f.tx f.sn trv).set 23 opv'=br f at_ stv rg opv' prv f.tx f.sn trv:=by
  exact FZ
 have hbk:=b3.set 23 opv';rw[hcs]at hbk;have s2:=s15.upd (i:=0) rfl hs (fun k hk=>hk) (aB G h.gb 227 (br f at_ stv rg opv' prv f.tx f.sn trv)) hbk (fun k hk=>.inl hk);exact⟨⟨h.gb,h.rl,s2⟩,(h.sep.updB (i:=2) rfl hc (fun k hk=>hk) h.size).trans (hs.below (fun k hk=>by have:=h.gb;omega) (En h.size hc.size)),by obtain⟨a,b,c,d,e,f',g,j,hr⟩:=dM h.rl;rw[hr]at b3;exact b3.free (k:=23) (by show 23<28;decide),by obtain⟨a,b,c,d,e,f',g,j,hr⟩:=dM h.rl;rw[hr]at b3;exact b3.cell (k:=23) rfl⟩
end
end
section
attribute [local irreducible] wpG
section
variable {bZ G:Nat}{w w' w3:World}{f:Mf}{at_:Int}{st rg:List MV}{eos:List Eo}{pr:List (LU_×LU_)}{tr:List Int}{stv opv prv trv:Value}{X:List (Pt bZ)}
theorem si {s:LU_}{v:Int}(h:Lib.atoiAll s=.ok v):-9223372036854775808≤v∧v≤9223372036854775807:=by
 rw[←Lib.parseIntB_64]at h;have:=Lib.parseIntB_bounds h;simp at this;omega
theorem Db {s:LU_}{e:Ending}{v:Int}(h:(∃ v,Lib.atoiAll s=.ok v∧e=.returned (.tuple #[.int .i64 v,.nilIface]))∨((∀ v,Lib.atoiAll s≠.ok v)∧∃ n tp N,e=.returned (.tuple #[.int .i64 n,.iface tp (.pointer (some ⟨N,0,none⟩))])))(hv:Lib.atoiAll s=.ok v):e=.returned (.tuple #[.int .i64 v,.nilIface]):=by
 rcases h with ⟨u,hu,rfl⟩|⟨hn,_⟩
 ·rw[hv]at hu;cases hu;rfl
 ·exact absurd hv (hn v)
theorem Ci {s:LU_}{e:Ending}(h:(∃ v,Lib.atoiAll s=.ok v∧e=.returned (.tuple #[.int .i64 v,.nilIface]))∨((∀ v,Lib.atoiAll s≠.ok v)∧∃ n tp N,e=.returned (.tuple #[.int .i64 n,.iface tp (.pointer (some ⟨N,0,none⟩))])))(hv:¬∃ v,Lib.atoiAll s=.ok v):∃ n tp N,e=.returned (.tuple #[.int .i64 n,.iface tp (.pointer (some ⟨N,0,none⟩))]):=by
 rcases h with ⟨u,hu,_⟩|⟨_,h⟩
 ·exact absurd ⟨u,hu⟩ hv
 ·exact h
theorem tQ (y:UInt8)(a:MV)(h:MR bZ w G f at_ (a::st) rg eos pr tr stv opv prv trv X)(hl:st.length≤900)(ha:vOk a)(hG:∀ w',Below bZ w w'→dE w'):Calls Tryz.prog 276 #[.pointer (some ⟨G,0,none⟩),.int .u8 (y.toNat:Int)] w fun e w'=>e=.returned (.int .i64 0)∧(∃ stv',MR bZ w' G f at_ ((cJ a.2,[])::st) rg eos pr tr stv' opv prv trv X)∧Below bZ w w':=by
 have HP:=zH (et a h (by omega));have HG:=zH hG;have HPI:=zH (fun w' (hB:Below bZ w w')=>Cj a.2 ha.2.2 (HG.o w' hB));clear h hG
 by_cases hok:∃ v,Lib.atoiAll a.2=.ok v
 ·obtain⟨v,hv0⟩:=hok
  have hv:=si hv0;have HPO:=zH (fun w' (hB:Below bZ w w')=>(HPI.o w' hB).mono fun e w'' h=>(⟨Db h.1 hv0,h.2⟩:e=.returned (.tuple #[.int .i64 v,.nilIface])∧Below w'.heap.size w' w''));obtain⟨iv,hivv⟩:=ex_ (Lib.itoa v);have HFM:=zH (fun w' (hB:Below bZ w w')=>mU hv.1 hv.2 (HG.o w' hB).tab);rw[←hivv]at HFM
  by_cases hiv:iv=a.2
  ·have HV:=zH (show cJ a.2=v by unfold cJ;rw[hv0];exact if_pos (hivv▸hiv))
   have t1:(iv==a.2)=true:=by rw[hiv];simp
   have t2:(iv != a.2)=false:=by rw[hiv];simp
   clear hiv hv0 HPI hivv;rw[HV.o];go_enter Tryz.func276,Tryz.ntmps276;go_wp2_with (first|(go_at_call 293;refine(bN (v,[]) HM4.o (by omega)).mono ?_;rintro e w5 ⟨rfl,⟨sv5,hm⟩,hB⟩;have HM5:=zH hm;have HB5:=zH (HB4.o.trans hB);clear hm hB)|(go_at_call 203;refine(HFM.o _ HB3.o).mono ?_;rintro e w4 ⟨rfl,hB⟩;have HM4:=zH (HM3.o.below hB);have HB4:=zH (HB3.o.trans (hB.mono HM3.o.size));clear hB)|(go_at_call 210;refine(HPO.o _ HB.o).mono ?_;rintro e w3 ⟨rfl,hB⟩;have HM3:=zH (HM.o.below hB);have HB3:=zH (HB.o.trans (hB.mono HM.o.size));clear hB)|(go_at_call 150;refine HP.o.mono ?_;rintro e w2 ⟨rfl,⟨sv,hm⟩,hB⟩;unfold mvV;have HM:=zH hm;have HB:=zH hB;clear hm hB));go_ret;exact⟨rfl,⟨_,HM5.o⟩,HB5.o⟩
  ·have HV:=zH (show cJ a.2=0 by unfold cJ;rw[hv0];exact if_neg (hivv▸hiv))
   have t1:(iv==a.2)=false:=by simpa using hiv
   have t2:(iv != a.2)=true:=by simpa using hiv
   clear hiv hv0 HPI hivv;rw[HV.o];go_enter Tryz.func276,Tryz.ntmps276;go_wp2_with (first|(go_at_call 293;refine(bN (0,[]) HM4.o (by omega)).mono ?_;rintro e w5 ⟨rfl,⟨sv5,hm⟩,hB⟩;have HM5:=zH hm;have HB5:=zH (HB4.o.trans hB);clear hm hB)|(go_at_call 203;refine(HFM.o _ HB3.o).mono ?_;rintro e w4 ⟨rfl,hB⟩;have HM4:=zH (HM3.o.below hB);have HB4:=zH (HB3.o.trans (hB.mono HM3.o.size));clear hB)|(go_at_call 210;refine(HPO.o _ HB.o).mono ?_;rintro e w3 ⟨rfl,hB⟩;have HM3:=zH (HM.o.below hB);have HB3:=zH (HB.o.trans (hB.mono HM.o.size));clear hB)|(go_at_call 150;refine HP.o.mono ?_;rintro e w2 ⟨rfl,⟨sv,hm⟩,hB⟩;unfold mvV;have HM:=zH hm;have HB:=zH hB;clear hm hB));go_ret;exact⟨rfl,⟨_,HM5.o⟩,HB5.o⟩
 ·have HV:=zH (show cJ a.2=0 by
   unfold cJ
   cases h:Lib.atoiAll a.2 with
   | ok v=>exact absurd ⟨v,h⟩ hok
   | _=>rfl)
  have HPN:=zH (fun w' (hB:Below bZ w w')=>(HPI.o w' hB).mono fun e w'' h=>(⟨Ci h.1 hok,h.2⟩:(∃ n tp N,e=.returned (.tuple #[.int .i64 n,.iface tp (.pointer (some ⟨N,0,none⟩))]))∧Below w'.heap.size w' w''));clear hok HPI;rw[HV.o];go_enter Tryz.func276,Tryz.ntmps276;go_wp2_with (first|(go_at_call 293;refine(bN (0,[]) HM3.o (by omega)).mono ?_;rintro e w5 ⟨rfl,⟨sv5,hm⟩,hB⟩;have HM5:=zH hm;have HB5:=zH (HB3.o.trans hB);clear hm hB)|(go_at_call 210;refine(HPN.o _ HB.o).mono ?_;rintro e w3 ⟨⟨n3,tp3,N3,rfl⟩,hB⟩;have HM3:=zH (HM.o.below hB);have HB3:=zH (HB.o.trans (hB.mono HM.o.size));clear hB)|(go_at_call 150;refine HP.o.mono ?_;rintro e w2 ⟨rfl,⟨sv,hm⟩,hB⟩;unfold mvV;have HM:=zH hm;have HB:=zH hB;clear hm hB));go_ret;exact⟨rfl,⟨_,HM5.o⟩,HB5.o⟩
end
end
section
attribute [local irreducible] wpG
section
variable {bZ G:Nat}{w w' w3:World}{f:Mf}{at_:Int}{st rg:List MV}{eos:List Eo}{pr:List (LU_×LU_)}{tr:List Int}{stv opv prv trv:Value}{X:List (Pt bZ)}
theorem wN (y:UInt8)(n a t:MV)(h:MR bZ w G f at_ (n::a::t::st) rg eos pr tr stv opv prv trv X)(hl:st.length≤800)(hn:vOk n)(ha:vOk a)(ht:vOk t):Calls Tryz.prog 275 #[.pointer (some ⟨G,0,none⟩),.int .u8 (y.toNat:Int)] w fun e w'=>e=.returned (.int .i64 0)∧(∃ stv',MR bZ w' G f at_ ((0,gw t.2 a.1 n.1)::st) rg eos pr tr stv' opv prv trv X)∧Below bZ w w':=by
 have HP:=zH (gQ a n h (by simp;omega));have HS:=zH h.size;clear h;go_enter Tryz.func275,Tryz.ntmps275;go_upto_region 2 with(go_at_call 294;refine HP.o.mono ?_;rintro e w2 ⟨rfl,⟨sv,hm⟩,hB⟩;unfold mvV;have HM:=zH hm;have HB:=zH hB;clear hm hB);obtain⟨W3,hW3⟩:=ex_ ((w2.alloc (.cells #[.int .i64 a.1,.string (bs a.2)] 223)).alloc (.cells #[.int .i64 n.1,.string (bs n.2)] 223));have hb3:Below w2.heap.size w2 W3:=by rw[hW3];exact bt (af _ _) (af _ _)
 obtain⟨D,hD⟩:=ex_ w2.heap.size;have hDb:bZ≤D:=by rw[hD];exact HM.o.size
 have hDb1:bZ≤D+1:=by omega
 have hmx:MR bZ W3 G f at_ (t::st) rg eos pr tr sv opv prv trv (X++[aB D hDb 223 [.int .i64 a.1,.string (bs a.2)]]++[aB (D+1) hDb1 223 [.int .i64 n.1,.string (bs n.2)]]):=by rw[hW3];exact HM.o.add2 _ _ _ D hD hDb hDb1
 have HB3:=zH (HB.o.trans (hb3.mono HM.o.size));have HPP:=zH (et t hmx (by omega));rw[←hD];rw[←hW3];clear hW3 hD hb3 HM HB hmx;go_upto_region 3 with(go_at_call 150;refine HPP.o.mono ?_;rintro e w4 ⟨rfl,⟨sv4,hm⟩,hB⟩;unfold mvV;have hd:Blk w4 D 223 [.int .i64 a.1,.string (bs a.2)]:=hm.loc (p:=aB D hDb 223 [.int .i64 a.1,.string (bs a.2)]) (by simp);have hd1:Blk w4 (D+1) 223 [.int .i64 n.1,.string (bs n.2)]:=hm.loc (p:=aB (D+1) hDb1 223 [.int .i64 n.1,.string (bs n.2)]) (by simp);have x0:=hd.cell (k:=0) rfl;have y0:=hd1.cell (k:=0) rfl;have HM4:=zH hm;have HB4:=zH (HB3.o.trans hB);clear hm hB hd hd1);obtain⟨k,hk⟩:=ex_ (fS a.1 t.2.length);have hk1:min (max a.1 0) (t.2.length:Int)=(k:Int):=by rw[hk];unfold fS;omega
 have hk2:(k:Int)≤(t.2.length:Int):=by omega
 have hk3:=nn_ k;obtain⟨u,hu⟩:=ex_ (t.2.drop k);obtain⟨j,hj⟩:=ex_ (fS n.1 u.length);have hj1:min (max n.1 0) (u.length:Int)=(j:Int):=by rw[hj];unfold fS;omega
 have hj2:(j:Int)≤(u.length:Int):=by omega
 have hj3:=nn_ j;have hul:(u.length:Int)≤1024:=by have:=ht.2.2;rw[hu,Ew];omega
 have htl:(t.2.length:Int)≤1024:=by have:=ht.2.2;omega
 have HV:=zH (show gw t.2 a.1 n.1=u.take j by unfold gw;rw[←hk,←hu,←hj]);have hu':List.drop k t.2=u:=hu.symm;have hq:List.take (t.2.length-k) u=u:=Eh (by rw[hu,Ew];exact Ei _);clear hk hu hj;go_upto_region 4 with fail;go_wp2_with (go_at_call 293;refine(bN (0,u.take j) HM4.o (by omega)).mono ?_;rintro e w5 ⟨rfl,⟨sv5,hm⟩,hB⟩;have HM5:=zH hm;have HB5:=zH (HB4.o.trans hB);clear hm hB);go_ret;rw[HV.o];exact⟨rfl,⟨_,HM5.o.pre (by rw[Et];exact List.prefix_append _ _)⟩,HB5.o⟩
end
end
section
attribute [local irreducible] wpG
section
variable {bZ G:Nat}{w w' w3:World}{f:Mf}{at_:Int}{st rg:List MV}{eos:List Eo}{pr:List (LU_×LU_)}{tr:List Int}{tv cv iv ev lv stv opv opv' prv trv trv':Value}{X:List (Pt bZ)}
theorem sF (pc:Nat)(N:Nat)(s:LU_)(c:UInt8):gA ⟨pc,N+2,N,N+1,!s.isEmpty,s,c⟩=bS s c:=by
 unfold gA bS
 cases s<;>rfl
theorem MR.addBox {e:Eo}(h:MR bZ w G f at_ st rg eos pr tr stv opv prv trv X)(hB:Below w.heap.size w w')(hb:iZ bZ w' e)(hf:∀ k,lR k e→w.heap.size≤k):MR bZ w' G f at_ st rg eos pr tr stv opv prv trv (X++[boxPt [e]]) :=
 ⟨h.gb,h.rl,h.sep.snoc hB (boxPt [e]) ⟨fun x hx=>by rw[EN]at hx;subst hx;exact hb,List.pairwise_singleton _ _⟩ (fun k hk=>by
  obtain⟨x,hx,hk⟩:=hk;rw[EN]at hx;subst hx;exact hf k hk)⟩
theorem MR.turnBox {e e':Eo}(h:MR bZ w G f at_ st rg eos pr tr stv opv prv trv (X++[boxPt [e]]))(hc:Chg (fun k=>k=e.bm∨k=e.bt) w w')(hb:iZ bZ w' e')(h1:e'.bm=e.bm)(h2:e'.bt=e.bt)(h3:e'.bc=e.bc):MR bZ w' G f at_ st rg eos pr tr stv opv prv trv (X++[boxPt [e']])∧Below bZ w w':=by
 have h4:=h.updX (i:=X.length) (p:=boxPt [e]) (by simp) hc (fun k hk=>⟨e,by simp,by rcases hk with rfl|rfl;exact .inl rfl;exact .inr (.inl rfl)⟩) (boxPt [e']) ⟨fun x hx=>by rw[EN]at hx;subst hx;exact hb,List.pairwise_singleton _ _⟩ (fun k hk=>by
  obtain⟨x,hx,hk⟩:=hk;rw[EN]at hx;subst hx;refine⟨e,by simp,?_⟩;unfold lR at hk⊢
  rwa [h1,h2,h3]at hk)
 have hx:(X++[boxPt (bZ:=bZ) [e]]).set X.length (boxPt (bZ:=bZ) [e'])=X++[boxPt (bZ:=bZ) [e']]:=by rw[List.set_append_right _ _ (Ei _),Nat.sub_self];rfl
 rw[hx]at h4;exact h4
end
end
section
def k5 (eos:List Eo):List (Nat×LL_):=eos.reverse.map fun e=>(e.at_,gA e)
theorem ky (eos:List Eo)(e:Eo):k5 (eos++[e])=(e.at_,gA e)::k5 eos:=by unfold k5;rw[List.reverse_append];rfl
theorem qC (eos:List Eo):(k5 eos).length=eos.length:=by unfold k5;simp
theorem Io {T:Prop} (h:T:=by
 injection h with h1 h2
 injection h1 with h3 h4
 exact⟨l,e,by rw[List.concat_eq_append],h3,h4,h2⟩
):T:=h
theorem uB {eos:List Eo}{a:Nat}{ps:LL_}{o:List (Nat×LL_)}(h:k5 eos=(a,ps)::o):∃ l e,eos=l++[e]∧e.at_=a∧gA e=ps∧k5 l=o:=by
 rcases List.eq_nil_or_concat eos with rfl|⟨l,e,rfl⟩
 ·cases h
 ·rw[List.concat_eq_append,ky]at h
  exact Io
end
