/- Lemmas for MapperTells: walks, plain laws. -/
import Derived.Test.YtckhfapcmjlmbaaGreatDoorMapperTellsK18
set_option linter.unusedSimpArgs false
set_option linter.unusedVariables false
set_option maxRecDepth 100000
set_option maxHeartbeats 16000000
namespace Go.Proofs.YtckhfapcmjlmbaaGreatDoor
open Go.RowKit Oct
section
attribute [local irreducible] wpG
theorem zk {w:World}{b:Nat}{v0 v1 v2 v3 v4 v5 v6 v7:Value}(h:Blk w b 27 [v0,v1,v2,v3,v4,v5,v6,v7]):(loadVar 27 ⟨b,0,none⟩).run Tryz.prog w=.ok (.agg #[v0,v1,v2,v3,v4,v5,v6,v7]) w:=by
 obtain⟨x0,x1,x2,x3,x4,x5,x6,x7⟩:=cl8 h;clear h;go_simp
theorem xm {w:World}{b:Nat}{t:TypeId}{a0 a1 a2 a3 a4 a5 a6 a7:Value}(hx:Blk w b t [a0,a1,a2,a3,a4,a5,a6,a7])(v0 v1 v2 v3 v4 v5 v6 v7:Value):Blk ((((((((w.setCell ⟨b,0,none⟩ v0).setCell ⟨b,1,none⟩ v1).setCell ⟨b,2,none⟩ v2).setCell ⟨b,3,none⟩ v3).setCell ⟨b,4,none⟩ v4).setCell ⟨b,5,none⟩ v5).setCell ⟨b,6,none⟩ v6).setCell ⟨b,7,none⟩ v7) b t [v0,v1,v2,v3,v4,v5,v6,v7] ∧Chg (fun x=>x=b) w ((((((((w.setCell ⟨b,0,none⟩ v0).setCell ⟨b,1,none⟩ v1).setCell ⟨b,2,none⟩ v2).setCell ⟨b,3,none⟩ v3).setCell ⟨b,4,none⟩ v4).setCell ⟨b,5,none⟩ v5).setCell ⟨b,6,none⟩ v6).setCell ⟨b,7,none⟩ v7) :=
 ⟨(((((((hx.set 0 v0).set 1 v1).set 2 v2).set 3 v3).set 4 v4).set 5 v5).set 6 v6).set 7 v7,
  Chg.trans (Chg.trans (Chg.trans (Chg.trans (Chg.trans (Chg.trans (Chg.trans (Chg.setCell w ⟨b,0,none⟩ v0 rfl) (Chg.setCell _ ⟨b,1,none⟩ v1 rfl)) (Chg.setCell _ ⟨b,2,none⟩ v2 rfl)) (Chg.setCell _ ⟨b,3,none⟩ v3 rfl)) (Chg.setCell _ ⟨b,4,none⟩ v4 rfl)) (Chg.setCell _ ⟨b,5,none⟩ v5 rfl)) (Chg.setCell _ ⟨b,6,none⟩ v6 rfl)) (Chg.setCell _ ⟨b,7,none⟩ v7 rfl)⟩
theorem dW (w:World)(a:Addr)(v:Value):(w.setCell a v).heap.size=w.heap.size:=by simp[World.setCell]
def qu (p:Int)(B:Nat)(e:Ending)(w:World):Prop :=
 ∃ c1 c2 c3,e=.returned (bM (.slice none 0 0) c1 (.slice none 0 0) c2 (.slice none 0 0) c3 (i8 p))∧bp.Row w c1 (i8 p).mc∧bp.Row w c2 (i8 p).jc∧bp.Row w c3 (i8 p).tc
theorem qu.job {p:Int}{B:Nat}{e:Ending}{w:World}(h:qu p B e w)(hp:0≤p)(hp1:p≤100)(hE:jy w)(hg:1<w.heap.size)(hG:cU w):∃ a1 k1 a2 k2 a3 k3,e=.returned (.agg #[.slice none 0 0,.slice a1 4 k1,.slice none 0 0,.slice a2 6 k2,.slice none 0 0,.slice a3 3 k3,.int .i64 p,.int .i64 100])∧dH w (.slice none 0 0) (.slice a1 4 k1) (.slice none 0 0) (.slice a2 6 k2) (.slice none 0 0) (.slice a3 3 k3) (i8 p):=by
 obtain⟨c1,c2,c3,rfl,h1,h2,h3⟩:=h;obtain⟨a1,k1,rfl,-,-⟩:=ag h1;obtain⟨a2,k2,rfl,-,-⟩:=ag h2;obtain⟨a3,k3,rfl,-,-⟩:=ag h3;refine⟨a1,k1,a2,k2,a3,k3,rfl,⟨⟨Rec.Row.nil _,h1,D6 _,(by show(4:Nat)≤5000;decide),fun s hs=>(by cases hs),hE,hg⟩,⟨Rec.Row.nil _,h2,D6 _,(by show(6:Nat)≤5000;decide),fun s hs=>(by cases hs),hE,hg⟩,⟨Rec.Row.nil _,h3,D6 _,(by show(3:Nat)≤5000;decide),fun s hs=>(by cases hs),hE,hg⟩,?_,?_,(by show(-9223372036854775808:Int)≤100;decide),(by show(100:Int)≤9223372036854775807;decide),hG⟩⟩
 ·show -9223372036854775808≤p
  omega
 ·show p≤9223372036854775807
  omega
theorem xN (p:Int)(w:World):Calls Tryz.prog 37 #[.int .i64 p] w fun e w'=>qu p w.heap.size e w'∧Bw_ w w':=by
 obtain⟨D,hD⟩:=ex_ w.heap.size;obtain⟨W0,hW0⟩:=ex_ (w.alloc (.cells #[.slice none 0 0,.slice none 0 0,.slice none 0 0,.slice none 0 0,.slice none 0 0,.slice none 0 0,.int .i64 0,.int .i64 0] 27));have hs0:W0.heap.size=D+1:=by rw[hW0,bo,hD]
 have hx:=bn_ hD hW0;have hb0:=ba_ hW0;go_enter Tryz.func37,Tryz.ntmps37;go_upto_region 1 with fail;rw[←hW0,←hD];obtain⟨x0,x1,x2,x3,x4,x5,x6,x7⟩:=cl8 hx;obtain⟨f0,f1,f2,f3,f4,f5,f6,f7⟩:=fr8 hx;have hDl:D<W0.heap.size:=hx.lt;have HX:=zH hx;have HB0:=zH hb0;have HD:=zH hD;have HS0:=zH hs0;clear hx hb0 hD hW0;go_wp2_with fail;obtain⟨hy,hc⟩:=xm HX.o (.slice none 0 0) (.slice (some ⟨D+1,0,none⟩) 4 4) (.slice none 0 0) (.slice (some ⟨D+1+1,0,none⟩) 6 6) (.slice none 0 0) (.slice (some ⟨D+1+1+1,0,none⟩) 3 3) (.int .i64 p) (.int .i64 100);have hs1:((((((((W0.setCell ⟨D,0,none⟩ (.slice none 0 0)).setCell ⟨D,1,none⟩ (.slice (some ⟨D+1,0,none⟩) 4 4)).setCell ⟨D,2,none⟩ (.slice none 0 0)).setCell ⟨D,3,none⟩ (.slice (some ⟨D+1+1,0,none⟩) 6 6)).setCell ⟨D,4,none⟩ (.slice none 0 0)).setCell ⟨D,5,none⟩ (.slice (some ⟨D+1+1+1,0,none⟩) 3 3)).setCell ⟨D,6,none⟩ (.int .i64 p)).setCell ⟨D,7,none⟩ (.int .i64 100)).heap.size=D+1:=by rw[dW,dW,dW,dW,dW,dW,dW,dW];exact HS0.o
 obtain⟨V0,hV0⟩:=ex_ (((((((((W0.setCell ⟨D,0,none⟩ (.slice none 0 0)).setCell ⟨D,1,none⟩ (.slice (some ⟨D+1,0,none⟩) 4 4)).setCell ⟨D,2,none⟩ (.slice none 0 0)).setCell ⟨D,3,none⟩ (.slice (some ⟨D+1+1,0,none⟩) 6 6)).setCell ⟨D,4,none⟩ (.slice none 0 0)).setCell ⟨D,5,none⟩ (.slice (some ⟨D+1+1+1,0,none⟩) 3 3)).setCell ⟨D,6,none⟩ (.int .i64 p)).setCell ⟨D,7,none⟩ (.int .i64 100)));rw[←hV0]at hy hc hs1⊢;clear hV0 x0 x1 x2 x3 x4 x5 x6 x7 f0 f1 f2 f3 f4 f5 f6 f7 hDl;obtain⟨W1,hW1⟩:=ex_ (V0.alloc (.cells #[.int .u8 3,.int .u8 0,.int .u8 2,.int .u8 1,.int .u8 8,.int .u8 0,.int .u8 23,.int .u8 0] 127));have hs2:W1.heap.size=D+1+1:=by rw[hW1,bo,hs1]
 have r1:=Bz bp V0 [(3,0),(2,1),(8,0),(23,0)] #[.int .u8 3,.int .u8 0,.int .u8 2,.int .u8 1,.int .u8 8,.int .u8 0,.int .u8 23,.int .u8 0] rfl 4 rfl (by omega);have hb1:=ba_ hW1;rw[show bp.e=127 from rfl,←hW1,hs1]at r1;obtain⟨W2,hW2⟩:=ex_ (W1.alloc (.cells #[.int .u8 3,.int .u8 0,.int .u8 7,.int .u8 0,.int .u8 3,.int .u8 1,.int .u8 7,.int .u8 0,.int .u8 9,.int .u8 0,.int .u8 8,.int .u8 0] 127));have hs3:W2.heap.size=D+1+1+1:=by rw[hW2,bo,hs2]
 have r2:=Bz bp W1 [(3,0),(7,0),(3,1),(7,0),(9,0),(8,0)] #[.int .u8 3,.int .u8 0,.int .u8 7,.int .u8 0,.int .u8 3,.int .u8 1,.int .u8 7,.int .u8 0,.int .u8 9,.int .u8 0,.int .u8 8,.int .u8 0] rfl 6 rfl (by omega);have hb2:=ba_ hW2;rw[show bp.e=127 from rfl,←hW2,hs2]at r2;obtain⟨W3,hW3⟩:=ex_ (W2.alloc (.cells #[.int .u8 3,.int .u8 0,.int .u8 3,.int .u8 1,.int .u8 4,.int .u8 0] 127));have r3:=Bz bp W2 [(3,0),(3,1),(4,0)] #[.int .u8 3,.int .u8 0,.int .u8 3,.int .u8 1,.int .u8 4,.int .u8 0] rfl 3 rfl (by omega);have hb3:=ba_ hW3;rw[show bp.e=127 from rfl,←hW3,hs3]at r3;rw[←hW1,←hW2,←hW3];have hy3:=((hy.below hb1).below hb2).below hb3;have hbb:=bt (bt hb1 hb2) hb3;refine bodyPost_ret (jz rfl rfl (zk hy3)) rfl ?_;refine⟨⟨_,_,_,rfl,(r1.below hb2).below hb3,r2.below hb3,r3⟩,?_⟩;exact HB0.o.trans ((hc.below (fun k hk=>by rw[show k=D from hk,HD.o];exact DC _) HB0.o.size).trans (hbb.mono (by rw[hs1,←HD.o];exact Nat.le_succ _)))
structure qr (w:World) (t1 c1 t2 c2 t3 c3:Value) (j:Jb):Prop where
 a:je w t1 c1 j.mt j.mc
 b:je w t2 c2 j.jt j.jc
 c:je w t3 c3 j.tt j.tc
 p0:-9223372036854775808≤j.parts
 p1:j.parts≤9223372036854775807
 f0:-9223372036854775808≤j.fuel
 f1:j.fuel≤9223372036854775807
theorem qr.below {w w':World}{t1 c1 t2 c2 t3 c3:Value}{j:Jb}(h:qr w t1 c1 t2 c2 t3 c3 j)(hB:Below w.heap.size w w'):qr w' t1 c1 t2 c2 t3 c3 j:=⟨h.a.below hB,h.b.below hB,h.c.below hB,h.p0,h.p1,h.f0,h.f1⟩
def dL (j:Jb):Bool:=cg j.mt j.mc||cg j.jt j.jc||cg j.tt j.tc
def qM (j:Jb):Bool:=decide (3000<j.fuel)&&decide (j.fuel≤65536)
theorem xi {j:Jb}(h:dL j=false):cg j.mt j.mc=false∧cg j.jt j.jc=false∧cg j.tt j.tc=false:=by
 unfold dL at h;simp only[Bool.or_eq_false_iff]at h;exact⟨h.1.1,h.1.2,h.2⟩
theorem qr.job {w:World}{t1 c1 t2 c2 t3 c3:Value}{j:Jb}(h:qr w t1 c1 t2 c2 t3 c3 j)(hl:dL j=false)(hE:jy w)(hg:1<w.heap.size)(hG:cU w):dH w t1 c1 t2 c2 t3 c3 j:=by
 obtain⟨h1,h2,h3⟩:=xi hl;exact⟨h.a.ask h1 hE hg,h.b.ask h2 hE hg,h.c.ask h3 hE hg,h.p0,h.p1,h.f0,h.f1,hG⟩

def CE:bn Bel:=⟨Option Addr,fun q=>.pointer q,fun _=>none,fun _ _ h=>by cases h⟩
@[go_sem] theorem B7 (q:Option Addr):CE.val q=.pointer q:=rfl

theorem p9 {j:Jb}(h:¬bJ j=true):(br j).2.2≠0:=fun q=>h (by unfold bJ;rw[q];rfl)
theorem nl {j:Jb}(h:bJ j=true):(br j).2.2=0:=by
 unfold bJ at h;exact beq_iff_eq.1 h

theorem lF:∀ l:LL_,aK.cells l=bO l
 | []=>rfl
 | x::l=>by rw[Rec.cells,lF l];rfl
def zp:Jb:=⟨[],[],[],[],[],[],0,0⟩
theorem BC (t1 c1 t2 c2 t3 c3:Value)(j:Jb)(w:World)(h:dH w t1 c1 t2 c2 t3 c3 j)(hm:bJ j=false):Calls Tryz.prog 43 #[bM t1 c1 t2 c2 t3 c3 j] w fun e w'=>e=.returned (.tuple #[.string ⟨#[]⟩,.int .i64 2])∧Bw_ w w':=by
 have HP:=zH (fun w' (hB:Below w.heap.size w w')=>by
  have q:=r7 t1 c1 t2 c2 t3 c3 j w' (h.below hB);rw[show rB j=.tuple #[.string (bs []),.int .i64 2] from if_neg (by rw[hm];decide)]at q;exact q)
 obtain⟨ta,tc,ca,cc,ta2,tc2,ca2,cc2,ta3,tc3,ca3,cc3,rfl,rfl,rfl,rfl,rfl,rfl⟩:=jo_ h.a.t h.a.c h.b.t h.b.c h.c.t h.c.c;unfold bM at HP⊢;obtain⟨W1,hW1⟩:=ex_ (w.alloc (.cells #[.slice ta j.mt.length tc,.slice ca j.mc.length cc,.slice ta2 j.jt.length tc2,.slice ca2 j.jc.length cc2,.slice ta3 j.tt.length tc3,.slice ca3 j.tc.length cc3,.int .i64 j.parts,.int .i64 j.fuel] 27));have hb1:=ba_ hW1;obtain⟨J,hJ⟩:=ex_ w.heap.size;have hx:=bn_ hJ hW1;obtain⟨x0,x1,x2,x3,x4,x5,x6,x7⟩:=cl8 hx;have HB1:=zH hb1;go_enter Tryz.func43,Tryz.ntmps43;go_upto_region 1 with fail;rw[←hW1,←hJ];clear hW1 hJ hb1 hx h hm;go_wp2_with (go_at_call 79;refine(HP.o _ HB1.o).mono ?_;rintro e w2 ⟨rfl,hB2⟩;have HB2:=zH (bt HB1.o hB2);clear hB2);go_ret2;exact⟨rfl,HB2.o⟩

theorem FU {T:Prop} (h:T:=by
 rw[e];go_enter Tryz.func28,Tryz.ntmps28;go_wp2;go_ret;exact⟨rfl,af _ _⟩
):T:=h
theorem zP (t1 c1 t2 c2 t3 c3:Value)(j:Jb)(w:World)(h:qr w t1 c1 t2 c2 t3 c3 j):Calls Tryz.prog 28 #[bM t1 c1 t2 c2 t3 c3 j] w fun e w'=>e=.returned (.bool (qM j))∧Bw_ w w':=by
 obtain⟨ta,tc,ca,cc,ta2,tc2,ca2,cc2,ta3,tc3,ca3,cc3,rfl,rfl,rfl,rfl,rfl,rfl⟩:=jo_ h.a.t h.a.c h.b.t h.b.c h.c.t h.c.c;unfold bM;unfold qM;clear h;obtain⟨F,hF⟩:=ex_ j.fuel;rw[←hF];clear hF
 by_cases h1:(3000:Int)<F
 ·by_cases h2:F≤65536
  ·have e:(decide ((3000:Int)<F)&&decide (F≤65536))=true:=by simp[h1,h2]
   exact FU
  ·have e:(decide ((3000:Int)<F)&&decide (F≤65536))=false:=by simp[h2]
   exact FU
 ·have e:(decide ((3000:Int)<F)&&decide (F≤65536))=false:=by simp[h1]
  exact FU
theorem sP (t1 c1 t2 c2 t3 c3:Value)(j:Jb)(w:World)(h:qr w t1 c1 t2 c2 t3 c3 j):Calls Tryz.prog 27 #[bM t1 c1 t2 c2 t3 c3 j] w fun e w'=>e=.returned (.bool (dL j))∧Bw_ w w':=by
 have HA:=zH (fun w' (hB:Below w.heap.size w w')=>(h.a.below hB).large);have HB:=zH (fun w' (hB:Below w.heap.size w w')=>(h.b.below hB).large);have HC:=zH (fun w' (hB:Below w.heap.size w w')=>(h.c.below hB).large);obtain⟨ta,tc,ca,cc,ta2,tc2,ca2,cc2,ta3,tc3,ca3,cc3,rfl,rfl,rfl,rfl,rfl,rfl⟩:=jo_ h.a.t h.a.c h.b.t h.b.c h.c.t h.c.c;unfold bM;unfold dL;clear h;obtain⟨W1,hW1⟩:=ex_ (w.alloc (.cells #[.slice ta j.mt.length tc,.slice ca j.mc.length cc,.slice ta2 j.jt.length tc2,.slice ca2 j.jc.length cc2,.slice ta3 j.tt.length tc3,.slice ca3 j.tc.length cc3,.int .i64 j.parts,.int .i64 j.fuel] 27));have hb1:=ba_ hW1;obtain⟨J,hJ⟩:=ex_ w.heap.size;have hx:=bn_ hJ hW1;obtain⟨x0,x1⟩:=cl2 hx;have HB1:=zH hb1;have HX:=zH hx;obtain⟨A,hA⟩:=ex_ (cg j.mt j.mc);obtain⟨B,hB⟩:=ex_ (cg j.jt j.jc);obtain⟨C,hC⟩:=ex_ (cg j.tt j.tc);rw[←hA]at HA;rw[←hB]at HB;rw[←hC]at HC;rw[←hA,←hB,←hC];go_enter Tryz.func27,Tryz.ntmps27;go_upto_region 1 with fail;rw[←hW1,←hJ];clear hW1 hJ hb1 hx hA hB hC
 cases A
 ·cases B
  ·cases C
   all_goals
    go_wp2_with (first|(go_at_call 58;refine(HC.o _ HB3.o).mono ?_;rintro e w4 ⟨rfl,hB4⟩;have HB4:=zH (bt HB3.o hB4);clear hB4)|(go_at_call 58;refine(HB.o _ HB2.o).mono ?_;rintro e w3 ⟨rfl,hB3⟩;have HX3:=zH (HX2.o.below hB3);have x4:=HX3.o.cell (k:=4) rfl;have x5:=HX3.o.cell (k:=5) rfl;have HB3:=zH (bt HB2.o hB3);clear hB3 x2 x3)|(go_at_call 58;refine(HA.o _ HB1.o).mono ?_;rintro e w2 ⟨rfl,hB2⟩;have HX2:=zH (HX.o.below hB2);have x2:=HX2.o.cell (k:=2) rfl;have x3:=HX2.o.cell (k:=3) rfl;have HB2:=zH (bt HB1.o hB2);clear hB2 x0 x1));go_ret;exact⟨rfl,HB4.o⟩
  ·go_wp2_with (first|(go_at_call 58;refine(HB.o _ HB2.o).mono ?_;rintro e w3 ⟨rfl,hB3⟩;have HB3:=zH (bt HB2.o hB3);clear hB3 x2 x3)|(go_at_call 58;refine(HA.o _ HB1.o).mono ?_;rintro e w2 ⟨rfl,hB2⟩;have HX2:=zH (HX.o.below hB2);have x2:=HX2.o.cell (k:=2) rfl;have x3:=HX2.o.cell (k:=3) rfl;have HB2:=zH (bt HB1.o hB2);clear hB2 x0 x1))
   go_ret;exact⟨by simp,HB3.o⟩
 ·go_wp2_with (go_at_call 58;refine(HA.o _ HB1.o).mono ?_;rintro e w2 ⟨rfl,hB2⟩;have HB2:=zH (bt HB1.o hB2);clear hB2 x0 x1)
  go_ret;exact⟨by simp,HB2.o⟩
theorem kT (texts:LL_)(code:List VI)(role:UInt8)(ins:LL_)(fuel:Int):(vmV texts code role ins fuel).2.1.length≤256:=by
 cases hy:cn texts code role ins fuel with
 | false=>rw[mB hy];simp
 | true =>
  rw[jW hy];obtain⟨h1,h2,-,-,h5⟩:=dG hy;obtain⟨hg,-⟩:=fg h1 h2 h5;unfold l8
  split
  ·rename_i h0
   obtain⟨hok,-⟩:=kg hg fuel.toNat aY fA h0;exact hok.pr
  ·simp
theorem kp:∀ l:List PR,recKq.cells l=aU l
 | []=>rfl
 | x::l=>by rw[Rec.cells,kp l];rfl
theorem kn {w:World}{v:Value}{l:List PR}(h:recKq.Row w v l):RP w v l:=⟨by rw[←kp];exact h.1,h.2⟩
theorem ia:∀ l:List PR,recKv.cells l=aU l
 | []=>rfl
 | x::l=>by rw[Rec.cells,ia l];rfl
theorem fc {w:World}{v:Value}{l:List PR}(h:recKv.Row w v l):RP w v l:=⟨by rw[←ia];exact h.1,h.2⟩
theorem qW {w:World}{v:Value}{l:List PR}(h:RP w v l):recKv.Row w v l:=⟨by rw[ia];exact h.1,h.2⟩

end
