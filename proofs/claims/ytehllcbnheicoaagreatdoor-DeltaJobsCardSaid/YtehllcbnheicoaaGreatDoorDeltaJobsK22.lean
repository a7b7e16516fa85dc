/- Lemmas for DeltaJobs: walks, plain laws. -/
import Derived.Test.YtehllcbnheicoaaGreatDoorDeltaJobsK21
import Derived.Test.YtehllcbnheicoaaGreatDoorDeltaJobsK24
set_option linter.unusedSimpArgs false
set_option linter.unusedVariables false
set_option maxRecDepth 100000
set_option maxHeartbeats 16000000
namespace Go.Proofs.YtehllcbnheicoaaGreatDoor
open Go.RowKit Oct
section
theorem eh (x:UInt32)(n:Nat)(w:World)(h1:1≤n)(h2:n≤31):Calls Tryz.prog 192 #[.int .u32 (U x),.int .i64 n] w fun e w'=>e=.returned (.int .u32 (U (dj x n)))∧Bw_ w w':=by
 have n1:(1:Int)≤(n:Int):=by omega
 have n2:(n:Int)≤31:=by omega
 go_enter Tryz.func192,Tryz.ntmps192;go_wp2;rw[wA x n (by omega),tD x (32-n) (by omega),ke];go_wp2;go_ret;exact⟨rfl,dB _⟩
theorem Bf (n J X:Nat)(hJ:J<8)(hX:X%256=ls (8*n) J)(Z:LU_):Z++((be8 (8*n)).take J++[UInt8.ofNat X])=Z++(be8 (8*n)).take (J+1):=by
 have h:=wo n J _ hJ rfl;injection h with _ h
 have e:UInt8.ofNat X=(be8 (8*n)).getD J 0:=by
  apply UInt8.toNat_inj.1;rw[UInt8.toNat_ofNat'];have:(ls (8*n) J:Int)=(((be8 (8*n)).getD J 0).toNat:Int):=h;omega
 rw[tw _ _ hJ,e]
theorem vC (n:Nat):(be8 n).length≤8:=Ei 8
theorem Bg (l:LU_)(w:World)(hl:l.length≤1099511627776):Calls Tryz.prog 168 #[.string (bs l)] w fun e w'=>e=.returned (.string (bs (dO l l.length)))∧Bw_ w w':=by
 have hz:=yH l.length;have H1:=zH (qX l);have hcv:=fun (w:World) (x:Int)=>Az (P:=Tryz.prog) 149 9 5 Tryz.underlying149 Tryz.underlying5 Tryz.underlying9 w x;have HCV:=zH hcv;clear hcv;go_enter Tryz.func168,Tryz.ntmps168;go_wp2
 go_loop [0] (fun v=>∃ k:Nat,k≤zc l.length∧v=.string (bs (jg l k))) (fun v=>9000000000000-rJ (some v))
 case atStart=>exact⟨0,EG _,by rw[H1.o]⟩
 case round =>
  obtain⟨k,hk,rfl⟩:=hrel;have hzl:=fD l k
  by_cases hkz:k<zc l.length
  ·have m1:(((jg l k).length:Int)%64 != 56)=true:=by have:=yG l.length k hkz;rw[bne_iff_ne];omega
   have HS:=zH (oX l k);have HL:=zH hzl;clear hzl;have hz2:(jg l k).length≤2000000000000:=by have:=HL.o;omega
   generalize jg l k=Z at *;go_wp2
   go_round
   case rel=>exact⟨k+1,by omega,by rw[←HS.o];exact BO (jZ Z [0])⟩
   case measure =>
    rw[show bs Z++⟨#[0]⟩=bs (Z++[0]) from jZ Z [0]];simp[rJ,bY];omega
  ·obtain rfl:k=zc l.length:=by omega
   have m1:(((jg l (zc l.length)).length:Int)%64 != 56)=false:=by have:=tM l.length;rw[bne_eq_false_iff_eq];omega
   obtain⟨Z,hZ⟩:=ex_ (jg l (zc l.length));rw[←hZ]at m1 hzl⊢;have HZ:=zH hZ;have HZL:=zH (show Z.length≤2000000000000 by omega);clear hZ hk hkz hzl hz;go_wp2;clear m1
   go_loopw [0,4] (fun v i wx=>∃ j:Nat,j≤8∧i=.int .i64 (7-(j:Int))∧v=.string (bs (Z++(be8 (8*l.length)).take j))∧Hid (Below w.heap.size w wx)) (fun v _ _=>9000000000000-rJ (some v))
   case atStart=>exact⟨0,by omega,rfl,by simp,dB _⟩
   case round =>
    obtain⟨j,hj,rfl,rfl,HB⟩:=hrel;have HL2:=zH (show(Z++(be8 (8*l.length)).take j).length≤2000000000010 by rw[Ev,EJ];have:=HZL.o;simp[be8];omega)
    by_cases hj8:j<8
    ·have HJ:=zH hj8
     clear hj8 hj;have hj:=HJ.o;obtain⟨jn,hjn⟩:=ex_ (j+1);have HJN:=zH hjn;clear hjn;have hcv:=HCV.o;rcases(by omega:j=0∨j=1∨j=2∨j=3∨j=4∨j=5∨j=6∨j=7) with rfl|rfl|rfl|rfl|rfl|rfl|rfl|rfl
     all_goals
      clear hj;have hlen:=HZL.o;have hb8:=vC (8*l.length);go_wp2;have hjn:=HJN.o;refine⟨⟨jn,by omega,?_,?_,HB.o.trans ((af _ _).mono HB.o.size)⟩,?_⟩
      ·subst hjn;rfl
      ·subst hjn;exact BO (congrArg bs (Bf l.length _ _ HJ.o (by simp only[ls];omega) Z))
      ·simp[rJ];omega
    ·obtain rfl:j=8:=by omega
     go_wp2;go_ret;refine⟨?_,HB.o⟩;show Ending.returned (.string (bs (Z++(be8 (8*l.length)).take 8)))=_;rw[HZ.o]
     rfl
theorem GF {T:Prop} (h:T:=by
 have cc:=DK hB c15;go_simp;exact hG _ (Bel.refl _)
):T:=h
theorem GG {T:Prop} (h:T:=by
 have cc:=DK hB c2;go_simp;exact hG _ (Bel.refl _)
):T:=h
theorem qo (l:LU_)(w:World)(hl:64≤l.length):Calls Tryz.prog 191 #[.string (bs l)] w fun e w'=>e=.returned (.slice (some ⟨w.heap.size,0,none⟩) 64 64)∧Blk w' w.heap.size 241 (az (wl l 64))∧Bw_ w w':=by
 have hmk:(Instr.makeSlice 206 (.int .i64 64) (.int .i64 64)).run Tryz.prog w=.ok (.slice (some ⟨w.heap.size,0,none⟩) 64 64) (w.alloc (.cells (List.replicate 64 (.int .u32 0)).toArray 241)):=lf (P:=Tryz.prog) 206 241 (.int .u32 0) 4 Tryz.underlying206 (by kernel_rfl) rfl 64 (by decide) (by decide) w;go_enter Tryz.func191,Tryz.ntmps191;go_wp2;clear hmk
 go_loopw [4] (fun t wx=>∃ k:Nat,k≤16∧t=.int .i64 k∧Hid (Blk wx w.heap.size 241 (az (ia l k)))∧Hid (Below w.heap.size w wx)) (fun t _=>16-(intOf t).toNat)
 case atStart=>exact⟨0,by omega,rfl,Blk.new w _ _,af w _⟩
 case round =>
  obtain⟨k,hk,rfl,HB,HW⟩:=hrel
  by_cases hk16:k<16
  ·exact G6
  ·have hk:k=16:=by omega
   subst hk;go_wp2
   go_loopw [5] (fun t wx=>∃ k:Nat,16≤k∧k≤64∧t=.int .i64 k∧Hid (Blk wx w.heap.size 241 (az (ia l k)))∧Hid (Below w.heap.size w wx)) (fun t _=>64-(intOf t).toNat)
   case atStart=>exact⟨16,by omega,by omega,rfl,HB,HW⟩
   case round =>
    obtain⟨k,hk,hk',rfl,HB,HW⟩:=hrel
    by_cases hk16:k<64
    ·have k1:(k:Int)<64:=by omega
     have k0:=nn_ k;have x0:(0:Int)≤(k:Int)-15:=by omega
     have x1:(k:Int)-15<64:=by omega
     have y0:(0:Int)≤(k:Int)-2:=by omega
     have y1:(k:Int)-2<64:=by omega
     have z0:(0:Int)≤(k:Int)-16:=by omega
     have z1:(k:Int)-16<64:=by omega
     have v0:(0:Int)≤(k:Int)-7:=by omega
     have v1:(k:Int)-7<64:=by omega
     have c15:=HB.o.cell (gN l k (k-15) (by omega) (by omega));have c2:=HB.o.cell (gN l k (k-2) (by omega) (by omega));have c16:=HB.o.cell (gN l k (k-16) (by omega) (by omega));have c7:=HB.o.cell (gN l k (k-7) (by omega) (by omega));have hc:=kF l k (by omega);rw[m7 l k hk]at hc;generalize (wl l k).getD (k-15) 0=a at *;generalize (wl l k).getD (k-2) 0=b at *;generalize (wl l k).getD (k-16) 0=c at *;generalize (wl l k).getD (k-7) 0=d at *;have HC:=zH hc;clear hc;go_wp2;refine rk_ [(4,.exact Bel (.int .u32 (U a))),(5,.exact Bel (.int .u32 (U (dj a 7)))),(10,.exact Bel (.int .u32 (U a))),(11,.exact Bel (.int .u32 (U (dj a 18)))),(17,.exact Bel (.int .u32 (U a)))] ?_;refine cG ?_;refine gE_ (fun w' G hB hS hG=>?_) (fun K hK=>?_)
     ·exact GF
     refine cO ?_;clear hK K;refine gE_ (fun w' G hB hS hG=>?_) (fun K hK=>?_)
     ·go_simp
      exact aH hG (eh a 7 _ (by omega) (by omega))
     refine cO ?_;clear hK K;refine gE_ (fun w' G hB hS hG=>?_) (fun K hK=>?_)
     ·exact GF
     refine cO ?_;clear hK K;refine gE_ (fun w' G hB hS hG=>?_) (fun K hK=>?_)
     ·go_simp
      exact aH hG (eh a 18 _ (by omega) (by omega))
     refine cO ?_;clear hK K;refine gE_ (fun w' G hB hS hG=>?_) (fun K hK=>?_)
     ·exact GF
     refine cO ?_;clear hK K
     (try simp only[eZ,dQ,dR,eY,eX,dP,ke,gI,gV,gJ,fd,fc,fb,fa])
     (intro w' hB hA;simp only[au.all_some,DP,and_true]at hA)
     have hs0:dj a 7 ^^^ dj a 18 ^^^ a >>> 3=sg0 a:=rfl;rw[hs0];replace c2:=DK hB c2;replace c16:=DK hB c16;replace c7:=DK hB c7;have HB2:=zH (HB.o.below hB);have HW2:=zH (bt HW.o hB);clear hA hB hs0 c15 HB HW x0 x1;go_wp2;refine rk_ [(4,.exact Bel (.int .u32 (U b))),(5,.exact Bel (.int .u32 (U (dj b 17)))),(10,.exact Bel (.int .u32 (U b))),(11,.exact Bel (.int .u32 (U (dj b 19)))),(17,.exact Bel (.int .u32 (U b)))] ?_;refine cG ?_;refine gE_ (fun w' G hB hS hG=>?_) (fun K hK=>?_)
     ·exact GG
     refine cO ?_;clear hK K;refine gE_ (fun w' G hB hS hG=>?_) (fun K hK=>?_)
     ·go_simp
      exact aH hG (eh b 17 _ (by omega) (by omega))
     refine cO ?_;clear hK K;refine gE_ (fun w' G hB hS hG=>?_) (fun K hK=>?_)
     ·exact GG
     refine cO ?_;clear hK K;refine gE_ (fun w' G hB hS hG=>?_) (fun K hK=>?_)
     ·go_simp
      exact aH hG (eh b 19 _ (by omega) (by omega))
     refine cO ?_;clear hK K;refine gE_ (fun w' G hB hS hG=>?_) (fun K hK=>?_)
     ·exact GG
     refine cO ?_;clear hK K
     (try simp only[eZ,dQ,dR,eY,eX,dP,ke,gI,gV,gJ,fd,fc,fb,fa])
     intro w3 hB hA;have hs1:dj b 17 ^^^ dj b 19 ^^^ b >>> 10=sg1 b:=rfl;rw[hs1];replace c16:=DK hB c16;replace c7:=DK hB c7;have HB3:=zH (HB2.o.below hB);have HW3:=zH (bt HW2.o hB);clear hA hB hs1 c2 HB2 HW2 y0 y1;go_wp2;refine bp 17 [(7,.exact Bel (.int .u32 (U d))),(15,.exact Bel (.int .u32 (U c)))] (by kernel_rfl) (by kernel_rfl) ?_;simp only[ED,EF,EA,EL];refine cG ?_;refine gE_ (fun w' G hB hS hG=>?_) (fun K hK=>?_)
     ·have cc:=DK hB c7
      go_simp;exact hG _ (Bel.refl _)
     refine cO ?_;clear hK K;refine gE_ (fun w' G hB hS hG=>?_) (fun K hK=>?_)
     ·have cc:=DK hB c16
      go_simp;exact hG _ (Bel.refl _)
     refine cO ?_;clear hK K
     (try simp only[eZ,dQ,dR,eY,eX,dP,ke,gI,gV,gJ,fd,fc,fb,fa])
     intro w4 hB hA;have B':=HB3.o.below hB;have hlen:k<(az (ia l k)).length:=by rw[aE,fE l k (by omega)];omega
     obtain⟨cu,c1⟩:=B'.ex hlen;have f1:=B'.free hlen;have HS:=zH (B'.set k (.int .u32 (U (sg1 b+d+sg0 a+c))));have HB4:=zH (bt HW3.o hB);clear B' hB hlen hA c7 c16;go_wp2;refine⟨?_,by simp[intOf];omega⟩
     (repeat apply Exists.intro)
     refine⟨⟨k+1,by omega,by omega,by go_num,?_,HB4.o.setCell (Ei _) _⟩,rfl⟩;have:=HS.o;have hc:=HC.o;rw[show c+sg0 a+d+sg1 b=sg1 b+d+sg0 a+c by ac_rfl]at hc;rw[gq,hc]at this;exact this
    ·have hk:k=64:=by omega
     subst hk;rw[qY]at HB;go_wp2;go_ret;exact⟨rfl,HB.o,HW.o⟩
theorem wg:(Tryz.prog.info? 241).map (fun i=>(i.zero,i.size,i.bytes))=some (some (.int .u32 0),1,4):=by kernel_rfl
theorem lV (l:List UInt32):∀ u∈az l,u.oneCell'=true:=by
 intro u hu;simp only[az,List.mem_map]at hu;obtain⟨x,_,rfl⟩:=hu;rfl
theorem tV (l m:List UInt32):az (l++m)=az l++az m:=by simp[az]
def yJ (h v:List UInt32)(k:Nat):List UInt32:=List.zipWith (·+·) (h.take k) (v.take k)
theorem yI (h v:List UInt32)(hl:h.length=8)(hv:v.length=8):yJ h v 8=List.zipWith (·+·) h v:=by
 simp[yJ,Eh (Nat.le_of_eq hl),Eh (Nat.le_of_eq hv)]
theorem wC (h v:List UInt32)(hl:h.length=8)(hv:v.length=8)(k:Nat)(hk:k<8):yJ h v k++[h.getD k 0+v.getD k 0]=yJ h v (k+1):=by
 obtain⟨a,b,c,d,e,f,g,i,rfl⟩:=oq h hl;obtain⟨a',b',c',d',e',f',g',i',rfl⟩:=oq v hv
 match k,hk with
 | 0,_|1,_|2,_|3,_|4,_|5,_|6,_|7,_=>rfl
theorem aZ.u {w:World}{a:Option Addr}{n c:Nat}{l:List UInt32}(h:aZ w (.slice a n c) n (az l))(k:Nat)(hk:k<l.length):∃ b off,a=some ⟨b,off,none⟩∧w.cell? ⟨b,off+k,none⟩=some (.int .u32 (U (l.getD k 0))):=by
 obtain⟨a',c',hv,_,hc⟩:=h;injection hv with e1 _ _
 subst e1;exact hc k _ (y8 l k l.length rfl hk)
theorem GH {T:Prop} (h:T:=by
 have cc:=DK hB e0;go_simp;exact hG _ (Bel.refl _)
):T:=h
theorem GI {T:Prop} (h:T:=by
 have cc:=DK hB d4;go_simp;exact hG _ (Bel.refl _)
):T:=h
theorem un (vh vk:Value)(h:List UInt32)(hl:h.length=8)(l:LU_)(h64:64≤l.length)(w:World)(hh:aZ w vh 8 (az h))(hk:aZ w vk 64 (az gB)):Calls Tryz.prog 169 #[vh,vk,.string (bs l)] w fun e w'=>∃ v,e=.returned v∧w'.ownsRow w.heap.size 241 1 v 8 (az (g9 h l))∧Bw_ w w':=by
 have hh0:=hh;obtain⟨ah,ch,rfl,_,_⟩:=hh;have hk0:=hk;obtain⟨ak,ck,rfl,_,_⟩:=hk;have HH:=zH hh0;have HK:=zH hk0;have HL:=zH hl;clear hh0 hk0 hl;go_enter Tryz.func169,Tryz.ntmps169;go_wp2_with fail;refine(qo l w h64).mono ?_;rintro e w1 ⟨rfl,hW1,hB1⟩;have HB1:=zH hB1;obtain⟨D,hD⟩:=ex_ w.heap.size;rw[←hD]at hW1⊢;have HD:=zH hD;have HW:=zH hW1;have hsz1:=hB1.size;clear hD hB1 hW1;have hr1:=zH (HH.o.below HB1.o);go_wp2_with (at_builtin;go_must (refine lu w1 (az h) 241 rfl _ _ 206 rfl w1.heap.size (.int .u32 0) 1 4 Tryz.underlying206 wg rfl (by decide) _ 0 [] rfl (World.ownsRow_nil _ _ _ _) _ 8 rfl hr1.o (by rw[aE,HL.o]) (lV h) (by decide) (by decide) (Ei _) ?_));intro v0 w2 hown2 hB2;have HW2:=zH (HW.o.below hB2);have HK2:=zH ((HK.o.below HB1.o).below hB2);have HH2:=zH ((HH.o.below HB1.o).below hB2);have HB2:=zH (bt HB1.o hB2);have hsz2:=hB2.size;obtain⟨a0,c0,rfl⟩:=ap hown2;have HV0:=zH (DQ hown2);clear hown2 hB2 HW hr1 HB1;go_wp2
 go_loopw [8,9] (fun v t wx=>∃ (k:Nat) (a:Option Addr) (c:Nat),k≤64∧t=.int .i64 k∧v=.slice a 8 c∧Hid (aZ wx (.slice a 8 c) 8 (az (eS (wl l 64) h k)))∧Hid (Below w2.heap.size w2 wx)) (fun _ t _=>64-(intOf t).toNat)
 case atStart=>exact⟨0,a0,c0,by omega,rfl,rfl,HV0,dB _⟩
 case round =>
  clear HV0;obtain⟨k,a,c,hk,rfl,rfl,HV,HB⟩:=hrel
  by_cases hk64:k<64
  ·have k1:(k:Int)<64:=by omega
   have k0:=nn_ k;have hst:eS (wl l 64) h (k+1)=step (gB.getD k 0) ((wl l 64).getD k 0) (eS (wl l 64) h k):=rfl;obtain⟨v0,v1,v2,v3,v4,v5,v6,v7,hv⟩:=oq _ (dJ (wl l 64) h HL.o k);rw[hv]at HV hst;obtain⟨b,off,rfl,d0⟩:=HV.o.u 0 (by simp);obtain⟨_,_,e1,d1⟩:=HV.o.u 1 (by simp);cases e1;obtain⟨_,_,e1,d2⟩:=HV.o.u 2 (by simp);cases e1;obtain⟨_,_,e1,d3⟩:=HV.o.u 3 (by simp);cases e1;obtain⟨_,_,e1,d4⟩:=HV.o.u 4 (by simp);cases e1;obtain⟨_,_,e1,d5⟩:=HV.o.u 5 (by simp);cases e1;obtain⟨_,_,e1,d6⟩:=HV.o.u 6 (by simp);cases e1;obtain⟨_,_,e1,d7⟩:=HV.o.u 7 (by simp);cases e1;have e0:wr.cell? ⟨b,off,none⟩=some (.int .u32 (U v0)):=d0;replace d1:wr.cell? ⟨b,off+1,none⟩=some (.int .u32 (U v1)):=d1;replace d2:wr.cell? ⟨b,off+2,none⟩=some (.int .u32 (U v2)):=d2;replace d3:wr.cell? ⟨b,off+3,none⟩=some (.int .u32 (U v3)):=d3;replace d4:wr.cell? ⟨b,off+4,none⟩=some (.int .u32 (U v4)):=d4;replace d5:wr.cell? ⟨b,off+5,none⟩=some (.int .u32 (U v5)):=d5;replace d6:wr.cell? ⟨b,off+6,none⟩=some (.int .u32 (U v6)):=d6;replace d7:wr.cell? ⟨b,off+7,none⟩=some (.int .u32 (U v7)):=d7;clear d0;have cw:=(HW2.o.below HB.o).cell (y8 (wl l 64) k 64 (dq l 64) hk64);obtain⟨bk,ok,rfl,ck⟩:=(HK2.o.below HB.o).u k (by rw[sH];exact hk64);generalize (wl l 64).getD k 0=ww at *;generalize gB.getD k 0=kk at *;have HST:=zH hst;clear hst hv;go_wp2;refine rk_ [(2,.exact Bel (.int .u32 (U v4))),(3,.exact Bel (.int .u32 (U (dj v4 6)))),(6,.exact Bel (.int .u32 (U v4))),(7,.exact Bel (.int .u32 (U (dj v4 11)))),(11,.exact Bel (.int .u32 (U v4))),(12,.exact Bel (.int .u32 (U (dj v4 25))))] ?_
   refine cG ?_;refine gE_ (fun w' G hB hS hG=>?_) (fun K hK=>?_)
   ·exact GI
   refine cO ?_;clear hK K;refine gE_ (fun w' G hB hS hG=>?_) (fun K hK=>?_)
   ·go_simp
    exact aH hG (eh v4 6 _ (by omega) (by omega))
   refine cO ?_;clear hK K;refine gE_ (fun w' G hB hS hG=>?_) (fun K hK=>?_)
   ·exact GI
   refine cO ?_;clear hK K;refine gE_ (fun w' G hB hS hG=>?_) (fun K hK=>?_)
   ·go_simp
    exact aH hG (eh v4 11 _ (by omega) (by omega))
   refine cO ?_;clear hK K;refine gE_ (fun w' G hB hS hG=>?_) (fun K hK=>?_)
   ·exact GI
   refine cO ?_;clear hK K;refine gE_ (fun w' G hB hS hG=>?_) (fun K hK=>?_)
   ·go_simp
    exact aH hG (eh v4 25 _ (by omega) (by omega))
   refine cO ?_;clear hK K
   (try simp only[eZ,dQ,dR,eY,eX,dP,ke,gI,gV,gJ,fd,fc,fb,fa])
   intro w3 hB hA;replace e0:=DK hB e0;replace d1:=DK hB d1;replace d2:=DK hB d2;replace d3:=DK hB d3;replace d4:=DK hB d4;replace d5:=DK hB d5;replace d6:=DK hB d6;replace d7:=DK hB d7;replace cw:=DK hB cw;replace ck:=DK hB ck;have HB3:=zH (HB.o.trans (hB.mono HB.o.size));clear hA hB;go_wp2;refine rk_ [(2,.exact Bel (.int .u32 (U v0))),(3,.exact Bel (.int .u32 (U (dj v0 2)))),(6,.exact Bel (.int .u32 (U v0))),(7,.exact Bel (.int .u32 (U (dj v0 13)))),(11,.exact Bel (.int .u32 (U v0))),(12,.exact Bel (.int .u32 (U (dj v0 22))))] ?_;refine cG ?_;refine gE_ (fun w' G hB hS hG=>?_) (fun K hK=>?_)
   ·exact GH
   refine cO ?_;clear hK K;refine gE_ (fun w' G hB hS hG=>?_) (fun K hK=>?_)
   ·go_simp
    exact aH hG (eh v0 2 _ (by omega) (by omega))
   refine cO ?_;clear hK K;refine gE_ (fun w' G hB hS hG=>?_) (fun K hK=>?_)
   ·exact GH
   refine cO ?_;clear hK K;refine gE_ (fun w' G hB hS hG=>?_) (fun K hK=>?_)
   ·go_simp
    exact aH hG (eh v0 13 _ (by omega) (by omega))
   refine cO ?_;clear hK K;refine gE_ (fun w' G hB hS hG=>?_) (fun K hK=>?_)
   ·exact GH
   refine cO ?_;clear hK K;refine gE_ (fun w' G hB hS hG=>?_) (fun K hK=>?_)
   ·go_simp
    exact aH hG (eh v0 22 _ (by omega) (by omega))
   refine cO ?_;clear hK K
   (try simp only[eZ,dQ,dR,eY,eX,dP,ke,gI,gV,gJ,fd,fc,fb,fa])
   intro w4 hB hA;replace e0:=DK hB e0;replace d1:=DK hB d1;replace d2:=DK hB d2;replace d3:=DK hB d3;replace d4:=DK hB d4;replace d5:=DK hB d5;replace d6:=DK hB d6;replace d7:=DK hB d7;replace cw:=DK hB cw;replace ck:=DK hB ck;have HB4:=zH (HB3.o.trans (hB.mono HB3.o.size));clear hA hB;go_wp2;go_quiet (fail);simp only[B8]
   (try simp only[eZ,dQ,dR,eY,eX,dP,ke,gI,gV,gJ,fd,fc,fb,fa])
   have ht1:v7+(dj v4 6 ^^^ dj v4 11 ^^^ dj v4 25)+(v4 &&& v5 ^^^ ~~~v4 &&& v6)+kk+ww=qk v4 v5 v6 v7 kk ww:=rfl;rw[ht1];clear ht1 d7 cw ck;obtain⟨w5,hwq⟩:∃ wq,wq=w4.drewN nq:=⟨_,rfl⟩
   rw[←hwq];have hB:Below w4.heap.size w4 w5:=by rw[hwq];exact DL w4 nq
   clear hwq;replace e0:=DK hB e0;replace d1:=DK hB d1;replace d2:=DK hB d2;replace d3:=DK hB d3;replace d4:=DK hB d4;replace d5:=DK hB d5;replace d6:=DK hB d6;have HB5:=zH (HB4.o.trans (hB.mono HB4.o.size));clear hB nq;go_wp2;go_quiet (fail)
   (try simp only[eZ,dQ,dR,eY,eX,dP,ke,gI,gV,gJ,fd,fc,fb,fa])
   have ht2:(dj v0 2 ^^^ dj v0 13 ^^^ dj v0 22)+(v0 &&& v1 ^^^ v0 &&& v2 ^^^ v1 &&& v2)=zd v0 v1 v2:=rfl;rw[ht2];clear ht2;obtain⟨w6,hwq⟩:∃ wq,wq=w5.drewN nq:=⟨_,rfl⟩
   rw[←hwq];have hB:Below w5.heap.size w5 w6:=by rw[hwq];exact DL w5 nq
   clear hwq;replace e0:=DK hB e0;replace d1:=DK hB d1;replace d2:=DK hB d2;replace d3:=DK hB d3;replace d4:=DK hB d4;replace d5:=DK hB d5;replace d6:=DK hB d6;have HB6:=zH (HB5.o.trans (hB.mono HB5.o.size));have HST2:=zH (show eS (wl l 64) h (k+1)=[qk v4 v5 v6 v7 kk ww+zd v0 v1 v2,v0,v1,v2,v3+qk v4 v5 v6 v7 kk ww,v4,v5,v6] by rw[HST.o];rfl);clear hB nq HST;generalize qk v4 v5 v6 v7 kk ww=t1 at *;generalize zd v0 v1 v2=t2 at *;go_wp2;refine rk_ [(5,.exact Bel (.int .u32 (U v0))),(8,.exact Bel (.int .u32 (U v1))),(11,.exact Bel (.int .u32 (U v2))),(14,.exact Bel (.int .u32 (U v3))),(19,.exact Bel (.int .u32 (U v4))),(22,.exact Bel (.int .u32 (U v5))),(25,.exact Bel (.int .u32 (U v6))),(26,iP 8 (az [t1+t2,v0,v1,v2,v3+t1,v4,v5,v6]))] ?_;refine cG ?_;refine gE_ (fun w' G hB hS hG=>?_) (fun K hK=>?_)
   ·exact GH
   refine cO ?_;clear hK K;refine gE_ (fun w' G hB hS hG=>?_) (fun K hK=>?_)
   ·have cc:=DK hB d1
    go_simp;exact hG _ (Bel.refl _)
   refine cO ?_;clear hK K;refine gE_ (fun w' G hB hS hG=>?_) (fun K hK=>?_)
   ·have cc:=DK hB d2
    go_simp;exact hG _ (Bel.refl _)
   refine cO ?_;clear hK K;refine gE_ (fun w' G hB hS hG=>?_) (fun K hK=>?_)
   ·have cc:=DK hB d3
    go_simp;exact hG _ (Bel.refl _)
   refine cO ?_;clear hK K;refine gE_ (fun w' G hB hS hG=>?_) (fun K hK=>?_)
   ·exact GI
   refine cO ?_;clear hK K;refine gE_ (fun w' G hB hS hG=>?_) (fun K hK=>?_)
   ·have cc:=DK hB d5
    go_simp;exact hG _ (Bel.refl _)
   refine cO ?_;clear hK K;refine gE_ (fun w' G hB hS hG=>?_) (fun K hK=>?_)
   ·have cc:=DK hB d6
    go_simp;exact hG _ (Bel.refl _)
   refine cO ?_;clear hK K
   (try simp only[eZ,dQ,dR,eY,eX,dP,ke,gI,gV,gJ,fd,fc,fb,fa])
   refine gk_ (iP 8 (az [t1+t2,v0,v1,v2,v3+t1,v4,v5,v6])) (fun w' G hB hS hG=>?_) (fun x K hK=>?_)
   ·go_simp
    exact lI hG rfl
   obtain⟨ad,c⟩:=x;refine cO ?_;clear hK K;intro w7 hB hA;have hr:Hid (aZ w7 (.slice ad 8 c) 8 (az [t1+t2,v0,v1,v2,v3+t1,v4,v5,v6])):=lA hA;have HB7:=zH (HB6.o.trans (hB.mono HB6.o.size));clear hA hB e0 d1 d2 d3 d4 d5 d6;go_wp2;refine⟨?_,by simp[intOf];omega⟩;exact⟨k+1,ad,c,by omega,by go_num,rfl,by rw[HST2.o];exact hr.o,HB7.o⟩
  ·obtain rfl:k=64:=by omega
   obtain⟨Wr,hWr⟩:=ex_ wr;subst hWr;obtain⟨V,hV⟩:=ex_ (eS (wl l 64) h 64);rw[←hV]at HV;have HVL:=zH (show V.length=8 by rw[hV];exact dJ _ _ HL.o 64);have HVD:=zH hV;clear hV;have HH3:=zH (HH2.o.below HB.o);have hszr:=HB.o.size;go_wp2
   go_loopw [14,15] (fun v t wx=>∃ k:Nat,k≤8∧t=.int .i64 k∧Hid (wx.ownsRow Wr.heap.size 241 1 v k (az (yJ h V k)))∧Hid (Below Wr.heap.size Wr wx)) (fun _ t _=>8-(intOf t).toNat)
   case atStart=>exact⟨0,by omega,rfl,World.ownsRow_nil _ _ _ _,dB _⟩
   case round =>
    obtain⟨k,hk,rfl,HO,HX⟩:=hrel;obtain⟨ao,co,rfl⟩:=ap HO.o
    by_cases hk8:k<8
    ·have k1:(k:Int)<8:=by omega
     have k0:=nn_ k;obtain⟨bh,oh,rfl,dh⟩:=(HH3.o.below HX.o).u k (by rw[HL.o];exact hk8);obtain⟨bv,ov,rfl,dv⟩:=(HV.o.below HX.o).u k (by rw[HVL.o];exact hk8);have HZ:=zH (wC h V HL.o HVL.o k hk8);generalize h.getD k 0=hh at *;generalize V.getD k 0=vv at *;go_wp2;refine bp 11 [(4,.exact Bel (.int .u32 (U hh))),(8,.exact Bel (.int .u32 (U vv))),(10,iP 1 (az [hh+vv]))] (by kernel_rfl) (by kernel_rfl) ?_;simp only[ED,EF,EA,EL];refine cG ?_;refine gE_ (fun w' G hB hS hG=>?_) (fun K hK=>?_)
     ·have cc:=DK hB dh
      go_simp;exact hG _ (Bel.refl _)
     refine cO ?_;clear hK K;refine gE_ (fun w' G hB hS hG=>?_) (fun K hK=>?_)
     ·have cc:=DK hB dv
      go_simp;exact hG _ (Bel.refl _)
     refine cO ?_;clear hK K
     (try simp only[eZ,dQ,dR,eY,eX,dP,ke,gI,gV,gJ,fd,fc,fb,fa])
     refine gk_ (iP 1 (az [hh+vv])) (fun w' G hB hS hG=>?_) (fun x K hK=>?_)
     ·go_simp
      exact lI hG rfl
     obtain⟨ad,c⟩:=x;refine cO ?_;clear hK K;intro w3 hB hA;have hr:Hid (aZ w3 (.slice ad 1 c) 1 (az [hh+vv])):=lA hA;have HO3:=zH (bn HO.o hB);have HX3:=zH (bt HX.o hB);have hsz3:Wr.heap.size≤w3.heap.size:=HX3.o.size;clear hA hB dh dv;go_wp2_with (at_builtin;go_must (refine lu w3 (az [hh+vv]) 241 rfl _ _ 206 rfl Wr.heap.size (.int .u32 0) 1 4 Tryz.underlying206 wg rfl (by decide) _ _ _ rfl HO3.o _ 1 rfl hr.o rfl (lV _) (by omega) (by decide) hsz3 ?_);intro v' w4 hown4 hB4);refine⟨?_,by simp[intOf];omega⟩
     (repeat apply Exists.intro)
     refine⟨⟨k+1,by omega,by go_num,?_,HX3.o.trans hB4⟩,rfl⟩;rw[←tV,HZ.o]at hown4;exact hown4
    ·obtain rfl:k=8:=by omega
     have HZ:=zH (yI h V HL.o HVL.o);go_wp2;go_ret;refine⟨_,rfl,?_,?_⟩
     ·have:=dL HO.o (show w.heap.size≤Wr.heap.size by omega)
      rw[HZ.o,HVD.o]at this;exact this
     ·exact bt HB2.o (bt HB.o HX.o)
theorem yM (x:UInt32):(#[.int .u8 (U x / 16777216),.int .u8 (U x / 65536%256),.int .u8 (U x / 256%256),.int .u8 (U x%256)]:Array Value)=(aT (wb x)).toArray:=by
 exact Hn
theorem GJ {T:Prop} (h:T:=by
 have cc:=DK hB dh;go_simp;exact hG _ (Bel.refl _)
):T:=h
theorem zn (vk vh:Value)(l:LU_)(w:World)(hl:l.length≤1099511627776)(hk:aZ w vk 64 (az gB))(hh:aZ w vh 8 (az h0)):Calls Tryz.prog 143 #[.string (bs l),vk,vh] w fun e w'=>e=.returned (.string (bs (kM l)))∧Bw_ w w':=by
 obtain⟨ah,ch,rfl,hx1⟩:=id hh;obtain⟨ak,ck,rfl,hx2⟩:=id hk;have HH:=zH hh;have HK:=zH hk;clear hh hk hx1 hx2;go_enter Tryz.func143,Tryz.ntmps143;go_wp2_with fail;refine(Bg l w hl).mono ?_;rintro e w1 ⟨rfl,hB1⟩;have HB1:=zH hB1;have HH1:=zH (HH.o.below hB1);have HK1:=zH (HK.o.below hB1);obtain⟨T,hT⟩:=ex_ (dO l l.length);have HTM:=zH (show T.length%64=0 by rw[hT];exact ms _ _);have HTL:=zH (show T.length≤1099511627900 by rw[hT,js];have:=yH l.length;omega);have HS:=zH (show jd (cL h0 T)=kM l by rw[hT];rfl);rw[←hT];clear hT hB1 HH HK;go_wp2
 go_loopw [2,7] (fun v i wx=>∃ (k:Nat) (h:List UInt32) (a:Option Addr) (c:Nat),k≤T.length∧i=.int .i64 k∧v=.slice a 8 c∧h.length=8∧Hid (k%64=0)∧Hid (aZ wx (.slice a 8 c) 8 (az h))∧Hid (cL h0 T=cL h (T.drop k))∧Hid (Below w1.heap.size w1 wx)) (fun _ i _=>T.length-(intOf i).toNat)
 case atStart=>exact⟨0,h0,ah,ch,by omega,rfl,rfl,rfl,rfl,HH1,rfl,dB _⟩
 case round =>
  obtain⟨k,h,a,c,hk,rfl,rfl,hh8,HM,HV,HA,HB⟩:=hrel;have HTL':=HTL.o;have HH8:=zH hh8;clear hh8
  by_cases hkl:k<T.length
  ·have hk64:k+64≤T.length:=by have:=HM.o;have:=HTM.o;omega
   have k0:=nn_ k;have k1:(k:Int)<(T.length:Int):=by omega
   have k2:(k:Int)+64≤(T.length:Int):=by omega
   have HC:=zH (gU (T.drop k) (by rw[Ew];omega));have HTK:=zH (show 64≤((T.drop k).take 64).length by simp;omega);go_wp2_with fail;refine(un _ _ h HH8.o _ HTK.o wr HV.o (HK1.o.below HB.o)).mono ?_;rintro e w2 ⟨v2,rfl,hown2,hB2⟩;obtain⟨a2,c2,rfl⟩:=ap hown2;have HV2:=zH (DQ hown2);have HB2:=zH (HB.o.trans (hB2.mono HB.o.size));clear hown2 hB2;go_wp2;refine⟨?_,by simp[intOf];omega⟩;refine⟨k+64,_,a2,c2,by omega,by go_num,rfl,eo _ _ HH8.o,by have:=HM.o;show(k+64)%64=0;omega,HV2.o,?_,HB2.o⟩;show cL h0 T=cL _ (T.drop (k+64));rw[HA.o];unfold cL;rw[HC.o,List.foldl_cons,EC]
  ·obtain rfl:k=T.length:=by omega
   have hfin:cL h0 T=h:=by
    have:=HA.o;rw[List.drop_length]at this;exact this
   have HF:=zH hfin;obtain⟨Wr,hWr⟩:=ex_ wr;subst hWr;clear hfin HA;go_wp2
   go_loopw [8,9] (fun v i wx=>∃ k:Nat,k≤8∧i=.int .i64 k∧Hid (wx.ownsRow Wr.heap.size 5 1 v (4*k) (aT (jd (h.take k))))∧Hid (Below Wr.heap.size Wr wx)) (fun _ i _=>8-(intOf i).toNat)
   case atStart=>exact⟨0,by omega,rfl,World.ownsRow_nil _ _ _ _,dB _⟩
   case round =>
    obtain⟨k,hk8',rfl,HO,HX⟩:=hrel;obtain⟨ao,co,rfl⟩:=ap HO.o
    by_cases hk8:k<8
    ·have k1:(k:Int)<8:=by omega
     have k0:=nn_ k;obtain⟨bh,oh,rfl,dh⟩:=(HV.o.below HX.o).u k (by rw[HH8.o];exact hk8);have HOT:=zH (pE h k (by rw[HH8.o];exact hk8));generalize h.getD k 0=x at *;have hx1:U x<4294967296:=by have:=oT x;rw[dw];omega
     have hx0:0≤U x:=by rw[dw];omega
     go_wp2;refine bp 25 [(4,.exact Bel (.int .u32 (U x))),(10,.exact Bel (.int .u32 (U x))),(16,.exact Bel (.int .u32 (U x))),(22,.exact Bel (.int .u32 (U x))),(24,iP 4 (aT (wb x)))] (by kernel_rfl) (by kernel_rfl) ?_;simp only[ED,EF,EA,EL];refine cG ?_;refine gE_ (fun w' G hB hS hG=>?_) (fun K hK=>?_)
     ·exact GJ
     refine cO ?_;clear hK K;refine gE_ (fun w' G hB hS hG=>?_) (fun K hK=>?_)
     ·exact GJ
     refine cO ?_;clear hK K;refine gE_ (fun w' G hB hS hG=>?_) (fun K hK=>?_)
     ·exact GJ
     refine cO ?_;clear hK K;refine gE_ (fun w' G hB hS hG=>?_) (fun K hK=>?_)
     ·exact GJ
     refine cO ?_;clear hK K;refine gk_ (iP 4 (aT (wb x))) (fun w' G hB hS hG=>?_) (fun x K hK=>?_)
     ·go_simp
      exact lI hG (yM x)
     obtain⟨ad,c⟩:=x;refine cO ?_;clear hK K;intro w3 hB hA;have hr:Hid (aZ w3 (.slice ad 4 c) 4 (aT (wb x))):=lA hA;have HO3:=zH (bn HO.o hB);have HX3:=zH (bt HX.o hB);have hsz3:Wr.heap.size≤w3.heap.size:=HX3.o.size;clear hA hB dh;go_wp2_with (at_builtin;go_must (refine lu w3 (aT (wb x)) 5 rfl _ _ 149 rfl Wr.heap.size (.int .u8 0) 1 1 Tryz.underlying149 nZ rfl (by decide) _ _ _ rfl HO3.o _ 4 rfl hr.o rfl (oC _) (by omega) (by decide) hsz3 ?_);intro v' w4 hown4 hB4);refine⟨?_,by simp[intOf];omega⟩;rw[←oD,←HOT.o]at hown4
     first
      | exact⟨k+1,by omega,by go_num,hown4,HX3.o.trans hB4⟩
      | ((repeat apply Exists.intro);exact⟨⟨k+1,by omega,by go_num,hown4,HX3.o.trans hB4⟩,rfl⟩)
    ·obtain rfl:k=8:=by omega
     have HR2:=HO.o;have HZ:=zH (sr h HH8.o);have hcv:=s9 149 9 5 Tryz.underlying149 Tryz.underlying5 Tryz.underlying9 _ _ _ _ _ HR2;clear HR2;go_wp2;go_ret;refine⟨?_,bt HB1.o (bt HB.o HX.o)⟩;show Ending.returned (.string (bs (jd (h.take 8))))=_;rw[HZ.o,←HF.o,HS.o]
theorem zb (w:World):Calls Tryz.prog 142 #[] w fun e w'=>∃ a b,e=.returned (.tuple #[.slice (some ⟨a,0,none⟩) 64 64,.slice (some ⟨b,0,none⟩) 8 8])∧aZ w' (.slice (some ⟨a,0,none⟩) 64 64) 64 (az gB)∧aZ w' (.slice (some ⟨b,0,none⟩) 8 8) 8 (az h0)∧Bw_ w w':=by
 go_enter Tryz.func142,Tryz.ntmps142;go_wp2;go_ret2;have h1:=aZ.new w (az gB) 64 241 64;have h2:=aZ.new (w.alloc (.cells (az gB).toArray 241)) (az h0) 8 241 8;rw[show(w.alloc (.cells (az gB).toArray 241)).heap.size=w.heap.size+1 by simp]at h2;exact⟨_,_,rfl,h1.below (af _ _),h2,bt (af _ _) (af _ _)⟩
theorem zD (l:LU_)(w:World)(hl:l.length≤1099511627776):Calls Tryz.prog 105 #[.string (bs l)] w fun e w'=>e=.returned (.string (bs (kM l)))∧Bw_ w w':=by
 go_enter Tryz.func105,Tryz.ntmps105;go_wp2_with fail;refine(zb w).mono ?_;rintro e w1 ⟨a,b,rfl,hk,hh,hB1⟩;have HK:=zH hk;have HH:=zH hh;have HB1:=zH hB1;clear hk hh hB1;go_wp2_with fail;refine(zn _ _ l w1 hl HK.o HH.o).mono ?_;rintro e w2 ⟨rfl,hB2⟩;have HB2:=zH (bt HB1.o hB2);clear hB2;go_wp2_with fail;go_ret;exact⟨rfl,HB2.o⟩




def qW (w:World)(p:Nat)(t:LU_):Prop:=Blk w p 244 (aG (cL h0 t) (bW t) ((t.length:Nat):Int))
theorem AO (w:World):Calls Tryz.prog 133 #[] w fun e w'=>∃ b,e=.returned (.pointer (some ⟨b,0,none⟩))∧w.heap.size≤b∧qW w' b []∧Below w.heap.size w w':=BN w
theorem vJ (p:Nat)(t s:LU_)(w:World)(hp:qW w p t)(hn:t.length+s.length≤70368744177664):Calls Tryz.prog 134 #[.pointer (some ⟨p,0,none⟩),.string (bs s)] w fun e w'=>e=.returned (.int .i64 0)∧qW w' p (t++s)∧Chg (·=p) w w':=by
 obtain⟨e1,e2⟩:=mH h0 t s;have hl:=fV t;have h:=yy p (cL h0 t) (fC _ _ rfl) (bW t) s t.length w hp (by omega) (by omega);rw[e1,e2,←Ev]at h;exact h
theorem yB (p:Nat)(t:LU_)(w:World)(hp:qW w p t)(hn:t.length≤70368744177664):Calls Tryz.prog 135 #[.pointer (some ⟨p,0,none⟩)] w fun e w'=>e=.returned (.string (bs (kM t)))∧Bw_ w w':=by
 have hl:=fV t;have h:=AP p (cL h0 t) (fC _ _ rfl) (bW t) t.length w hp (by omega) (by omega);rw[rK]at h;exact h
theorem BL (s:LU_)(w:World)(hs:s.length≤70368744177664):Calls Tryz.prog 97 #[.string (bs s)] w fun e w'=>e=.returned (.string (bs (kM s)))∧Bw_ w w':=by
 have HS:=zH hs;clear hs;go_enter Tryz.func97,Tryz.ntmps97;go_wp2_with fail;refine(AO w).mono ?_;rintro e w1 ⟨b,rfl,hb,hH1,hB1⟩;have HH1:=zH hH1;have HB1:=zH hB1;clear hH1 hB1;go_wp2_with fail;refine(vJ b [] s _ HH1.o (by have:=HS.o;simp;omega)).mono ?_;rintro e w2 ⟨rfl,hH2,hC2⟩;rw[Eu]at hH2;have HH2:=zH hH2;have HC2:=zH hC2;clear hH2 hC2;go_wp2_with fail;refine(yB b s _ HH2.o HS.o).mono ?_;rintro e w3 ⟨rfl,hB3⟩;have HB3:=zH hB3;clear hB3;go_wp2_with fail;go_ret;have h2:Below w.heap.size w w2:=HB1.o.trans (HC2.o.below (fun k hk=>by subst hk;exact hb) HB1.o.size);exact⟨rfl,h2.trans (HB3.o.mono h2.size)⟩
def partF (key:LU_)(n:Nat):Nat:=val ((kM key).take 8)%n
def nR (n:Int):Bool:=decide (1≤n)&&decide (n≤16)
def ox (n:Int):Int:=if nR n then 0 else 2
theorem zW {n:Int}(h:nR n=true):∃ m:Nat,n=(m:Int)∧1≤m∧m≤16:=by
 simp[nR]at h;exact⟨n.toNat,by omega,by omega,by omega⟩
theorem Bq {m:Nat}(h1:1≤m)(h2:m≤16):nR (m:Int)=true:=by simp[nR];omega
theorem kZ (key:LU_)(n:Nat)(h:1≤n):partF key n<n:=Nat.mod_lt _ h
theorem GK {T:Prop} (h:T:=by
 go_enter Tryz.func93,Tryz.ntmps93;go_wp2;go_ret;exact⟨rfl,dB _⟩
):T:=h
theorem nD (n:Int)(w:World):Calls Tryz.prog 93 #[.int .i64 n] w fun e w'=>e=.returned (.int .i64 (ox n))∧Bw_ w w':=by
 by_cases h1:1≤n
 ·by_cases h2:n≤16
  ·have hc:ox n=0:=by simp[ox,nR,h1,h2]
   have h3:¬n<1:=by omega
   have h4:¬16<n:=by omega
   rw[hc];clear hc;exact GK
  ·have hc:ox n=2:=by simp[ox,nR,h2]
   have h3:¬n<1:=by omega
   have h4:16<n:=by omega
   rw[hc];clear hc h2;exact GK
 ·have hc:ox n=2:=by simp[ox,nR,h1]
  have h3:n<1:=by omega
  rw[hc];clear hc h1;exact GK
theorem Ck (v c k:Nat)(h:v<256 ^ k):v ||| c*256 ^ k=v+c*256 ^ k:=by
 have e:256 ^ k=2 ^ (8*k):=by rw[show(256:Nat)=2 ^ 8 from rfl,←Nat.pow_mul]
 rw[e]at h⊢;have:=Nat.shiftLeft_add_eq_or_of_lt h c;rw[Nat.shiftLeft_eq]at this;rw[Nat.or_comm,←this,Nat.add_comm]
theorem Be (s:LU_)(k:Nat)(h:k<s.length)(hk:k<8):bits .or .u64 ((val (s.take k):Nat):Int) (((s[k].toNat*256 ^ k:Nat)):Int)=((val (s.take (k+1)):Nat):Int):=by
 have hv:=tU (s.take k);rw[EJ,Nat.min_eq_left (by omega)]at hv;have hp:256 ^ k≤256 ^ 7:=Nat.pow_le_pow_right (by decide) (by omega);have hc:=s[k].toNat_lt;have hm:s[k].toNat*256 ^ k≤255*256 ^ 7:=Nat.mul_le_mul (by omega) hp;have h7:(256:Nat) ^ 7=72057594037927936:=rfl;rw[u64_or_nat _ _ (by omega) (by omega),Ck _ _ _ hv,yW s k h]
theorem AT (z:Int):IntKind.u64.wrap z=z%(18446744073709551616:Int):=by
 simp[IntKind.wrap,IntKind.bits,IntKind.signed]
theorem DA (c k:Nat)(hc:c<256)(hk:k<8):IntKind.u64.wrap ((c:Int)*2 ^ (8*k))=((c*256 ^ k:Nat):Int):=by
 have hp:256 ^ k≤256 ^ 7:=Nat.pow_le_pow_right (by decide) (by omega);have hm:c*256 ^ k≤255*256 ^ 7:=Nat.mul_le_mul (by omega) hp;have h7:(256:Nat) ^ 7=72057594037927936:=rfl
 have e:(c:Int)*2 ^ (8*k)=((c*256 ^ k:Nat):Int):=by
  rw[Int.natCast_mul,show(256:Nat) ^ k=2 ^ (8*k) by rw[show(256:Nat)=2 ^ 8 from rfl,←Nat.pow_mul]]
  norm_cast
 rw[e,AT];exact Int.emod_eq_of_lt (Int.natCast_nonneg _) (Int.ofNat_lt.2 (show c*256 ^ k<18446744073709551616 by omega))
theorem BH (key:LU_)(n b:Nat)(w:World)(hb:Blk w b 3 [.int .i64 (n:Int)])(h1:1≤n)(h2:n≤16)(hl:key.length≤70368744177664):Calls Tryz.prog 129 #[.string (bs key),.pointer (some ⟨b,0,none⟩)] w fun e w'=>e=.returned (.int .i64 ((partF key n:Nat):Int))∧Bw_ w w':=by
 have HB:=zH hb;clear hb;go_enter Tryz.func129,Tryz.ntmps129;go_wp2_with fail;refine(BL key w hl).mono ?_;rintro e w1 ⟨rfl,hB1⟩;have c1:=(HB.o.below hB1).cell (k:=0) rfl;have HB1:=zH hB1;have HLn:=zH (mf key);have HP:=zH (show partF key n=val ((kM key).take 8)%n from rfl);obtain⟨s,hs⟩:=ex_ (kM key);rw[←hs]at HLn HP⊢;clear hB1 hs;go_wp2
 go_loop [5,9] (fun v t=>∃ k:Nat,k≤8∧t=.int .i64 (k:Int)∧v=.int .u64 ((val (s.take k):Nat):Int)) (fun _ t=>8-(intOf t).toNat)
 case atStart=>exact⟨0,by omega,rfl,rfl⟩
 case round =>
  obtain⟨k,hk,rfl,rfl⟩:=hrel
  by_cases hk8:k<8
  ·have hks:k<s.length:=by have:=HLn.o;omega
   have k0:=nn_ k;have k1:(k:Int)<8:=by omega
   have k2:(k:Int)<(s.length:Int):=by omega
   have hor:=Be s k hks hk8;have hlt:=s[k].toNat_lt;generalize val (s.take k)=V0 at *;have hsh:=DA s[k].toNat k (by omega) hk8;have HOR:=zH hor;have HSH:=zH hsh;clear hor hsh;go_wp2;rw[HSH.o,HOR.o];exact⟨⟨k+1,by omega,by go_num,rfl⟩,by simp[intOf];omega⟩
  ·obtain rfl:k=8:=by omega
   have hV:(val (s.take 8):Int)%(n:Int)=((partF key n:Nat):Int):=by rw[HP.o,Int.natCast_emod]
   have hpl:=kZ key n h1;generalize val (s.take 8)=V at *;have hm0:0≤(V:Int)%(n:Int):=by omega
   have hm1:(V:Int)%(n:Int)≤16:=by omega
   have HV:=zH hV;clear hV;go_wp2;go_ret;exact⟨by rw[←HV.o];rfl,HB1.o⟩
theorem Cs (n:Int)(w:World):Calls Tryz.prog 94 #[.int .i64 n] w fun e w'=>∃ b,e=.returned (.agg #[.func (.func 129) #[] #[.pointer (some ⟨b,0,none⟩)]])∧Blk w' b 3 [.int .i64 n]∧w.heap.size≤b∧Bw_ w w':=by
 have hmf:∀ (fn:Fn) (first cap:Array Value) (w:World),(Instr.makeFunc fn first cap).run Tryz.prog w=.ok (.func fn first cap) w:=fun _ _ _ _=>rfl;obtain⟨B,hB⟩:=ex_ (Value.func (.func 129) #[] #[.pointer (some ⟨w.heap.size,0,none⟩)])
 have hz:Blk ((w.alloc (.cells #[.int .i64 n] 3)).alloc (.cells #[.nilFunc] 145)) (w.heap.size+1) 145 [.nilFunc]:=by
  have:=Blk.new (w.alloc (.cells #[.int .i64 n] 3)) [.nilFunc] 145;rw[show(w.alloc (.cells #[.int .i64 n] 3)).heap.size=w.heap.size+1 by simp]at this;exact this
 have HZ:=zH hz;have HI:=zH (show(Tryz.prog.info? 145).map (·.size)=some 1 by kernel_rfl);clear hz;clear hB B;go_enter Tryz.func94,Tryz.ntmps94;go_wp2_with (go_loud (refine gp (w.heap.size+1) [.nilFunc] [.func (.func 129) #[] #[.pointer (some ⟨w.heap.size,0,none⟩)]] HZ.o rfl _ _ _ rfl rfl rfl HI.o rfl (by simp[Value.oneCell']) ?_));refine bodyPost_ret (kE rfl rfl (HZ.o.row [.func (.func 129) #[] #[.pointer (some ⟨w.heap.size,0,none⟩)]]) _ Tryz.underlying145 rfl HI.o) rfl ?_;refine⟨w.heap.size,rfl,?_,Ei _,?_⟩
 ·have:=((Blk.new w [.int .i64 n] 3).below (af _ (.cells #[.nilFunc] 145)))
  exact this.other (by omega) _
 ·exact aI (bt (af _ _) (af _ _)) (by omega) _
theorem zG (key:LU_)(n:Nat)(w:World)(h1:1≤n)(h2:n≤16)(hl:key.length≤1099511627776):Calls Tryz.prog 95 #[.string (bs key),.int .i64 (n:Int)] w fun e w'=>e=.returned (.int .i64 ((partF key n:Nat):Int))∧Bw_ w w':=by
 have hV:(val ((kM key).take 8):Int)%(n:Int)=((partF key n:Nat):Int):=by rw[partF,Int.natCast_emod]
 have hpl:=kZ key n h1;have HLn:=zH (mf key);obtain⟨s,hs⟩:=ex_ (kM key);have HSD:=zH hs;rw[←hs]at hV HLn;have HV:=zH hV;clear hV hs;go_enter Tryz.func95,Tryz.ntmps95;go_wp2_with fail;refine(zD key w hl).mono ?_;rw[←HSD.o];rintro e w1 ⟨rfl,hB1⟩;have HB1:=zH hB1;have h8:(8:Int)≤(s.length:Int):=by have:=HLn.o;omega
 clear hB1;go_wp2_with fail;refine(wX _ _ (by rw[bY];simp;omega)).mono ?_;rw[jY];rintro e w2 ⟨rfl,rfl⟩;generalize val (s.take 8)=V at *;have hm0:0≤(V:Int)%(n:Int):=by have:=HV.o;omega
 have hm1:(V:Int)%(n:Int)≤16:=by have:=HV.o;omega
 clear h8;go_wp2;go_ret;exact⟨by rw[←HV.o];rfl,HB1.o⟩
def splitP (l:List PR)(n:Nat):List (List PR):=(List.range n).map fun i=>l.filter fun p=>decide (partF p.1 n=i)
theorem dH (l:List PR)(n:Nat):(splitP l n).length=n:=by simp[splitP]
theorem iB (l:List PR)(n i:Nat)(h:i<n):(splitP l n)[i]'(by rw[dH];exact h)=l.filter fun p=>decide (partF p.1 n=i):=by simp[splitP]
theorem l9 (l:List PR)(p:PR)(n k:Nat)(hk:partF p.1 n=k)(h:k<n):splitP (l++[p]) n=(splitP l n).set k ((splitP l n)[k]'(by rw[dH];exact h)++[p]):=by
 subst hk;apply List.ext_getElem
 ·simp[splitP]
 ·intro i h1 h2
  have hi:i<n:=by simpa[splitP] using h1
  rw[List.getElem_set];simp only[iB _ _ _ hi,iB _ _ _ h,List.filter_append]
  by_cases hik:partF p.1 n=i
  ·subst hik
   simp[splitP]
  ·simp[splitP,hik]
def OR (w:World)(bZ D:Nat)(rows:List (List PR)):Prop:=∃ vs:List Value,vs.length=rows.length∧D<w.heap.size∧Blk w D 37 vs ∧
 (∀ i (h:i<vs.length) (h':i<rows.length),OP w bZ vs[i] rows[i]∧vs[i].ownBlock≠some D)∧∀ i j g (h:i<vs.length) (h':j<vs.length),i≠j→vs[i].ownBlock=some g→vs[j].ownBlock≠some g
theorem OR.below {w w':World}{bZ D:Nat}{rows:List (List PR)}(h:OR w bZ D rows)(hB:Below w.heap.size w w'):OR w' bZ D rows:=by
 obtain⟨vs,h1,h2,h3,h4,h5⟩:=h;exact⟨vs,h1,Eb h2 hB.size,h3.below hB,fun i h h'=>⟨(h4 i h h').1.below hB,(h4 i h h').2⟩,h5⟩
theorem OR.rr {w:World}{bZ D:Nat}{rows:List (List PR)}(h:OR w bZ D rows):RR w (.slice (some ⟨D,0,none⟩) rows.length rows.length) rows:=by
 obtain⟨vs,h1,h2,h3,h4,h5⟩:=h;refine⟨_,_,rfl,Ei _,(by simp),fun k hk=>?_⟩;exact⟨D,0,vs[k],rfl,by rw[Ek];exact h3.cell (by simp),(h4 k (by omega) hk).1.reads⟩
theorem OR.empty (w:World)(bZ n:Nat):OR (w.alloc (.cells (List.replicate n (.slice none 0 0)).toArray 37)) bZ w.heap.size (List.replicate n []):=by
 refine⟨List.replicate n (.slice none 0 0),by simp,by simp,Blk.new _ _ _,fun i h h'=>?_,fun i j g h h' hij hg=>?_⟩
 ·simp only[List.getElem_replicate]
  exact⟨OP.nil _ _,by simp[Value.ownBlock]⟩
 ·simp[Value.ownBlock]at hg
theorem Dr {ops:Array Oper}{rest:List Oper}{o:Oper}{a:Act}{Q:Exit→Act→World→Prop}(w:World)(hgd:o.guard=none)(s x:Operand)(t:TypeId)(ho:o.op=.call { callee:=.builtin .append,args:=#[s,x],argTypes:=#[t,t] })(ht:Tryz.prog.underlying t=some (.slice 62))(bZ:Nat)(v:Value)(R:List PR)(p:PR)(vx:Value)(hown:OP w bZ v R)(hr:aZ w vx 1 (aS [p]))(hs:a.eval s=v)(hx:a.eval x=vx)(hbytes:(R.length+1)*32≤140737488355328)(hbase:bZ≤w.heap.size)(h:∀ g cap w',OP w' bZ (.slice (some ⟨g,0,none⟩) (R.length+1) cap) (R++[p])→(∀ j,j<w.heap.size→v.ownBlock≠some j→w'.heap[j]?=w.heap[j]?)→(v.ownBlock=some g∨w.heap.size≤g)→Below bZ w w'→wpList Tryz.prog ops Q rest (a.put o.dst (.slice (some ⟨g,0,none⟩) (R.length+1) cap)) w'):wpList Tryz.prog ops Q (o::rest) a w:=by
 obtain⟨i,hi,hz,hi1,hi2⟩:=info_parts gE;obtain⟨ax,cap,rfl,hnone,hc⟩:=hr
 cases ax with
 | none=>exact absurd (hnone rfl).1 (by decide)
 | some ad =>
  refine wpList_append_lies w hgd s x t ho bZ 62 i (.agg #[.string ByteArray.empty,.string ByteArray.empty]) 2 32 ht hi hz hi1 hi2 rfl (by decide) v R.length (aS R) hs hown ad 1 cap (aS [p]) hx rfl ?_ (kv [p]) (by decide) (by unfold maxLen;omega) hbytes hbase _ rfl ?_
  ·exact Ho
  ·intro g cap' w' h2 h3 h4 h5
   refine h g cap' w' ?_ (fun j hj hne=>h3.block j hj (fun e=>hne e.symm)) ?_ ((Em bZ w).grown h3 hbase ?_)
   ·unfold OP
    rw[dK,Ev];exact h2
   ·rcases h4 with h4|h4
    ·exact .inl h4
    ·exact .inr (by omega)
   ·intro k hk
    exact(hown.lt k hk).1
theorem oG {ops:Array Oper}{o:Oper}{a:Act}{K:Act→World→Prop}{Q:Exit→Act→World→Prop}{E:Prop}(w:World)(p:PR)(hgd:o.guard=none)(s x:Operand)(t:TypeId)(ho:o.op=.call { callee:=.builtin .append,args:=#[s,x],argTypes:=#[t,t] })(ht:Tryz.prog.underlying t=some (.slice 62))(bZ:Nat)(v:Value)(R:List PR)(hs:a.eval s=v)(hown:OP w bZ v R)(c:Nat)(hx:a.eval x=.slice (some ⟨w.heap.size,0,none⟩) 1 c)(hbytes:(R.length+1)*32≤140737488355328)(hbase:bZ≤w.heap.size)(h:∀ g cap w',OP w' bZ (.slice (some ⟨g,0,none⟩) (R.length+1) cap) (R++[p])→Hid (∀ j,j<w.heap.size→v.ownBlock≠some j→w'.heap[j]?=w.heap[j]?)→Hid (v.ownBlock=some g∨w.heap.size≤g)→Below bZ w w'→K (a.put o.dst (.slice (some ⟨g,0,none⟩) (R.length+1) cap)) w'):if Region.wanted o (yielded ops a.tmps)=true then Oper.wp Tryz.prog o a (w.alloc (.cells #[.string (bs p.1),.string (bs p.2)] 62)) K Q else E:=by
 obtain⟨i,hi,hz,hi1,hi2⟩:=info_parts gE;refine step_append_lies _ hgd s x t ho bZ 62 i (.agg #[.string ByteArray.empty,.string ByteArray.empty]) 2 32 ht hi hz hi1 hi2 rfl (by decide) v R.length (aS R) hs (bn hown (af w _)) ⟨w.heap.size,0,none⟩ 1 c (aS [p]) hx rfl ?_ (kv [p]) (by decide) (by unfold maxLen;omega) hbytes (by simp;omega) _ rfl ?_
 ·intro j u hj
  have:j<2:=by
   rcases Nat.lt_or_ge j 2 with h|h
   ·exact h
   ·simp[List.getElem?_eq_none (show(aS [p]).length≤j from h)]at hj
  rw[Addr.add_lit,Ek,World.cell?_alloc_new];simpa[aS] using hj
 ·intro g cap w' h2 h3 h4 h5
  refine h g cap w' ?_ (fun j hj hne=>?_) ?_ (((Em bZ w).alloc hbase _).grown h3 (by simp;omega) ?_)
  ·unfold OP
   rw[dK,Ev];exact h2
  ·rw[h3.block j (by simp;omega) (fun e=>hne e.symm)]
   first|exact heap_alloc_old w _ hj|exact heap_alloc_old w _ _ hj
  ·rcases h4 with h4|h4
   ·exact .inl h4
   ·exact .inr (by rw[h4];simp)
  ·intro k hk
   exact(hown.lt k hk).1
theorem OR.step {w w1 w2:World}{bZ D g cap k:Nat}{rows:List (List PR)}{vs:List Value}{p:PR}(h1:vs.length=rows.length)(h3:Blk w D 37 vs)(h4:∀ i (h:i<vs.length) (h':i<rows.length),OP w bZ vs[i] rows[i]∧vs[i].ownBlock≠some D)(h5:∀ i j g (h:i<vs.length) (h':j<vs.length),i≠j→vs[i].ownBlock=some g→vs[j].ownBlock≠some g)(hk:k<rows.length)(hB:Below w.heap.size w w1)(hown:OP w2 bZ (.slice (some ⟨g,0,none⟩) (rows[k].length+1) cap) (rows[k]++[p]))(hkeep:∀ j,j<w1.heap.size→(vs[k]'(by omega)).ownBlock≠some j→w2.heap[j]?=w1.heap[j]?)(hg:(vs[k]'(by omega)).ownBlock=some g∨w1.heap.size≤g)(hsz:w1.heap.size≤w2.heap.size):OR (w2.setCell ⟨D,k,none⟩ (.slice (some ⟨g,0,none⟩) (rows[k].length+1) cap)) bZ D (rows.set k (rows[k]++[p])):=by
 have hkv:k<vs.length:=by omega
 have hD1:D<w1.heap.size:=Eb h3.lt hB.size;have hDk:vs[k].ownBlock≠some D:=(h4 k hkv hk).2
 have hgD:g≠D:=by
  rcases hg with h|h
  ·rintro rfl;exact hDk h
  ·omega
 have hBlk2:Blk w2 D 37 vs:=by
  unfold Blk;rw[hkeep D hD1 hDk];exact h3.below hB
 have hset:∀ (v:Value) (l:List PR),OP w2 bZ v l→v.ownBlock≠some D→OP (w2.setCell ⟨D,k,none⟩ (.slice (some ⟨g,0,none⟩) (rows[k].length+1) cap)) bZ v l:=fun v l ho hne=>by
  obtain⟨e1,e2⟩:=ho;refine⟨e1,?_⟩;rcases e2 with e2|⟨g',cap',cur,hv,hg',hh,r⟩
  ·exact .inl e2
  ·refine .inr ⟨g',cap',cur,hv,hg',?_,r⟩
   rw[heap_setCell_other _ _ _ _ (fun e=>hne (by rw[hv];simp only[Value.ownBlock];first|rw[e]|rw[←e]))];exact hh
 refine⟨vs.set k (.slice (some ⟨g,0,none⟩) (rows[k].length+1) cap),by simp[h1],by simp[World.setCell];omega,hBlk2.set k _,fun i h h'=>?_,fun i j g' h h' hij hgi=>?_⟩
 ·have hiv:i<vs.length:=by simpa using h
  have hir:i<rows.length:=by simpa using h'
  simp only[List.getElem_set]
  by_cases hik:k=i
  ·subst hik
   simp only[if_pos];exact⟨hset _ _ hown (by simpa[Value.ownBlock] using hgD),by simpa[Value.ownBlock] using hgD⟩
  ·simp only[if_neg hik]
   obtain⟨ho,hne⟩:=h4 i hiv hir;refine⟨hset _ _ ?_ hne,hne⟩;have ho1:=ho.below hB;obtain⟨e1,e2⟩:=id ho1;refine⟨e1,?_⟩;rcases e2 with e2|⟨g',cap',cur,hv,hg',hh,r⟩
   ·exact .inl e2
   ·refine .inr ⟨g',cap',cur,hv,hg',?_,r⟩
    rw[hkeep g' (Array.getElem?_eq_some_iff.1 hh).1 (fun e=>h5 k i g' hkv hiv hik e (by rw[hv];rfl))];exact hh
 ·have hiv:i<vs.length:=by simpa using h
  have hjv:j<vs.length:=by simpa using h'
  have hold:∀ i (hiv:i<vs.length) g',vs[i].ownBlock=some g'→g'<w1.heap.size:=fun i hiv g' e=>by
   obtain⟨_,e2⟩:=(h4 i hiv (by omega)).1;rcases e2 with ⟨e2,_⟩|⟨g2,cap',cur,hv,_,hh,_⟩
   ·rw[e2]at e;simp[Value.ownBlock]at e
   ·rw[hv]at e
    simp only[Value.ownBlock,Option.some.injEq]at e;subst e;exact Eb (Array.getElem?_eq_some_iff.1 hh).1 hB.size
  simp only[List.getElem_set]at hgi⊢
  by_cases hik:k=i
  ·subst hik
   simp only[if_pos]at hgi;rw[if_neg hij];simp only[Value.ownBlock,Option.some.injEq]at hgi;subst hgi;intro e;rcases hg with h|h
   ·exact h5 k j g hkv hjv hij h e
   ·have:=hold j hjv g e;omega
  ·rw[if_neg hik]at hgi
   by_cases hjk:k=j
   ·subst hjk
    rw[if_pos rfl];simp only[Value.ownBlock,ne_eq,Option.some.injEq];rintro rfl;rcases hg with h|h
    ·exact h5 k i g hkv hiv hik h hgi
    ·have:=hold i hiv g hgi;omega
   ·rw[if_neg hjk]
    exact h5 i j g' hiv hjv hij hgi
theorem GO {T:Prop} (h:T:=by
 have HRPw:=zH (HRP.o.below HXw.o);obtain⟨A1,C1,hrun1,hrp1⟩:=HRPw.o.headRun J (J:Int) rfl hJR;have HRP1:=zH hrp1;have hJ0:=nn_ J;have hJ1:(J:Int)≤(R.length:Int):=by omega
 clear hrp1;have hlT:(R.take J).length=J:=by rw[EJ];omega
 have HLT2:=zH hlT;have HRP1':=zH (show RP wz (.slice A1 (R.take J).length C1) (R.take J) by rw[hlT];exact HRP1.o);have HBw:=zH (show Below w.heap.size w wz from bt HB.o HXw.o);clear hlT;go_wp2_with (at_builtin;go_must (refine dc wz rfl _ _ 37 rfl Tryz.underlying37 wz.heap.size _ [] rfl (OP.nil _ _) _ (R.take J) rfl HRP1.o (by rw[HLT2.o];simp;omega) (Ei _) ?_));intro v7 w7 hown7 hB7;obtain⟨a7,c7,rfl⟩:=ap hown7;have HO7:=zH (show OP w7 wz.heap.size _ (R.take J) from hown7);have HB7:=zH hB7;have hs7:=hB7.size;have e1:=DK (bt HBw.o HB7.o) HD1.o;have e2:=DK (bt HBw.o HB7.o) HD2.o;clear hown7 hB7 hrun1;go_wp2_with (at_builtin;go_must (refine lw w7 p rfl _ _ 37 rfl Tryz.underlying37 wz.heap.size _ (R.take J) rfl HO7.o _ rfl (by rw[HLT2.o];omega) hs7 ?_));intro v8 w8 hown8 hB8;obtain⟨a8,c8,rfl⟩:=ap hown8;have HO8:=zH hown8;have HB8:=zH (HB7.o.trans hB8);have hs8:=HB8.o.size;obtain⟨A2,C2,hrun2,hrp2⟩:=(HRPw.o.below HB8.o).cutRun J (J:Int) rfl hJR;have HRP2:=zH hrp2;clear hown8 hB8 e1 e2 hrp2;go_wp2_with (at_builtin;go_must (refine dc w8 rfl _ _ 37 rfl Tryz.underlying37 wz.heap.size _ (R.take J++[p]) rfl HO8.o _ (R.drop J) rfl HRP2.o (by rw[Ev,HLT2.o,Ew];simp;omega) hs8 ?_));intro v9 w9 hown9 hB9
 have HO9:=zH (show OP w9 w.heap.size v9 (srt (l.take (k+1))) by
  rw[HINS.o];have:=OP.mono hown9 (show w.heap.size≤wz.heap.size from HBw.o.size);simpa[Et] using this)
 have HB9:=zH (show Below w.heap.size w w9 from bt HBw.o (HB8.o.trans hB9));clear hown9 hB9 hrun2;go_wp2;refine⟨?_,by simp[intOf];omega⟩
 first
  | exact⟨k+1,by omega,by go_num,HO9.o,HB9.o⟩
  | ((repeat apply Exists.intro);exact⟨⟨k+1,by omega,by go_num,HO9.o,HB9.o⟩,rfl⟩)
):T:=h
theorem uq (v:Value)(l:List PR)(w:World)(hr:RP w v l)(hl:l.length≤1000000):Calls Tryz.prog 117 #[v] w fun e w'=>∃ v',e=.returned v'∧OP w' w.heap.size v' (srt l)∧Bw_ w w':=by
 obtain⟨a,cap,rfl,_,hc⟩:=hr.open;have HC:=zH hc;clear hr hc;go_enter Tryz.func117,Tryz.ntmps117;go_wp2
 go_loopw [3,4] (fun o t wx=>∃ k:Nat,k≤l.length∧t=.int .i64 (k:Int)∧Hid (OP wx w.heap.size o (srt (l.take k)))∧Hid (Below w.heap.size w wx)) (fun _ t _=>l.length-(intOf t).toNat)
 case atStart=>exact⟨0,by omega,rfl,OP.nil _ _,dB _⟩
 case round =>
  obtain⟨k,hk,rfl,HO,HB⟩:=hrel;obtain⟨ao,co,rfl⟩:=ap HO.o
  by_cases hkl:k<l.length
  ·have k0:=nn_ k
   have k1:(k:Int)<(l.length:Int):=by omega
   obtain⟨bl,ol,rfl,d1,d2⟩:=HC.o k hkl;have HD1:=zH d1;have HD2:=zH d2;have HSN:=zH (show srt (l.take (k+1))=ins l[k] (srt (l.take k)) by rw[Ef hkl,jo]);have HSO:=zH (dT (l.take k));have HRL:=zH (show(srt (l.take k)).length≤1000000 by rw[bC,EJ];omega);obtain⟨p,hp⟩:=ex_ (l[k]);rw[←hp]at HD1 HD2 HSN;obtain⟨R,hR⟩:=ex_ (srt (l.take k));rw[←hR]at HO HSN HSO HRL⊢;clear hp hR d1 d2;have hrp:=HO.o.reads;obtain⟨_,_,hv,_,hcr⟩:=hrp.open;injection hv with e1 _ e3
   subst e1 e3;have HCR:=zH hcr;have HRP:=zH hrp;have hRL:=HRL.o;clear hcr hrp;obtain⟨Wr,hWr⟩:=ex_ wr;subst hWr;go_wp2
   go_loopw [5] (fun t wx=>∃ j:Nat,j≤R.length∧t=.int .i64 (j:Int)∧Hid (∀ i (h:i<R.length),j≤i→lt p.1 R[i].1=true)∧Hid (Below Wr.heap.size Wr wx)) (fun t _=>(intOf t).toNat)
   case atStart=>exact⟨R.length,by omega,rfl,fun i h h'=>by omega,dB _⟩
   case round =>
    obtain⟨j,hj,rfl,HJ,HX⟩:=hrel;have e1:=DK HX.o (DK HB.o HD1.o)
    by_cases hj0:0<j
    ·obtain⟨i,rfl⟩:∃ i,j=i+1:=⟨j-1,by omega⟩
     have hiR:i<R.length:=by omega
     obtain⟨b,off,rfl,d3,_⟩:=HCR.o i hiR;replace d3:=DK HX.o d3;have i0:=nn_ i;have i1:(i:Int)<(R.length:Int):=by omega
     have c0:(0:Int)<((i+1:Nat):Int):=by omega
     have ei:(((i+1:Nat):Int)-1)=(i:Int):=by omega
     cases hlt:lt p.1 R[i].1 with
     | true =>
      have h2:=eH hlt
      have h3:(R[i].1==p.1)=false:=by
       rw[beq_eq_false_iff_ne];intro e;rw[e,lt_irr]at hlt;cases hlt
      have HJ2:=zH (show ∀ i' (h:i'<R.length),i≤i'→lt p.1 R[i'].1=true from fun i' h h'=>by
       rcases Nat.lt_or_ge i i' with h4|h4
       ·exact HJ.o i' h (by omega)
       ·obtain rfl:i'=i:=by omega
        exact hlt)
      have HLT:=zH hlt;clear hlt;unfold lt at h2;go_wp2;go_quiet (fail);go_wp2;refine⟨?_,by simp[intOf]⟩
      first
       | exact⟨i,by omega,rfl,HJ2.o,bt HX.o (DL _ _)⟩
       | ((repeat apply Exists.intro);exact⟨⟨i,by omega,rfl,HJ2.o,bt HX.o (DL _ _)⟩,rfl⟩)
     | false =>
      have HINS:=zH (show srt (l.take (k+1))=R.take (i+1)++p::R.drop (i+1) by
       rw[HSN.o];exact uU p R (i+1) (by omega) HSO.o HJ.o (fun _ h'=>hlt))
      have hJR:i+1≤R.length:=by omega
      clear HJ
      cases hgt:lt R[i].1 p.1 with
      | true =>
       clear hlt;unfold lt at hgt;go_wp2;go_quiet (fail);obtain⟨wz,hwz⟩:=ex_ (wr.drewN nq);have HXw:=zH (show Below Wr.heap.size Wr wz by rw[hwz];exact bt HX.o (DL _ _));rw[←hwz];obtain⟨J,hJ⟩:=ex_ (i+1);have HJE:=zH hJ;rw[←hJ]at HINS hJR⊢;clear hwz hgt d3 e1 hJ;exact GO
      | false =>
       have heq:R[i].1=p.1:=by
        have:=An R[i].1 p.1;rw[hgt,hlt,Bool.false_or]at this;have h':(R[i].1==p.1)=true:=by simpa using this
        simpa using h'
       have h3:(R[i].1==p.1)=true:=by simpa using heq
       clear hlt heq;unfold lt at hgt;go_wp2;go_quiet (fail);obtain⟨wz,hwz⟩:=ex_ (wr.drewN nq);have HXw:=zH (show Below Wr.heap.size Wr wz by rw[hwz];exact bt HX.o (DL _ _));rw[←hwz];obtain⟨J,hJ⟩:=ex_ (i+1);have HJE:=zH hJ;rw[←hJ]at HINS hJR⊢;clear hwz hgt h3 d3 e1 hJ;exact GO
    ·have HINS:=zH (show srt (l.take (k+1))=R.take j++p::R.drop j by
      rw[HSN.o];exact uU p R j hj HSO.o HJ.o (fun h _=>by omega))
     have hJR:j≤R.length:=hj;have c0:¬(0:Int)<(j:Int):=by omega
     go_wp2;go_quiet (fail);obtain⟨wz,hwz⟩:=ex_ (wr.drewN nq);have HXw:=zH (show Below Wr.heap.size Wr wz by rw[hwz];exact bt HX.o (DL _ _));rw[←hwz];obtain⟨J,hJ⟩:=ex_ j;have HJE:=zH hJ;rw[←hJ]at HINS hJR⊢;clear hwz e1 hj hj0 HJ c0 hJ;exact GO
  ·obtain rfl:k=l.length:=by omega
   have HF:=zH (List.take_length (l:=l));go_wp2;go_ret
   have hx:OP wr w.heap.size (.slice ao (srt (l.take l.length)).length co) (srt l):=by
    have:=HO.o;simp only[HF.o]at this⊢;exact this
   exact⟨_,rfl,hx,HB.o⟩
def SplitRes (l:List PR)(n:Int)(bZ:Nat)(e:Ending)(w':World):Prop :=
 if nR n then ∃ D,e=.returned (.tuple #[.slice (some ⟨D,0,none⟩) n.toNat n.toNat,.int .i64 0])∧bZ≤D∧OR w' D D (splitP l n.toNat)
 else e=.returned (.tuple #[.slice none 0 0,.int .i64 2])
theorem yz (v:Value)(l:List PR)(n:Int)(w:World)(hr:RP w v l)(hl:l.length≤1000000)(hm:∀ p∈l,p.1.length≤70368744177664):Calls Tryz.prog 54 #[v,.int .i64 n] w fun e w'=>SplitRes l n w.heap.size e w'∧Below w.heap.size w w':=by
 obtain⟨a,cap,rfl,_,hcell⟩:=hr.open;have HCELL:=zH hcell;clear hr hcell
 cases hmb:nR n with
 | false =>
  have HC:=zH (show ox n=2 by rw[ox,hmb];rfl);have HR:=zH (show ∀ e w',e=.returned (.tuple #[.slice none 0 0,.int .i64 2])→SplitRes l n w.heap.size e w' from fun e w' h=>by unfold SplitRes;rw[hmb];exact h);clear hmb;go_enter Tryz.func54,Tryz.ntmps54;go_wp2_with fail;refine(nD n w).mono ?_;rw[HC.o];rintro e w1 ⟨rfl,hB1⟩;have HB1:=zH hB1;clear hB1;go_wp2_with fail;go_ret2;exact⟨HR.o _ _ rfl,HB1.o⟩
 | true =>
  have HC:=zH (show ox n=0 by rw[ox,hmb];rfl);obtain⟨m,rfl,h1,h2⟩:=zW hmb;have HR:=zH (show ∀ e w',(∃ D,e=.returned (.tuple #[.slice (some ⟨D,0,none⟩) m m,.int .i64 0])∧w.heap.size≤D∧OR w' D D (splitP l m))→SplitRes l (m:Int) w.heap.size e w' from fun e w' h=>by unfold SplitRes;rw[hmb,EP];exact h);have HM:=zH hm;clear hmb hm;go_enter Tryz.func54,Tryz.ntmps54;go_wp2_with fail;refine(nD m w).mono ?_;rw[HC.o];rintro e w1 ⟨rfl,hB1⟩;have HB1:=zH hB1;clear hB1;go_wp2_with fail;refine(Cs m w1).mono ?_;rintro e w2 ⟨b,rfl,hb,_,hB2⟩;have HBk:=zH hb;have HB2:=zH (bt HB1.o hB2);have hz:Blk (w2.alloc (.cells #[.nilFunc] 145)) w2.heap.size 145 [.nilFunc]:=Blk.new w2 [.nilFunc] _;have HZ:=zH hz;have HI:=zH (show(Tryz.prog.info? 145).map (·.size)=some 1 by kernel_rfl);clear hb hB2 hz;go_wp2_with (refine bA w2.heap.size [.nilFunc] [.func (.func 129) #[] #[.pointer (some ⟨b,0,none⟩)]] HZ.o rfl _ _ _ rfl rfl rfl HI.o rfl (by simp[Value.oneCell']) ?_);intro w3 hw3
  have hC3:Blk w3 w2.heap.size 145 [.func (.func 129) #[] #[.pointer (some ⟨b,0,none⟩)]]:=by
   rw[←hw3.o];exact HZ.o.row _
  have hB23:Below w2.heap.size w2 w3:=by rw[←hw3.o];exact aI (af _ _) (Ei _) _
  have HBk3:=zH (HBk.o.below hB23);have HB3:=zH (bt HB2.o hB23);have HC3:=zH hC3;obtain⟨C,hC⟩:=ex_ w2.heap.size;rw[←hC]at HC3⊢;clear hw3 hC3 hB23 hC HZ HBk;have hmk:=lf (P:=Tryz.prog) 28 37 (.slice none 0 0) 24 Tryz.underlying28 (by kernel_rfl) rfl m (by omega) (by omega) w3;have HO:=zH (OR.empty w3 w3.heap.size m);obtain⟨w4,hw4⟩:=ex_ (w3.alloc (.cells (List.replicate m (.slice none 0 0)).toArray 37));rw[←hw4]at hmk HO;have hB4:=ba_ hw4;have HB4:=zH hB4
  have hsp:splitP (l.take 0) m=List.replicate m []:=by
   apply List.ext_getElem
   ·simp[splitP]
   ·intro i h h';simp[splitP]
  rw[←hsp]at HO;clear hw4 hB4 hsp;obtain⟨D,hD⟩:=ex_ w3.heap.size;rw[←hD]at HO HB4 hmk;have HD:=zH hD;clear hD;go_wp2;clear hmk
  go_loopw [23] (fun t wx=>∃ k:Nat,k≤l.length∧t=.int .i64 (k:Int)∧Hid (OR wx D D (splitP (l.take k) m))∧Hid (Below D w3 wx)) (fun t _=>l.length-(intOf t).toNat)
  case atStart=>exact⟨0,by omega,rfl,HO,HB4⟩
  case round =>
   clear HO HB4;obtain⟨k,hk,rfl,HO,HB4⟩:=hrel
   by_cases hkl:k<l.length
   ·have k0:=nn_ k
    have k1:(k:Int)<(l.length:Int):=by omega
    obtain⟨bl,ol,rfl,d1,d2⟩:=HCELL.o k hkl;have HBx:=zH (show Below w.heap.size w wr from HB3.o.trans (HB4.o.mono (by have:=HB3.o.size;have:=HD.o;omega)));replace d1:=DK HBx.o d1;replace d2:=DK HBx.o d2;obtain⟨p,hp⟩:=ex_ (l[k]);rw[←hp]at d1 d2;have HP:=zH hp;have HPL:=zH (show p.1.length≤70368744177664 by rw[hp];exact HM.o _ (EM hkl));have HB34:Below w3.heap.size w3 wr:=by rw[←HD.o];exact HB4.o
    have cC:=(HC3.o.below HB34).cell (k:=0) rfl;have hCl:=(HC3.o.below HB34).lt;have HBk4:=zH (HBk3.o.below HB34);have hDl:D<wr.heap.size:=by obtain⟨_,_,h,_⟩:=HO.o;exact h
    clear hp HB34;go_wp2_with fail;obtain⟨w5,hw5⟩:=ex_ (wr.alloc (.cells #[.string (bs p.1),.string (bs p.2)] 62));have hB5:=ba_ hw5;have hpb:Blk w5 wr.heap.size 62 [.string (bs p.1),.string (bs p.2)]:=by rw[hw5];exact Blk.new wr [.string (bs p.1),.string (bs p.2)] _
    rw[←hw5];have HBk5:=zH (HBk4.o.below hB5);have HO5:=zH (HO.o.below hB5);have HPB5:=zH hpb;have HB5:=zH hB5;have hs5:=hB5.size;clear hw5 hB5 hpb cC hCl HBk4 HO d1 d2;refine(BH p.1 m b w5 HBk5.o h1 h2 HPL.o).mono ?_;rintro e w6 ⟨rfl,hB6⟩;have HO6:=zH (HO5.o.below hB6);have hpb6:=HPB5.o.below hB6;obtain⟨e1,e2⟩:=cl2 hpb6;have HB6:=zH (HB5.o.trans (hB6.mono hs5));have hs6:=hB6.size;have hat:=kZ p.1 m h1;obtain⟨t,ht⟩:=ex_ (partF p.1 m);rw[←ht]at hat⊢;have HT:=zH ht;clear hB6 hpb6 ht HBk5 HO5 HPB5;obtain⟨vs,q1,q2,q3,q4,q5⟩:=HO6.o;have q1':=q1;rw[dH]at q1';have hvl:t<vs.length:=by omega
    have hrl:t<(splitP (l.take k) m).length:=by rw[dH];exact hat
    have dv:=q3.cell (k:=t) (List.getElem?_eq_getElem hvl);have fv:=q3.free (k:=t) hvl;have hown:=(q4 t hvl hrl).1;obtain⟨at_,ct,hvt⟩:=ap hown;have t0:=nn_ t;have t1:(t:Int)<(m:Int):=by omega
    rw[hvt]at dv;have HV:=zH hvt;have HQ1:=zH q1;have HQ3:=zH q3;have HQ4:=zH q4;have HQ5:=zH q5;have HOWN:=zH hown;clear hvt q1 q1' q3 q4 q5 hown;obtain⟨R,hR⟩:=ex_ ((splitP (l.take k) m)[t]'hrl);rw[←hR]at dv HV HOWN;rw[HV.o]at HOWN;have HRD:=zH hR
    have HRL:=zH (show R.length≤1000000 by
     rw[hR,iB _ _ _ hat];refine En (List.length_filter_le _ _) ?_;rw[EJ];omega)
    clear hR;go_wp2;have hown6:OP w6.drew D (.slice at_ R.length ct) R:=HOWN.o;have HO6d:=zH hown6;have hby:(R.length+1)*32≤140737488355328:=by have:=HRL.o;omega
    have hbase:D≤w6.drew.heap.size:=by show D≤w6.heap.size;omega
    have hne8:(Value.slice at_ R.length ct).ownBlock≠some D:=by rw[←HV.o];exact(HQ4.o t hvl hrl).2
    have HNE:=zH hne8;have hD6:D<w6.drew.heap.size:=by show D<w6.heap.size;omega
    have dv':w6.drew.cell? ⟨D,t,none⟩=some (.slice at_ R.length ct):=dv;have fv':w6.drew.frozen? ⟨D,t,none⟩=false:=fv;have HDV:=zH dv';have HFV:=zH fv';clear hown6 hne8 dv' fv';go_region_law (refine oG w6.drew p rfl _ _ 37 rfl Tryz.underlying37 D _ R rfl HO6d.o _ rfl hby hbase ?_;intro g8 cap8 w8 hown8 hkeep8 hlie8 hB8;have hblk:=hkeep8.o D hD6 HNE.o;have dv8:w8.cell? ⟨D,t,none⟩=some (.slice at_ R.length ct):=(World.cell?_of_block (w:=w6.drew) (a:=⟨D,t,none⟩) hblk).trans HDV.o;have fv8:w8.frozen? ⟨D,t,none⟩=false:=(World.frozen?_of_block (w:=w6.drew) (a:=⟨D,t,none⟩) hblk).trans HFV.o;clear hblk)
    all_goals
     have hstep:=OR.step (w:=w6) (w1:=w6.drew) (w2:=w8) (bZ:=D) (D:=D) (g:=g8) (cap:=cap8) (k:=t) (rows:=splitP (l.take k) m) (vs:=vs) (p:=p) HQ1.o HQ3.o HQ4.o HQ5.o hrl (b_drew w6) (by rw[←HRD.o];exact hown8) (fun j hj hne=>hkeep8.o j hj (by rw[←HV.o];exact hne)) (by rw[HV.o];exact hlie8.o) hB8.size;rw[←HRD.o]at hstep
     have hsn:splitP (l.take (k+1)) m=(splitP (l.take k) m).set t (R++[p]):=by
      rw[Ef hkl,←HP.o,l9 _ _ _ t HT.o.symm hat,←HRD.o]
     rw[←hsn]at hstep;have HST:=zH hstep
     have HBW:=zH (show Below D w3 (w8.setCell ⟨D,t,none⟩ (.slice (some ⟨g8,0,none⟩) (R.length+1) cap8)) from
      ((HB4.o.trans (HB6.o.mono (by omega))).trans (((b_drew w6).mono (by omega)).trans hB8)).setCell (p:=⟨D,t,none⟩) (Ei _) _)
     clear hstep hsn hown8 hkeep8 hlie8 hB8 dv8 fv8;go_wp2;refine⟨?_,by simp[intOf];omega⟩
     first
      | exact⟨k+1,by omega,by go_num,HST.o,HBW.o⟩
      | ((repeat apply Exists.intro);exact⟨⟨k+1,by omega,by go_num,HST.o,HBW.o⟩,rfl⟩)
   ·obtain rfl:k=l.length:=by omega
    have HF:=zH (List.take_length (l:=l));go_wp2;go_ret2;refine⟨HR.o _ _ ⟨D,rfl,by have:=HD.o;have:=HB3.o.size;omega,?_⟩,?_⟩
    ·have:=HO.o
     rw[HF.o]at this;exact this
    ·exact HB3.o.trans (HB4.o.mono (by have:=HD.o;have:=HB3.o.size;omega))
theorem OP.some {w:World}{bZ:Nat}{v:Value}{l:List PR}(h:OP w bZ v l)(h0:0<l.length):∃ g cap,v=.slice (some ⟨g,0,none⟩) l.length cap∧bZ≤g:=by
 rcases h.2 with ⟨_,h0'⟩|⟨g,cap,cur,hv,hg,_⟩
 ·omega
 ·exact⟨g,cap,hv,hg⟩
theorem up (v:Value)(l:List PR)(m:Nat)(w:World)(hr:RP w v l)(hl:l.length≤1000000)(hm:∀ p∈l,p.1.length≤1099511627776)(h1:1≤m)(h2:m≤16):Calls Tryz.prog 57 #[v,.int .i64 (m:Int)] w fun e w'=>∃ D,e=.returned (.slice (some ⟨D,0,none⟩) m m)∧w.heap.size≤D∧OR w' D D (splitP l m)∧Below w.heap.size w w':=by
 obtain⟨a,cap,rfl,_,hcell⟩:=hr.open;have HCELL:=zH hcell;have HM:=zH hm;have hmk:=lf (P:=Tryz.prog) 28 37 (.slice none 0 0) 24 Tryz.underlying28 (by kernel_rfl) rfl m (by omega) (by omega) w;have HO:=zH (OR.empty w w.heap.size m);obtain⟨w4,hw4⟩:=ex_ (w.alloc (.cells (List.replicate m (.slice none 0 0)).toArray 37));rw[←hw4]at hmk HO;have hB4:=ba_ hw4;have HB4:=zH hB4
 have hsp:splitP (l.take 0) m=List.replicate m []:=by
  apply List.ext_getElem
  ·simp[splitP]
  ·intro i h h';simp[splitP]
 rw[←hsp]at HO;obtain⟨D,hD⟩:=ex_ w.heap.size;rw[←hD]at HO HB4 hmk;have HD:=zH hD;clear hr hcell hm hw4 hB4 hsp hD;go_enter Tryz.func57,Tryz.ntmps57;go_wp2;clear hmk
 go_loopw [6] (fun t wx=>∃ k:Nat,k≤l.length∧t=.int .i64 (k:Int)∧Hid (OR wx D D (splitP (l.take k) m))∧Hid (Below D w wx)) (fun t _=>l.length-(intOf t).toNat)
 case atStart=>exact⟨0,by omega,rfl,HO,HB4⟩
 case round =>
  clear HO HB4;obtain⟨k,hk,rfl,HO,HB4⟩:=hrel
  by_cases hkl:k<l.length
  ·have k0:=nn_ k
   have k1:(k:Int)<(l.length:Int):=by omega
   obtain⟨bl,ol,rfl,d1,d2⟩:=HCELL.o k hkl;have HBx:Below w.heap.size w wr:=by rw[←HD.o];exact HB4.o
   have HD1:=zH d1;have HD2:=zH d2;replace d1:=DK HBx d1;obtain⟨p,hp⟩:=ex_ (l[k]);rw[←hp]at d1 HD1 HD2;have HP:=zH hp;have HPL:=zH (show p.1.length≤1099511627776 by rw[hp];exact HM.o _ (EM hkl));clear hp d2 HBx;go_wp2_with fail;refine(zG p.1 m wr h1 h2 HPL.o).mono ?_;rintro e w6 ⟨rfl,hB6⟩;have HO6:=zH (HO.o.below hB6);have HB6:=zH (HB4.o.trans (hB6.mono (by obtain⟨_,_,h,_⟩:=HO.o;omega)));have hat:=kZ p.1 m h1;obtain⟨t,ht⟩:=ex_ (partF p.1 m);rw[←ht]at hat⊢;have HT:=zH ht;clear hB6 ht;obtain⟨vs,q1,q2,q3,q4,q5⟩:=HO6.o;have q1':=q1;rw[dH]at q1';have hvl:t<vs.length:=by omega
   have hrl:t<(splitP (l.take k) m).length:=by rw[dH];exact hat
   have dv:=q3.cell (k:=t) (List.getElem?_eq_getElem hvl);have fv:=q3.free (k:=t) hvl;have hown:=(q4 t hvl hrl).1;obtain⟨at_,ct,hvt⟩:=ap hown;have t0:=nn_ t;have t1:(t:Int)<(m:Int):=by omega
   rw[hvt]at dv;have HV:=zH hvt;have HQ1:=zH q1;have HQ3:=zH q3;have HQ4:=zH q4;have HQ5:=zH q5;have HOWN:=zH hown;clear hvt q1 q1' q3 q4 q5 hown;obtain⟨R,hR⟩:=ex_ ((splitP (l.take k) m)[t]'hrl);rw[←hR]at dv HV HOWN;rw[HV.o]at HOWN;have HRD:=zH hR
   have HRL:=zH (show R.length≤1000000 by
    rw[hR,iB _ _ _ hat];refine En (List.length_filter_le _ _) ?_;rw[EJ];omega)
   have hDv:=zH dv;have hFv:=zH fv;clear hR fv;have HRP:=zH (show RP w6 (.slice at_ R.length ct) R from HOWN.o.reads);go_wp2_with (at_builtin;go_must (refine dc w6 rfl _ _ 37 rfl Tryz.underlying37 w6.heap.size _ [] rfl (OP.nil _ _) _ R rfl HRP.o (by have:=HRL.o;simp;omega) (Ei _) ?_));intro v7 w7 hown7 hB7;obtain⟨a7,c7,rfl⟩:=ap hown7;have HO7:=zH hown7;have HB7:=zH hB7;have hs7:=hB7.size;have HBw7:=zH (show Below w.heap.size w w7 by rw[←HD.o];exact HB6.o.trans (hB7.mono (by omega)));have e1:=DK HBw7.o HD1.o;have e2:=DK HBw7.o HD2.o;clear hown7 hB7 dv d1;go_wp2_with (at_builtin;go_must (refine lw w7 p rfl _ _ 37 rfl Tryz.underlying37 w6.heap.size _ R rfl HO7.o _ rfl (by have:=HRL.o;omega) hs7 ?_));intro v8 w8 hown8 hB8;obtain⟨g8,cap8,hv8,hg8⟩:=hown8.some (by simp);rw[Ev,ES]at hv8;subst hv8;have hB68:=HB7.o.trans hB8;have hblk:=hB68.block D (by omega);have dv8:w8.cell? ⟨D,t,none⟩=some (.slice at_ R.length ct):=(World.cell?_of_block (w:=w6) (a:=⟨D,t,none⟩) hblk).trans hDv.o;have fv8:w8.frozen? ⟨D,t,none⟩=false:=(World.frozen?_of_block (w:=w6) (a:=⟨D,t,none⟩) hblk).trans hFv.o;have hown8':OP w8 D (.slice (some ⟨g8,0,none⟩) (R.length+1) cap8) (R++[p]):=OP.mono hown8 (by omega);have hstep:=OR.step (w:=w6) (w1:=w6) (w2:=w8) (bZ:=D) (D:=D) (g:=g8) (cap:=cap8) (k:=t) (rows:=splitP (l.take k) m) (vs:=vs) (p:=p) HQ1.o HQ3.o HQ4.o HQ5.o hrl (dB w6) (by rw[←HRD.o];exact hown8') (fun j hj _=>hB68.block j hj) (.inr hg8) hB68.size;rw[←HRD.o]at hstep
   have hsn:splitP (l.take (k+1)) m=(splitP (l.take k) m).set t (R++[p]):=by
    rw[Ef hkl,←HP.o,l9 _ _ _ t HT.o.symm hat,←HRD.o]
   rw[←hsn]at hstep;have HST:=zH hstep
   have HBW:=zH (show Below D w (w8.setCell ⟨D,t,none⟩ (.slice (some ⟨g8,0,none⟩) (R.length+1) cap8)) from
    (HB6.o.trans (hB68.mono (by omega))).setCell (p:=⟨D,t,none⟩) (Ei _) _)
   clear hstep hsn hown8 hown8' hB8 hblk hB68 e1 e2;go_wp2;refine⟨?_,by simp[intOf];omega⟩
   first
    | exact⟨k+1,by omega,by go_num,HST.o,HBW.o⟩
    | ((repeat apply Exists.intro);exact⟨⟨k+1,by omega,by go_num,HST.o,HBW.o⟩,rfl⟩)
  ·obtain rfl:k=l.length:=by omega
   have HF:=zH (List.take_length (l:=l));go_wp2;go_ret;refine⟨D,rfl,by have:=HD.o;omega,?_,?_⟩
   ·have:=HO.o
    rw[HF.o]at this;exact this
   ·rw[←HD.o];exact HB4.o
end
