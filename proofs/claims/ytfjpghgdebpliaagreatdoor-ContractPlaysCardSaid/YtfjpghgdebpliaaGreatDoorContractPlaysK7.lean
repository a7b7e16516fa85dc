/- Lemmas. -/
import Derived.Lib.ConvBytes
import Derived.Laws.MakeOwn
import Derived.Maps.AppendAt
import Derived.Test.YtfjpghgdebpliaaGreatDoorContractPlaysK5
set_option linter.unusedSimpArgs false
set_option linter.unusedVariables false
set_option maxRecDepth 100000
set_option maxHeartbeats 16000000
namespace Go.Proofs.YtfjpghgdebpliaaGreatDoor
open Go.Proofs.Tryz
open Go.RowKit Oct
theorem gq (x:UInt32)(n:Nat)(w:Z)(h1:1≤n)(h2:n≤31):R_ 131 #[.int .u32 (U x),F n] w (.int .u32 (U (dK x n))):=by
 have n1:1≤(n:Int):=Y;have n2:(n:Int)≤31:=Y;go_enter func131,ntmps131;go_wp2;go_quiet (fail);rw[Ao x n Y,xm x (32-n) Y,lI];go_wp2;go_ret;exact⟨rfl,II _ _⟩
theorem L6 {T:Prop} (h:T:=by
 have k1:(k:Int)<16:=by omega
 have k0:=nn_ k;have j:(k:Int)<64:=by omega
 have x0:(0:Int)≤4*(k:Int):=by omega
 have x1:4*(k:Int)<(l.length:Int):=by omega
 have x2:4*(k:Int)+1<(l.length:Int):=by omega
 have x3:4*(k:Int)+2<(l.length:Int):=by omega
 have y2:0≤4*(k:Int)+1:=by omega
 have y3:0≤4*(k:Int)+2:=by omega
 have y4:0≤4*(k:Int)+3:=by omega
 have x4:4*(k:Int)+3<(l.length:Int):=by omega
 go_wp2;refine aU 31 [] (by kernel_rfl) (by kernel_rfl) ?_;simp only[Jw,JE,Ju,JF];refine cG ?_
 (try simp only[fR,eE,eF,fQ,fP,eD,lI,iF,iX,iG,fV,fU,fT,fS])
 (intro w' hB hA;simp only[aD.all_some,IL,and_true]at hA)
 have u:=HB.o.below hB;have hc:=mq l k (by omega);rw[rR l k aA]at hc;have ai:k<(aB (jh l k)).length:=by rw[aI,gA l k (by omega)];omega
 have HE:=O (xi l (4*k) (by omega) (by omega) (by omega) (by omega));obtain⟨i,c1⟩:=u.ex ai;have f1:=u.free ai;have HS:=O (u.set k (.int .u32 (U (Ep l (4*k)))));have HC:=O hc;have a_:=O hB;clear u hc hB ai;go_wp2;rw[HE.o];refine⟨⟨k+1,by omega,by go_num,?_,(bt HW.o a_.o).setCell (I6 _) _⟩,by simp[intOf];omega⟩;have:=HS.o;rw[ie,HC.o]at this;exact this
):T:=h
theorem Au (l:q)(w:Z)(hl:64≤l.length):R_ 129 #[s_ l] w (.agg (aB (wl l 64)).toArray):=by
 have hz:=(zero_of_info (P:=prog) (t:=208) (v:=.agg (aB (jh l 0)).toArray) (n:=64) q_).1;go_enter func129,ntmps129;go_wp2;clear hz
 go_loopw [7] (fun t wx=>∃ k:Nat,k≤16∧t=F k∧Hid (Blk wx w.heap.size 208 (aB (jh l k)))∧Hid (Bw_ w wx)) (fun t _=>16-(intOf t).toNat)
 case atStart=>exact⟨0,by omega,rfl,Blk.new w _ _,af w _⟩
 case round =>
  obtain⟨k,hk,rfl,HB,HW⟩:=hrel
  by_cases aA:k<16
  ·exact L6
  ·have hk:k=16:=Y
   subst hk;go_wp2
   go_loopw [4] (fun t wx=>∃ k:Nat,16≤k∧k≤64∧t=F k∧Hid (Blk wx w.heap.size 208 (aB (jh l k)))∧Hid (Bw_ w wx)) (fun t _=>64-(intOf t).toNat)
   case atStart=>exact⟨16,by omega,by omega,rfl,HB,HW⟩
   case round =>
    obtain⟨k,hk,H,rfl,HB,HW⟩:=hrel
    by_cases aA:k<64
    ·have k1:(k:Int)<64:=Y
     have k0:=nn_ k;have x0:(0:Int)≤(k:Int)-15:=Y;have x1:(k:Int)-15<64:=Y;have y0:(0:Int)≤(k:Int)-2:=Y;have y1:(k:Int)-2<64:=Y;have z0:(0:Int)≤(k:Int)-16:=Y;have z1:(k:Int)-16<64:=Y;have v0:(0:Int)≤(k:Int)-7:=Y;have v1:(k:Int)-7<64:=Y;have g:=HB.o.cell (iL l k (k-15) Y Y);have c2:=HB.o.cell (iL l k (k-2) Y Y);have f:=HB.o.cell (iL l k (k-16) Y Y);have c7:=HB.o.cell (iL l k (k-7) Y Y);have hc:=mq l k Y;rw[pC l k hk]at hc;generalize (wl l k).getD (k-15) 0=a at *;generalize (wl l k).getD (k-2) 0=b at *;generalize (wl l k).getD (k-16) 0=c at *;generalize (wl l k).getD (k-7) 0=d at *;have HC:=O hc;clear hc;go_wp2;go_quiet (fail);go_wp2;refine aU 29 [(4,.exact Bel (.int .u32 (U c))),(6,.exact Bel (.int .u32 (U (dK a 7)))),(8,.exact Bel (.int .u32 (U (dK a 18)))),(17,.exact Bel (.int .u32 (U d))),(20,.exact Bel (.int .u32 (U (dK b 17)))),(22,.exact Bel (.int .u32 (U (dK b 19))))] q_ q_ ?_;simp only[Jw,JE,Ju,JF];refine cG ?_;refine gj_ (fun w' G hB hS hG=>?_) ?_
     ·have cc:=IF (bt (II wr nq) hB) f
      go_simp;exact hG _ (Bel.refl _)
     refine gj_ (fun w' G hB hS hG=>?_) ?_
     ·go_simp
      exact aT hG (gq a 7 _ Y Y)
     refine gj_ (fun w' G hB hS hG=>?_) ?_
     ·go_simp
      exact aT hG (gq a 18 _ Y Y)
     refine gj_ (fun w' G hB hS hG=>?_) ?_
     ·have cc:=IF (bt (II wr nq) hB) c7
      go_simp;exact hG _ (Bel.refl _)
     refine gj_ (fun w' G hB hS hG=>?_) ?_
     ·go_simp
      exact aT hG (gq b 17 _ Y Y)
     refine gj_ (fun w' G hB hS hG=>?_) ?_
     ·go_simp
      exact aT hG (gq b 19 _ Y Y)
     (try simp only[fR,eE,eF,fQ,fP,eD,lI,iF,iX,iG,fV,fU,fT,fS])
     (intro w' hB hA;simp only[aD.all_some,IL,and_true]at hA)
     replace hB:=bt (II wr nq) hB;have u:=HB.o.below hB;have ai:k<(aB (jh l k)).length:=by rw[aI,gA l k Y];omega
     obtain⟨i,c1⟩:=u.ex ai;have f1:=u.free ai;have HS:=O (u.set k (.int .u32 (U (c+sg0 a+d+sg1 b))));have a_:=O hB;clear u hB ai;go_wp2;refine⟨?_,?measure⟩
     ·(repeat apply Exists.intro)
      refine⟨⟨k+1,by omega,by omega,by go_num,?_,(bt HW.o a_.o).setCell (I6 _) _⟩,rfl⟩;have:=HS.o;rw[ie,HC.o]at this;exact this
     case measure=>simp[intOf];omega
    ·have hk:k=64:=Y
     subst hk;rw[uD]at HB;have HI:=O (show(prog.info? 208).map (·.size)=some (aB (wl l 64)).length by rw[aI,dN];kernel_rfl);go_wp2_with first|(refine nw w.heap.size (aB (wl l 64)) HB.o (.array 64 167) rfl _ _ rfl rfl q_ rfl HI.o ?_)|(refine jw w.heap.size (aB (wl l 64)) (aB (wl l 64)) HB.o rfl _ _ _ rfl rfl rfl HI.o rfl (fZ _) ?_)
     refine bodyPost_ret (rf rfl rfl (HB.o.row _) (.array 64 167) q_ rfl HI.o) rfl ⟨rfl,eU HW.o (I6 _) _⟩
theorem Fc (x:UInt32):(0xFFFFFFFF:UInt32) ^^^ x = ~~~x:=by
 apply UInt32.toBitVec_inj.1;simp only[UInt32.toBitVec_xor,UInt32.toBitVec_not];exact BitVec.allOnes_xor
theorem Gf (x:UInt32):bits .xor .u32 (if IntKind.u32.signed=true then -1 else IntKind.u32.max) (U x)=U (~~~x):=by
 have e:(if IntKind.u32.signed=true then -1 else IntKind.u32.max:Int)=U 0xFFFFFFFF:=rfl;rw[e,iF,Fc]
def iw:LW_:=[
  0x428a2f98,0x71374491,0xb5c0fbcf,0xe9b5dba5,0x3956c25b,0x59f111f1,0x923f82a4,0xab1c5ed5,
  0xd807aa98,0x12835b01,0x243185be,0x550c7dc3,0x72be5d74,0x80deb1fe,0x9bdc06a7,0xc19bf174,
  0xe49b69c1,0xefbe4786,0x0fc19dc6,0x240ca1cc,0x2de92c6f,0x4a7484aa,0x5cb0a9dc,0x76f988da,
  0x983e5152,0xa831c66d,0xb00327c8,0xbf597fc7,0xc6e00bf3,0xd5a79147,0x06ca6351,0x14292967,
  0x27b70a85,0x2e1b2138,0x4d2c6dfc,0x53380d13,0x650a7354,0x766a0abb,0x81c2c92e,0x92722c85,
  0xa2bfe8a1,0xa81a664b,0xc24b8b70,0xc76c51a3,0xd192e819,0xd6990624,0xf40e3585,0x106aa070,
  0x19a4c116,0x1e376c08,0x2748774c,0x34b0bcb5,0x391c0cb3,0x4ed8aa4a,0x5b9cca4f,0x682e6ff3,
  0x748f82ee,0x78a5636f,0x84c87814,0x8cc70208,0x90befffa,0xa4506ceb,0xbef9a3f7,0xc67178f2]
theorem wv:iw.length=64:=rfl
def h0:LW_:=[0x6a09e667,0xbb67ae85,0x3c6ef372,0xa54ff53a,0x510e527f,0x9b05688c,0x1f83d9ab,0x5be0cd19]
def iI (n:Nat):LW_:=List.replicate n 0
def tC (e f g h k w:UInt32):UInt32:=h+(dK e 6 ^^^ dK e 11 ^^^ dK e 25)+((e &&& f) ^^^ (~~~e &&& g))+k+w
def CO (a b c:UInt32):UInt32:=(dK a 2 ^^^ dK a 13 ^^^ dK a 22)+((a &&& b) ^^^ (a &&& c) ^^^ (b &&& c))
def step (k w:UInt32):LW_→LW_
 | [a,b,c,d,e,f,g,h]=>[tC e f g h k w+CO a b c,a,b,c,d+tC e f g h k w,e,f,g]
 | v=>v
def fG (w h:LW_):Nat→LW_
 | 0=>h
 | t+1=>step (iw.getD t 0) (w.getD t 0) (fG w h t)
def jg (h:LW_)(b:q):LW_:=List.zipWith (·+·) h (fG (wl b 64) h 64)
theorem uQ (k w:UInt32)(v:LW_)(h:v.length=8):(step k w v).length=8:=by
 match v,h with
 | [a,b,c,d,e,f,g,h],_=>rfl
theorem eu (w h:LW_)(hl:h.length=8)(t:Nat):(fG w h t).length=8:=by
 induction t with
 | zero=>exact hl
 | succ t H=>exact uQ _ _ _ H
theorem fc (h:LW_)(b:q)(hl:h.length=8):(jg h b).length=8:=by simp[jg,eu _ h hl,hl]
theorem qS (v:LW_)(h:v.length=8):∃ a b c d e f g k,v=[a,b,c,d,e,f,g,k]:=by
 match v,h with
 | [a,b,c,d,e,f,g,h],_=>exact⟨a,b,c,d,e,f,g,h,rfl⟩
theorem CJ (l:LW_)(k n:Nat)(hn:l.length=n)(h:k<n):(aB l)[k]?=some (.int .u32 (U (l.getD k 0))):=by
 subst hn;rw[rU l k h,List.getD_eq_getElem?_getD,List.getElem?_eq_getElem h,Option.getD_some]
def aL (h:LW_)(rest:q)(n:Int):LV_:=aB h++[.string (bs rest),.int .u64 n]
theorem sJ (h:LW_)(rest:q)(n:Int)(k:Nat)(hl:h.length=8)(hk:k<8):(aL h rest n)[k]?=some (.int .u32 (U (h.getD k 0))):=by
 rw[aL,List.getElem?_append_left yzu];exact CJ h k 8 hl hk
theorem cY (h:LW_)(rest:q)(n:Int)(hl:h.length=8):(aL h rest n).length=10:=by simp[aL,aI,hl]
theorem dU (h:LW_)(rest:q)(n:Int)(hl:h.length=8):(aL h rest n)[8]?=some (s_ rest):=by
 rw[aL,List.getElem?_append_right yzu,aI,hl];rfl
theorem kQ (h:LW_)(rest:q)(n:Int)(hl:h.length=8):(aL h rest n)[9]?=some (.int .u64 n):=by
 rw[aL,List.getElem?_append_right yzu,aI,hl];rfl
theorem yX (h:LW_)(rest:q)(n:Int)(k:Nat)(x:UInt32)(hl:h.length=8)(hk:k<8):(aL h rest n).set k (.int .u32 (U x))=aL (h.set k x) rest n:=by
 rw[aL,List.set_append_left _ _ yzu,ie];rfl
theorem kP (h:LW_)(rest r':q)(n:Int)(hl:h.length=8):(aL h rest n).set 8 (s_ r')=aL h r' n:=by
 rw[aL,List.set_append_right _ _ yzu,aI,hl];rfl
theorem wI (h:LW_)(rest:q)(n S:Int)(hl:h.length=8):(aL h rest n).set 9 (.int .u64 S)=aL h rest S:=by
 rw[aL,List.set_append_right _ _ yzu,aI,hl];rfl
def kg (h v:LW_)(k:Nat):LW_:=List.zipWith (·+·) (h.take k) (v.take k)++h.drop k
theorem zu (h v:LW_):kg h v 0=h:=by simp[kg]
theorem Cj (h v:LW_)(hl:h.length=8)(hv:v.length=8):kg h v 8=List.zipWith (·+·) h v:=by
 simp[kg,I5 (Nat.le_of_eq hl),I5 (Nat.le_of_eq hv),List.drop_of_length_le (Nat.le_of_eq hl)]
theorem fO (h v:LW_)(hl:h.length=8)(hv:v.length=8)(k:Nat)(hk:k≤8):(kg h v k).length=8:=by
 simp[kg,hl,hv];omega
theorem zv (h v:LW_)(hl:h.length=8)(hv:v.length=8)(k:Nat)(hk:k<8):(kg h v k).getD k 0=h.getD k 0∧(kg h v k).set k (h.getD k 0+v.getD k 0)=kg h v (k+1):=by
 obtain⟨a,b,c,d,e,f,g,i,rfl⟩:=qS h hl;obtain⟨a',b',c',m,e',K,D,u,rfl⟩:=qS v hv
 match k,hk with
 | 0,_|1,_|2,_|3,_|4,_|5,_|6,_|7,_=>exact⟨rfl,rfl⟩
theorem AR (w:Z):R_ 130 #[] w (.agg (aB iw).toArray):=by
 have hz:=(zero_of_info (P:=prog) (t:=208) (v:=.agg (aB (iI 64)).toArray) (n:=64) q_).1;go_enter func130,ntmps130;have HN:=O (Blk.new w (aB (iI 64)) 208);have HI:=O (show(prog.info? 208).map (·.size)=some (aB iw).length by kernel_rfl);go_wp2_with first|(refine lG (aB iw) rfl _ _ rfl q_ ?_)|(refine jw w.heap.size (aB (iI 64)) (aB iw) HN.o rfl _ _ _ rfl rfl rfl HI.o rfl (fZ _) ?_)
 refine bodyPost_ret (rf rfl rfl (HN.o.row _) (.array 64 167) q_ rfl HI.o) rfl ⟨rfl,eU (af w _) (I6 _) _⟩
theorem D5 (V:LW_)(hV:V.length=8)(k:Nat)(hk:k<8)(w:Z):(Instr.index 168 (.agg (aB V).toArray) (F k)).run prog w=.ok (.int .u32 (U (V.getD k 0))) w:=by
 obtain⟨a,b,c,d,e,f,g,i,rfl⟩:=qS V hV;rcases(by omega:k=0∨k=1∨k=2∨k=3∨k=4∨k=5∨k=6∨k=7) with rfl|rfl|rfl|rfl|rfl|rfl|rfl|rfl
 all_goals clear hk hV
 all_goals kernel_rfl
def sc (d:Bool)(v:V_):V_:=bif d then v else undef
@[go_sem] theorem EV (v:V_):sc true v=v:=rfl
@[go_sem] theorem Hr (v:V_):sc false v=undef:=rfl
def BI (w0 w:Z)(t64 t8:T_)(W A:LW_)(d7 d8 d9 d10 d11 d12:Bool)(b4 b5 b6:Nat):Prop :=
 Bw_ w0 w∧(d7=true→w0.heap.size≤b4∧Blk w b4 t64 (aB (bif d10 then W else iI 64)))∧(d8=true→w0.heap.size≤b5∧Blk w b5 t64 (aB (bif d11 then iw else iI 64))) ∧
  (d9=true→w0.heap.size≤b6∧Blk w b6 t8 (aB (bif d12 then A else iI 8)))∧(d7=true→d8=true→b4≠b5)∧(d7=true→d9=true→b4≠b6)∧(d8=true→d9=true→b5≠b6) ∧
  (d10=true→d7=true)∧(d11=true→d8=true)∧(d12=true→d9=true)
section
variable {w0 w:Z}{t64 t8:T_}{W A:LW_}{d7 d8 d9 d10 d11 d12:Bool}{b4 b5 b6:Nat}
theorem BI.below {w':Z}(h:BI w0 w t64 t8 W A d7 d8 d9 d10 d11 d12 b4 b5 b6)(hB:Bw_ w w'):BI w0 w' t64 t8 W A d7 d8 d9 d10 d11 d12 b4 b5 b6:=by
 obtain⟨h0,h1,h2,h3,h4⟩:=h;exact⟨bt h0 hB,fun e=>⟨(h1 e).1,(h1 e).2.below hB⟩,fun e=>⟨(h2 e).1,(h2 e).2.below hB⟩,fun e=>⟨(h3 e).1,(h3 e).2.below hB⟩,h4⟩
theorem ff {d:Bool}(h:d=true→false=true):d=false:=by cases d<;>simp_all
theorem BI.alloc4 (h:BI w0 w t64 t8 W A false d8 d9 d10 d11 d12 b4 b5 b6):BI w0 (w.alloc (.cells (aB (iI 64)).toArray t64)) t64 t8 W A true d8 d9 d10 d11 d12 w.heap.size b5 b6:=by
 have hb:=BI.below h (af w (.cells (aB (iI 64)).toArray t64));obtain⟨h0,h1,h2,h3,h4,h5,h6,h7,q,h9⟩:=h;obtain rfl:=ff h7;exact⟨hb.1,fun _=>⟨h0.size,Blk.new _ _ _⟩,hb.2.2.1,hb.2.2.2.1,fun _ e=>Nat.ne_of_gt (h2 e).2.lt,fun _ e=>Nat.ne_of_gt (h3 e).2.lt,h6,fun e=>yzp,q,h9⟩
theorem BI.alloc5 (h:BI w0 w t64 t8 W A d7 false d9 d10 d11 d12 b4 b5 b6):BI w0 (w.alloc (.cells (aB (iI 64)).toArray t64)) t64 t8 W A d7 true d9 d10 d11 d12 b4 w.heap.size b6:=by
 have hb:=BI.below h (af w (.cells (aB (iI 64)).toArray t64));obtain⟨h0,h1,h2,h3,h4,h5,h6,h7,q,h9⟩:=h;obtain rfl:=ff q;exact⟨hb.1,hb.2.1,fun _=>⟨h0.size,Blk.new _ _ _⟩,hb.2.2.2.1,fun e _=>Nat.ne_of_lt (h1 e).2.lt,h5,fun _ e=>Nat.ne_of_gt (h3 e).2.lt,h7,fun e=>yzp,h9⟩
theorem BI.alloc6 (h:BI w0 w t64 t8 W A d7 d8 false d10 d11 d12 b4 b5 b6):BI w0 (w.alloc (.cells (aB (iI 8)).toArray t8)) t64 t8 W A d7 d8 true d10 d11 d12 b4 b5 w.heap.size:=by
 have hb:=BI.below h (af w (.cells (aB (iI 8)).toArray t8));obtain⟨h0,h1,h2,h3,h4,h5,h6,h7,q,h9⟩:=h;obtain rfl:=ff h9;exact⟨hb.1,hb.2.1,hb.2.2.1,fun _=>⟨h0.size,Blk.new _ _ _⟩,h4,fun e _=>Nat.ne_of_lt (h1 e).2.lt,fun e _=>Nat.ne_of_lt (h2 e).2.lt,h7,q,fun e=>yzp⟩
theorem Blk.other {w:Z}{b b':Nat}{t:T_}{cs:LV_}(h:Blk w b t cs)(aI:b'≠b)(g:AV_):Blk (w.setRow b' g) b t cs:=by
 unfold Blk;rw[iA w b' g b (Ne.symm aI)];exact h
theorem BI.store4 (h:BI w0 w t64 t8 W A true d8 d9 d10 d11 d12 b4 b5 b6):BI w0 (w.setRow b4 (aB W).toArray) t64 t8 W A true d8 d9 true d11 d12 b4 b5 b6:=by
 obtain⟨h0,h1,h2,h3,h4,h5,h6,h7,q,h9⟩:=h;exact⟨eU h0 (h1 rfl).1 _,fun _=>⟨(h1 rfl).1,(h1 rfl).2.row _⟩,fun e=>⟨(h2 e).1,(h2 e).2.other (h4 rfl e) _⟩,fun e=>⟨(h3 e).1,(h3 e).2.other (h5 rfl e) _⟩,h4,h5,h6,fun _=>rfl,q,h9⟩
theorem BI.store5 (h:BI w0 w t64 t8 W A d7 true d9 d10 d11 d12 b4 b5 b6):BI w0 (w.setRow b5 (aB iw).toArray) t64 t8 W A d7 true d9 d10 true d12 b4 b5 b6:=by
 obtain⟨h0,h1,h2,h3,h4,h5,h6,h7,q,h9⟩:=h;exact⟨eU h0 (h2 rfl).1 _,fun e=>⟨(h1 e).1,(h1 e).2.other (Ne.symm (h4 e rfl)) _⟩,fun _=>⟨(h2 rfl).1,(h2 rfl).2.row _⟩,fun e=>⟨(h3 e).1,(h3 e).2.other (h6 rfl e) _⟩,h4,h5,h6,h7,fun _=>rfl,h9⟩
theorem BI.store6 (h:BI w0 w t64 t8 W A d7 d8 true d10 d11 d12 b4 b5 b6):BI w0 (w.setRow b6 (aB A).toArray) t64 t8 W A d7 d8 true d10 d11 true b4 b5 b6:=by
 obtain⟨h0,h1,h2,h3,h4,h5,h6,h7,q,h9⟩:=h;exact⟨eU h0 (h3 rfl).1 _,fun e=>⟨(h1 e).1,(h1 e).2.other (Ne.symm (h5 e rfl)) _⟩,fun e=>⟨(h2 e).1,(h2 e).2.other (Ne.symm (h6 e rfl)) _⟩,fun _=>⟨(h3 rfl).1,(h3 rfl).2.row _⟩,h4,h5,h6,h7,q,fun _=>rfl⟩
end
def Iz (w0:Z)(p:Nat)(l:q)(h:LW_)(s:Array Bool)(a:Act)(w:Z):Prop :=
 ∃ d0 d1 d2 d3 d4 d5 d6 d7 d8 d9 d10 d11 d12:Bool,∃ b4 b5 b6:Nat,s=#[d0,d1,d2,d3,d4,d5,d6,d7,d8,d9,d10,d11,d12] ∧
  a={ tmps:=List.toArray ((p_ p)::(.string (bs l))::undef::undef::(sc d7 (p_ b4))::(sc d8 (p_ b5))::(sc d9 (p_ b6))::undef::undef::undef::undef::undef::undef::undef::undef::undef::undef::undef::(sc d0 (.string (bs l)))::(sc d1 (.agg (aB (wl l 64)).toArray))::(sc d2 (.agg (aB iw).toArray))::(sc d3 (p_ p))::(sc d4 (p_ p))::(sc d5 (p_ p))::(sc d6 (.agg (aB h).toArray))::undef::undef::undef::undef::undef::undef::undef::undef::undef::undef::undef::undef::undef::undef::undef::undef::undef::undef::undef::undef::undef::undef::undef::undef::undef::undef::undef::undef::undef::undef::undef::undef::undef::undef::undef::undef::undef::undef::undef::undef::undef::undef::undef::undef::undef::undef::undef::undef::undef::undef::undef::undef::undef::undef::undef::undef::undef::undef::undef::undef::undef::undef::undef::undef::undef::undef::undef::undef::undef::undef::undef::undef::undef::undef::undef::undef::undef::undef::undef::undef::undef::undef::undef::undef::undef::undef::undef::undef::undef::undef::undef::undef::undef::undef::undef::[]),defers:=[] }∧Hid (BI w0 w 208 168 (wl l 64) h d7 d8 d9 d10 d11 d12 b4 b5 b6)
theorem s5 (p:Nat)(h:LW_)(hl:h.length=8)(rest:q)(n:Int)(l:q)(M:64≤l.length)(w:Z)(hB:Blk w p 170 (aL h rest n)):C_ 92 #[p_ p,s_ l] w fun e w'=>e=.returned (.tuple #[])∧Blk w' p 170 (aL (jg h l) rest n)∧Chg (·=p) w w':=by
 have ag:=(zero_of_info (P:=prog) (t:=208) (v:=.agg (aB (iI 64)).toArray) (n:=64) q_).1;have ad:=(zero_of_info (P:=prog) (t:=168) (v:=.agg (aB (iI 8)).toArray) (n:=8) q_).1;obtain⟨HB,ah,HL⟩:=zH3 hB M hl;have H8:=O (show(prog.info? 168).map (·.size)=some (aB h).length by rw[aI,hl];kernel_rfl);have aA:=O (show(prog.info? 208).map (·.size)=some (aB (wl l 64)).length by rw[aI,dN];kernel_rfl);have IK:=O (show(prog.info? 208).map (·.size)=some (aB iw).length by kernel_rfl);clear hB;go_enter func92,ntmps92;go_wp2;refine pW (Iz w p l h) q_ q_ ⟨false,false,false,false,false,false,false,false,false,false,false,false,false,0,0,0,rfl,rfl,?_⟩ ?_ ?_
 ·exact⟨b_drew w,fun e=>yzp,fun e=>yzp,fun e=>yzp,fun e=>yzp,fun e=>yzp,fun e=>yzp,fun e=>yzp,fun e=>yzp,fun e=>yzp⟩
 ·intro s a wx hI hs B
  obtain⟨d0,d1,d2,d3,d4,d5,d6,d7,d8,d9,d10,d11,d12,b4,b5,b6,rfl,rfl,i⟩:=hI;have e0:d0=true:=by simpa using B 0 d_
  have e1:d1=true:=by simpa using B 1 d_
  have e2:d2=true:=by simpa using B 2 d_
  have e3:d3=true:=by simpa using B 3 d_
  have e4:d4=true:=by simpa using B 4 d_
  have e5:d5=true:=by simpa using B 5 d_
  have e6:d6=true:=by simpa using B 6 d_
  have e7:d7=true:=by simpa using B 7 d_
  have e8:d8=true:=by simpa using B 8 d_
  have e9:d9=true:=by simpa using B 9 d_
  have af:d10=true:=by simpa using B 10 d_
  have D:d11=true:=by simpa using B 11 d_
  have ak:d12=true:=by simpa using B 12 d_
  simp only[e0,e1,e2,e3,e4,e5,e6,e7,e8,e9,af,D,ak,EV]at i⊢;clear e0 e1 e2 e3 e4 e5 e6 e7 e8 e9 af D ak B hs;obtain⟨hw,h4,h5,h6,aC,an,ao,-⟩:=i.o;have B4:Hid (Blk wx b4 208 (aB (wl l 64))):=(h4 rfl).2;have B5:Hid (Blk wx b5 208 (aB iw)):=(h5 rfl).2;have B6:Hid (Blk wx b6 168 (aB h)):=(h6 rfl).2;have BP:=O (HB.o.below hw);have aG:Hid (b4≠b6):=an rfl rfl;have aH:Hid (b5≠b6):=ao rfl rfl;have NP:Hid (p≠b6):=(by have:=HB.o.lt;have:=(h6 rfl).1;show p≠b6;omega)
  have HW:=O hw;have cW:=O (h6 rfl).1;clear hw h4 h5 h6 aC an ao i ag ad d0 d1 d2 d3 d4 d5 d6 d7 d8 d9 d10 d11 d12;go_wp2
  go_loopw [25] (fun t ux=>∃ k:Nat,k≤64∧t=F k∧Hid (Blk ux b6 168 (aB (fG (wl l 64) h k)))∧Hid (Chg (·=b6) wx ux)) (fun t _=>64-(intOf t).toNat)
  case atStart=>exact⟨0,by omega,rfl,B6,Chg.refl _ _⟩
  case round =>
   obtain⟨k,hk,rfl,bn,cd⟩:=hrel
   by_cases ac:k<64
   ·have k1:(k:Int)<64:=Y
    have k0:=nn_ k;have ab:fG (wl l 64) h (k+1)=step (iw.getD k 0) ((wl l 64).getD k 0) (fG (wl l 64) h k):=rfl;obtain⟨v0,v1,v2,v3,m,v5,E,X,hv⟩:=qS _ (eu (wl l 64) h HL.o k);rw[hv]at bn ab;obtain⟨c0,c1,c2,c3,c4,c5,c6,c7⟩:=cl8 bn.o;have cw:=(B4.o.chg cd.o aG.o).cell (CJ (wl l 64) k 64 (dN l 64) ac);have ck:=(B5.o.chg cd.o aH.o).cell (CJ iw k 64 rfl ac);generalize (wl l 64).getD k 0=ww at *;generalize iw.getD k 0=kk at *;have aY:=O ab;clear ab hv;go_wp2;go_quiet (fail);go_wp2;refine rk_ [(1,.exact Bel (.int .u32 (U X))),(3,.exact Bel (.int .u32 (U (dK m 6)))),(5,.exact Bel (.int .u32 (U (dK m 11)))),(8,.exact Bel (.int .u32 (U (dK m 25)))),(22,.exact Bel (.int .u32 (U kk))),(26,.exact Bel (.int .u32 (U ww)))] ?_;refine cG ?_;refine gj_ (fun w' G hB hS hG=>?_) ?_
    ·have cc:=IF (bt (II wr nq) hB) c7
     go_simp;exact hG _ (Bel.refl _)
    refine gj_ (fun w' G hB hS hG=>?_) ?_
    ·go_simp
     exact aT hG (gq m 6 _ Y Y)
    refine gj_ (fun w' G hB hS hG=>?_) ?_
    ·go_simp
     exact aT hG (gq m 11 _ Y Y)
    refine gj_ (fun w' G hB hS hG=>?_) ?_
    ·go_simp
     exact aT hG (gq m 25 _ Y Y)
    refine gj_ (fun w' G hB hS hG=>?_) ?_
    ·have cc:=IF (bt (II wr nq) hB) ck
     go_simp;exact hG _ (Bel.refl _)
    refine gj_ (fun w' G hB hS hG=>?_) ?_
    ·have cc:=IF (bt (II wr nq) hB) cw
     go_simp;exact hG _ (Bel.refl _)
    simp only[Gf]
    (try simp only[fR,eE,eF,fQ,fP,eD,lI,iF,iX,iG,fV,fU,fT,fS])
    have I:X+(dK m 6 ^^^ dK m 11 ^^^ dK m 25)+(m &&& v5 ^^^ ~~~m &&& E)+kk+ww=tC m v5 E X kk ww:=rfl;rw[I];clear I
    (intro w' hB hA;simp only[aD.all_some,IL,and_true]at hA)
    have r:=O (bt (II wr nq) hB);clear hB c0 c1 c2 c4 c5 c6 c7 cw ck hA;go_wp2_with fail;refine(gq v0 2 _ Y Y).mono ?_;rintro e w2⟨rfl,ax⟩;go_wp2_with fail;refine(gq v0 13 _ Y Y).mono ?_;rintro e w3⟨rfl,al⟩;go_wp2_with fail;refine(gq v0 22 _ Y Y).mono ?_;rintro e w4⟨rfl,aQ⟩;have N:=bt (bt (bt r.o ax) al) aQ;replace c3:=IF N c3;have ar:=O (bn.o.below N);have au:=O (cd.o.trans (IG N));clear N r ax al aQ;obtain⟨NL,b⟩:∃ NL:LW_,NL=[tC m v5 E X kk ww+CO v0 v1 v2,v0,v1,v2,v3+tC m v5 E X kk ww,m,v5,E]:=⟨_,rfl⟩
    have I8:=O (show(prog.info? 168).map (·.size)=some (aB NL).length by rw[b];kernel_rfl);have L8:=O (show(aB [v0,v1,v2,v3,m,v5,E,X]).length=(aB NL).length by rw[b];rfl);have aw:=O (show fG (wl l 64) h (k+1)=NL by rw[aY.o,b];rfl);have cx:=O b;clear b;go_wp2_with first|(refine lG (aB NL) rfl _ _ rfl (by rw[cx.o];kernel_rfl) ?_;refine jw b6 (aB [v0,v1,v2,v3,m,v5,E,X]) (aB NL) ar.o rfl 168 (.tmp 6) (.tmp 101) rfl rfl rfl I8.o L8.o (fZ _) ?_)
    refine⟨⟨k+1,by omega,by go_num,?_,au.o.trans (qW _ _ _ rfl)⟩,by simp[intOf];omega⟩;rw[aw.o];exact ar.o.row _
   ·have hk:k=64:=Y
    subst hk;have ay:=O (show(prog.info? 168).map (·.size)=some (aB (fG (wl l 64) h 64)).length by rw[aI,eu _ _ HL.o];kernel_rfl);have aj:Hid (Blk wr p 170 (aL h rest n)):=BP.o.chg cd.o NP.o;have ae:=O (eu (wl l 64) h HL.o 64);obtain⟨V,hV⟩:=H (fG (wl l 64) h 64);rw[←hV]at bn ay ae;have HV:=O hV;clear hV;go_wp2_with (refine nw b6 (aB V) bn.o (.array 8 167) rfl _ _ rfl rfl q_ rfl ay.o ?_)
    go_loopw [104] (fun t ux=>∃ k:Nat,k≤8∧t=F k∧Hid (Blk ux p 170 (aL (kg h V k) rest n))∧Hid (Chg (·=p) wr ux)) (fun t _=>8-(intOf t).toNat)
    case atStart=>exact⟨0,by omega,rfl,(by rw[zu];exact aj),Chg.refl _ _⟩
    case round =>
     obtain⟨k,hk,rfl,aa,az⟩:=hrel
     by_cases J:k<8
     ·have k1:(k:Int)<8:=Y
      have k0:=nn_ k;obtain⟨av,aF⟩:=zv h V HL.o ae.o k J;have cp:=aa.o.cell (sJ (kg h V k) rest n k (fO h V HL.o ae.o k hk) J);have fp:=aa.o.free (k:=k) (by rw[cY _ _ _ (fO h V HL.o ae.o k hk)];omega);have f:=D5 V ae.o k J;rw[av]at cp;generalize h.getD k 0=hh at *;generalize V.getD k 0=vk at *;have HA:=O aF;clear aF av;go_wp2;refine aU 11 [(2,.exact Bel (p_ p)),(5,.exact Bel (.int .u32 (U hh))),(8,.exact Bel (p_ p))] q_ q_ ?_;simp only[Jw,JE,Ju,JF];refine cG ?_;refine gj_ (fun w' G hB hS hG=>?_) ?_
      ·go_simp
       exact hG _ (Bel.refl _)
      refine gl_ cp ?_;refine gj_ (fun w' G hB hS hG=>?_) ?_
      ·go_simp
       exact hG _ (Bel.refl _)
      (try simp only[fR,eE,eF,fQ,fP,eD,lI,iF,iX,iG,fV,fU,fT,fS])
      (intro w' hB hA;simp only[aD.all_some,IL,and_true]at hA)
      have u:=aa.o.below hB;replace cp:=u.cell (sJ (kg h V k) rest n k (fO h V HL.o ae.o k hk) J);replace fp:=u.free (k:=k) (by rw[cY _ _ _ (fO h V HL.o ae.o k hk)];omega);have HS:=O (u.set k (.int .u32 (U (hh+vk))));have aJ:=O (az.o.trans (IG hB));clear u hB hA f;go_wp2;refine⟨⟨k+1,by omega,by go_num,?_,aJ.o.trans (Chg.setCell _ _ _ rfl)⟩,by simp[intOf];omega⟩;have:=HS.o;rw[yX _ _ _ _ _ (fO h V HL.o ae.o k hk) J,HA.o]at this;exact this
     ·have hk:k=8:=Y
      subst hk;have HF:Hid (Blk wr p 170 (aL (jg h l) rest n)):=(by have:=aa.o;rw[Cj h V HL.o ae.o,HV.o]at this;exact this)
      go_wp2;refine bodyPost_end (results_none rfl _ _ _) rfl ?_;exact⟨rfl,HF.o,(IG (HW.o.trans (cd.o.below (fun k e=>e▸cW.o) HW.o.size))).trans az.o⟩
 refine⟨fun s a wx hI hd d=>?_,fun s a wx hI hd d=>?_,fun s a wx hI hd d=>?_,fun s a wx hI hd d=>?_,fun s a wx hI hd d=>?_,fun s a wx hI hd d=>?_,fun s a wx hI hd d=>?_,fun s a wx hI hd d=>?_,fun s a wx hI hd d=>?_,fun s a wx hI hd d=>?_,fun s a wx hI hd d=>?_,fun s a wx hI hd d=>?_,fun s a wx hI hd d=>?_,trivial⟩
 ·obtain⟨d0,d1,d2,d3,d4,d5,d6,d7,d8,d9,d10,d11,d12,b4,b5,b6,rfl,rfl,i⟩:=hI
  obtain rfl:d0=false:=by simpa using hd
  rw[if_pos yzf];unfold Oper.wp;go_simp;exact⟨true,d1,d2,d3,d4,d5,d6,d7,d8,d9,d10,d11,d12,b4,b5,b6,rfl,rfl,i⟩
 ·obtain⟨d0,d1,d2,d3,d4,d5,d6,d7,d8,d9,d10,d11,d12,b4,b5,b6,rfl,rfl,i⟩:=hI
  obtain rfl:d1=false:=by simpa using hd
  simp[Region.binds]at d;have e0:d0=true:=by simp[d]
  clear d;simp only[e0]at i⊢;rw[if_pos yzf];unfold Oper.wp;go_simp;refine(Au l wx ah.o).mono ?_;rintro e w2⟨rfl,ax⟩;exact⟨true,true,d2,d3,d4,d5,d6,d7,d8,d9,d10,d11,d12,b4,b5,b6,rfl,rfl,i.o.below ax⟩
 ·obtain⟨d0,d1,d2,d3,d4,d5,d6,d7,d8,d9,d10,d11,d12,b4,b5,b6,rfl,rfl,i⟩:=hI
  obtain rfl:d2=false:=by simpa using hd
  simp[Region.binds]at d;have e1:d1=true:=by simp[d]
  clear d;simp only[e1]at i⊢;rw[if_pos yzf];unfold Oper.wp;go_simp;refine(AR wx).mono ?_;rintro e w2⟨rfl,ax⟩;exact⟨d0,true,true,d3,d4,d5,d6,d7,d8,d9,d10,d11,d12,b4,b5,b6,rfl,rfl,i.o.below ax⟩
 ·obtain⟨d0,d1,d2,d3,d4,d5,d6,d7,d8,d9,d10,d11,d12,b4,b5,b6,rfl,rfl,i⟩:=hI
  obtain rfl:d3=false:=by simpa using hd
  rw[if_pos yzf];unfold Oper.wp;go_simp;exact⟨d0,d1,d2,true,d4,d5,d6,d7,d8,d9,d10,d11,d12,b4,b5,b6,rfl,rfl,i⟩
 ·obtain⟨d0,d1,d2,d3,d4,d5,d6,d7,d8,d9,d10,d11,d12,b4,b5,b6,rfl,rfl,i⟩:=hI
  obtain rfl:d4=false:=by simpa using hd
  simp[Region.binds]at d;have e3:d3=true:=by simp[d]
  clear d;simp only[e3]at i⊢;rw[if_pos yzf];unfold Oper.wp;go_simp;exact⟨d0,d1,d2,true,true,d5,d6,d7,d8,d9,d10,d11,d12,b4,b5,b6,rfl,rfl,i⟩
 ·obtain⟨d0,d1,d2,d3,d4,d5,d6,d7,d8,d9,d10,d11,d12,b4,b5,b6,rfl,rfl,i⟩:=hI
  obtain rfl:d5=false:=by simpa using hd
  simp[Region.binds]at d;have e4:d4=true:=by simp[d]
  clear d;simp only[e4]at i⊢;rw[if_pos yzf];unfold Oper.wp;go_simp;exact⟨d0,d1,d2,d3,true,true,d6,d7,d8,d9,d10,d11,d12,b4,b5,b6,rfl,rfl,i⟩
 ·obtain⟨d0,d1,d2,d3,d4,d5,d6,d7,d8,d9,d10,d11,d12,b4,b5,b6,rfl,rfl,i⟩:=hI
  obtain rfl:d6=false:=by simpa using hd
  simp[Region.binds]at d;have e5:d5=true:=by simp[d]
  clear d;simp only[e5]at i⊢;rw[if_pos yzf]
  have hr:wx.rangeAt p 0 (aB h):=fun j v hv=>by
   have hj:j<8:=by have:=(List.getElem?_eq_some_iff.1 hv).1;rwa [aI,HL.o]at this
   rw[I9];refine(HB.o.below i.o.1).cell ?_;rw[aL,List.getElem?_append_left (by rw[aI,HL.o];exact hj)];exact hv
  refine wp_load_mid 168 _ rfl p 0 rfl (aB h) (.array 8 167) hr q_ rfl H8.o ?_;exact⟨d0,d1,d2,d3,d4,true,true,d7,d8,d9,d10,d11,d12,b4,b5,b6,rfl,rfl,i⟩
 ·obtain⟨d0,d1,d2,d3,d4,d5,d6,d7,d8,d9,d10,d11,d12,b4,b5,b6,rfl,rfl,i⟩:=hI
  obtain rfl:d7=false:=by simpa using hd
  rw[if_pos yzf];unfold Oper.wp;go_simp;exact⟨d0,d1,d2,d3,d4,d5,d6,true,d8,d9,d10,d11,d12,wx.heap.size,b5,b6,rfl,rfl,i.o.alloc4⟩
 ·obtain⟨d0,d1,d2,d3,d4,d5,d6,d7,d8,d9,d10,d11,d12,b4,b5,b6,rfl,rfl,i⟩:=hI
  obtain rfl:d8=false:=by simpa using hd
  rw[if_pos yzf];unfold Oper.wp;go_simp;exact⟨d0,d1,d2,d3,d4,d5,d6,d7,true,d9,d10,d11,d12,b4,wx.heap.size,b6,rfl,rfl,i.o.alloc5⟩
 ·obtain⟨d0,d1,d2,d3,d4,d5,d6,d7,d8,d9,d10,d11,d12,b4,b5,b6,rfl,rfl,i⟩:=hI
  obtain rfl:d9=false:=by simpa using hd
  rw[if_pos yzf];unfold Oper.wp;go_simp;exact⟨d0,d1,d2,d3,d4,d5,d6,d7,d8,true,d10,d11,d12,b4,b5,wx.heap.size,rfl,rfl,i.o.alloc6⟩
 ·obtain⟨d0,d1,d2,d3,d4,d5,d6,d7,d8,d9,d10,d11,d12,b4,b5,b6,rfl,rfl,i⟩:=hI
  obtain rfl:d10=false:=by simpa using hd
  simp[Region.binds]at d;have e7:d7=true:=by simp[d]
  have e1:d1=true:=by simp[d]
  have e2:d2=true:=by simp[d]
  have e0:d0=true:=by simp[d]
  have e8:d8=true:=by simp[d]
  have e9:d9=true:=by simp[d]
  clear d;simp only[e7,e1,e2,e0,e8,e9]at i⊢;rw[if_pos yzf];have ai:Blk wx b4 208 (aB (iI 64)):=(i.o.2.1 rfl).2;have g:(aB (iI 64)).toArray.size=(aB (wl l 64)).toArray.size:=by rw[List.size_toArray,List.size_toArray,aI,aI,dN];rfl
  have aK:(prog.info? 208).map (·.size)=some (aB (wl l 64)).toArray.size:=by rw[List.size_toArray];exact aA.o
  generalize aN:wl l 64=WL at *;refine wp_store_row 208 (.tmp 4) (.tmp 19) rfl b4 (aB WL).toArray rfl rfl 208 _ ai aK g (fZ _) ?_;subst aN;exact⟨true,true,true,d3,d4,d5,d6,true,true,true,true,d11,d12,b4,b5,b6,rfl,rfl,i.o.store4⟩
 ·obtain⟨d0,d1,d2,d3,d4,d5,d6,d7,d8,d9,d10,d11,d12,b4,b5,b6,rfl,rfl,i⟩:=hI
  obtain rfl:d11=false:=by simpa using hd
  simp[Region.binds]at d;have e8:d8=true:=by simp[d]
  have e2:d2=true:=by simp[d]
  have af:d10=true:=by simp[d]
  have e0:d0=true:=by simp[d]
  have e1:d1=true:=by simp[d]
  have e7:d7=true:=by simp[d]
  have e9:d9=true:=by simp[d]
  clear d;simp only[e8,e2,af,e0,e1,e7,e9]at i⊢;rw[if_pos yzf];refine wp_store_row 208 _ _ rfl b5 (aB iw).toArray rfl rfl 208 _ (i.o.2.2.1 rfl).2 (by rw[List.size_toArray];exact IK.o) rfl (fZ _) ?_;exact⟨true,true,true,d3,d4,d5,d6,true,true,true,true,true,d12,b4,b5,b6,rfl,rfl,i.o.store5⟩
 ·obtain⟨d0,d1,d2,d3,d4,d5,d6,d7,d8,d9,d10,d11,d12,b4,b5,b6,rfl,rfl,i⟩:=hI
  obtain rfl:d12=false:=by simpa using hd
  simp[Region.binds]at d;have e0:d0=true:=by simp[d]
  have e1:d1=true:=by simp[d]
  have e2:d2=true:=by simp[d]
  have e3:d3=true:=by simp[d]
  have e4:d4=true:=by simp[d]
  have e5:d5=true:=by simp[d]
  have e6:d6=true:=by simp[d]
  have e7:d7=true:=by simp[d]
  have e8:d8=true:=by simp[d]
  have e9:d9=true:=by simp[d]
  have af:d10=true:=by simp[d]
  have D:d11=true:=by simp[d]
  clear d;simp only[e0,e1,e2,e3,e4,e5,e6,e7,e8,e9,af,D]at i⊢;rw[if_pos yzf];refine wp_store_row 168 _ _ rfl b6 (aB h).toArray rfl rfl 168 _ (i.o.2.2.2.1 rfl).2 (by rw[List.size_toArray];exact H8.o) (by rw[List.size_toArray,List.size_toArray,aI,aI,HL.o];rfl) (fZ _) ?_;exact⟨true,true,true,true,true,true,true,true,true,true,true,true,true,b4,b5,b6,rfl,rfl,i.o.store6⟩
theorem FN (w:Z):C_ 62 #[] w fun e w'=>∃ b,e=.returned (p_ b)∧w.heap.size≤b∧Blk w' b 170 (aL h0 [] 0)∧Bw_ w w':=by
 go_enter func62,ntmps62;go_wp2_with (refine lG (aB h0) rfl _ _ rfl q_ ?_;refine lG (aL h0 [] 0) rfl _ _ rfl q_ ?_);go_ret;exact⟨_,rfl,I6 _,Blk.new _ _ _,af _ _⟩
theorem rd (p:Nat)(w:Z):C_ 91 #[p_ p] w fun e w'=>∃ b,e=.returned (.func (.func 128) #[] #[p_ b])∧w.heap.size≤b∧Blk w' b 127 [p_ p]∧Bw_ w w':=by
 have bl:∀ (fn:Fn) (first ah:AV_) (w:Z),(Instr.makeFunc fn first ah).run prog w=.ok (.func fn first ah) w:=fun _ _ _ _=>rfl;go_enter func91,ntmps91;go_wp2;go_ret;exact⟨_,rfl,I6 _,Blk.new _ _ _,af _ _⟩
def Ah:Nat→q→LL_
 | 0,_=>[]
 | n+1,l=>l.take 64::Ah n (l.drop 64)
def dq (l:q):LL_:=Ah (l.length / 64) l
def cJ (l:q):q:=l.drop (64*(l.length / 64))
def df (h:LW_)(l:q):LW_:=(dq l).foldl jg h
theorem iV (l:q)(h:64≤l.length):dq l=l.take 64::dq (l.drop 64):=by
 unfold dq;rw[JG,show l.length / 64=(l.length-64) / 64+1 by omega];rfl
theorem nh (l:q)(h:l.length<64):dq l=[]:=by
 unfold dq;rw[show l.length / 64=0 by omega];rfl
theorem pI (l:q)(h:64≤l.length):cJ l=cJ (l.drop 64):=by
 unfold cJ;rw[JG,Jv];congr 1;omega
theorem uN (l:q)(h:l.length<64):cJ l=l:=by
 unfold cJ;rw[show l.length / 64=0 by omega];rfl
theorem gU (l:q):(cJ l).length=l.length%64:=by
 unfold cJ;rw[JG];omega
theorem lS (b:q):∀ (n:Nat) (a:q),a.length=64*n→dq (a++b)=dq a++dq b∧cJ (a++b)=cJ b:=by
 intro n
 induction n with
 | zero =>
  intro a ha;obtain rfl:a=[]:=I7 Y;exact⟨rfl,rfl⟩
 | succ n H =>
  intro a ha;obtain⟨h1,h2⟩:=H (a.drop 64) (by rw[JG];omega);rw[iV (a++b) (by rw[Jh];omega),iV a Y,pI (a++b) (by rw[Jh];omega)];rw[List.drop_append_of_le_length Y,List.take_append_of_le_length Y,h1,h2];exact⟨rfl,rfl⟩
theorem uS (t:q):∃ a,t=a++cJ t∧a.length=64*(t.length / 64):=by
 refine⟨t.take (64*(t.length / 64)),?_,?_⟩
 ·unfold cJ;rw[List.take_append_drop]
 ·rw[JH];omega
theorem pd (h:LW_)(t s:q):df (df h t) (cJ t++s)=df h (t++s)∧cJ (cJ t++s)=cJ (t++s):=by
 obtain⟨a,h1,h2⟩:=uS t;have e1:=lS (cJ t++s) _ a h2;have e2:=lS (cJ t) _ a h2;rw[←Jg,←h1]at e1;rw[←h1]at e2;have hs:dq (cJ t)=[]:=nh _ (by rw[gU];omega);unfold df;rw[e1.1,e2.1,hs,Jy,List.foldl_append];exact⟨rfl,e1.2.symm⟩
theorem gy (h:LW_)(l:q)(hl:h.length=8):(df h l).length=8:=by
 unfold df;generalize dq l=c
 induction c generalizing h with
 | nil=>exact hl
 | cons x c H=>exact H _ (fc h x hl)
theorem dz (h:LW_)(c:LL_)(hl:h.length=8):(c.foldl jg h).length=8:=by
 induction c generalizing h with
 | nil=>exact hl
 | cons x c H=>exact H _ (fc h x hl)
def zc (n:Nat):Nat:=(119-n%64)%64
def be8 (n:Nat):q:=[UInt8.ofNat (n / 72057594037927936),UInt8.ofNat (n / 281474976710656),UInt8.ofNat (n / 1099511627776),UInt8.ofNat (n / 4294967296),UInt8.ofNat (n / 16777216),UInt8.ofNat (n / 65536),UInt8.ofNat (n / 256),UInt8.ofNat n]
def eB (r:q)(n:Nat):q:=r++[0x80]++List.replicate (zc r.length) 0++be8 (8*n)
theorem kB (r:q)(n:Nat):(eB r n).length=r.length+9+zc r.length:=by
 simp[eB,be8];omega
theorem oJ (r:q)(n:Nat):(eB r n).length%64=0:=by
 rw[kB];unfold zc;omega
def wb (x:UInt32):q:=[UInt8.ofNat (x.toNat / 16777216),UInt8.ofNat (x.toNat / 65536),UInt8.ofNat (x.toNat / 256),UInt8.ofNat x.toNat]
def ki (v:LW_):q:=v.flatMap wb
def cU (t:q):q:=ki (df h0 (eB t t.length))
theorem uX (t:q):ki (df (df h0 t) (eB (cJ t) t.length))=cU t:=by
 have h:=pd h0 t ([0x80]++List.replicate (zc t.length) 0++be8 (8*t.length))
 have e:eB (cJ t) t.length=cJ t++([0x80]++List.replicate (zc t.length) 0++be8 (8*t.length)):=by
  have hz:zc (cJ t).length=zc t.length:=by rw[gU];unfold zc;omega
  simp only[eB,hz,Jg]
 rw[e,h.1];simp only[cU,eB,Jg]
theorem oK (v:LW_):(ki v).length=4*v.length:=by
 induction v with
 | nil=>rfl
 | cons x v H=>simp[ki,wb]at H⊢;omega
theorem dw (t:q):(cU t).length=32:=by
 rw[cU,oK,gy _ _ rfl]
theorem su (v:LW_)(k:Nat)(h:k<v.length):ki (v.take (k+1))=ki (v.take k)++wb (v.getD k 0):=by
 rw[JB h,ki,List.flatMap_append,List.getD_eq_getElem?_getD,List.getElem?_eq_getElem h];simp[ki]
section
attribute [local go_sem] Oper.semAt_some
def XrP (p:Nat)(U U':Z):Prop:=Chg (·=p) U U'∧∀ (h:LW_) (r:q) (n:Int),h.length=8→Blk U p 170 (aL h r n)→∃ r',Blk U' p 170 (aL h r' n)
def YrP (p b:Nat)(U U':Z):Prop:=(∀ o,U.heap[b]?=some o→U'.heap[b]?=some o)∧∀ (h:LW_) (r:q) (n:Int),h.length=8→Blk U p 170 (aL h r n)→∃ h',h'.length=8∧Blk U' p 170 (aL h' r n)
def ElS (x:q)(vs:AV_)(_:Z):Prop:=vs=#[.string (bs x)]∧x.length=64
def uW:Option V_→Nat
 | some (.string s)=>s.size
 | _=>0
theorem FD {wr:Z}{p b:Nat}{h':LW_}{ap:q}{n:Int}(hb:Blk wr b 127 [p_ p])(hp:Blk wr p 170 (aL h' ap n))(aI:b≠p)(hl:h'.length=8)(a:q):XrP p wr (wr.setCell ⟨p,8,none⟩ (s_ a)).drew∧Blk (wr.setCell ⟨p,8,none⟩ (s_ a)).drew b 127 [p_ p]∧Blk (wr.setCell ⟨p,8,none⟩ (s_ a)).drew p 170 (aL h' a n):=by
 have hc:Chg (·=p) wr (wr.setCell ⟨p,8,none⟩ (s_ a)).drew:=(Chg.setCell (X:=(·=p)) wr ⟨p,8,none⟩ _ rfl).trans (Chg.drew _ _)
 have hx:∀ (h:LW_) (r:q) (n:Int),h.length=8→Blk wr p 170 (aL h r n)→Blk (wr.setCell ⟨p,8,none⟩ (s_ a)).drew p 170 (aL h a n):=fun h r n hl hB=>by
  have:=hB.set 8 (s_ a);rw[kP _ _ _ _ hl]at this;exact this
 exact⟨⟨hc,fun h r n hl hB=>⟨a,hx h r n hl hB⟩⟩,hb.chg hc aI,hx _ _ _ hl hp⟩
theorem o7 (k p b:Nat)(h:LW_)(hl:h.length=8)(r:q)(n:Int)(W:Z)(hb:Blk W b 127 [p_ p])(hp:Blk W p 170 (aL h r n))(aI:b≠p)(hr:r.length≤140737488355328):tb Fence.wide k prog 128 #[p_ b] (XrP p) (YrP p b) (fun U=>∃ h',h'.length=8∧Blk U p 170 (aL h' (cJ r) n)) ElS (dq r) W:=by
 intro l J Jx hJ ag hY aj;refine callsIn_wide.2 ?_;obtain⟨HJ,aE,HY,HN⟩:=zH4 hJ ag hY aI;clear hJ ag hY aI;go_enter func128,ntmps128;go_wp2
 go_loopw [3] (fun _ wr=>∃ (h:LW_) (ap:q) (o:LL_),ap.length≤140737488355328∧Hid (h.length=8)∧Hid (Blk wr b 127 [p_ p])∧Hid (Blk wr p 170 (aL h ap n))∧Hid (dq r=o++dq ap)∧Hid (cJ r=cJ ap)∧Hid (J o wr)) (fun _ wr=>uW (wr.cell? ⟨p,8,none⟩))
 case atStart=>exact⟨h,r,[],hr,hl,hb,hp,rfl,rfl,aj⟩
 case round =>
  clear hb hp aj;obtain⟨h',ap,o,cq,s,hb,hp,hG,hT,I⟩:=hrel;have c0:=hb.o.c 0;have c8:=hp.o.cell (dU h' ap n s.o);have f8:=hp.o.free (k:=8) (by rw[cY _ _ _ s.o];omega)
  by_cases M:64≤ap.length
  ·have m1:64≤(ap.length:Int):=Y
   have HS:=O (iV ap M);have c:=O (pI ap M);have HQ:=O (show(ap.take 64).length=64 by simp;omega);go_wp2;go_region;go_upto_region 3 with(fail);obtain⟨W6,g⟩:=H ((wr.setCell ⟨p,8,none⟩ (s_ (ap.drop 64))).drew);rw[←g];have h6:=FD hb.o hp.o HN.o s.o (ap.drop 64);rw[←g]at h6;clear g;obtain⟨a,aV,D⟩:=h6;have E:=HJ.o _ _ _ I.o a;have v:=hG.o;rw[HS.o]at v;obtain⟨fn,tm,aA,aC,hy,an⟩:=HY.o o (ap.take 64) #[s_ (ap.take 64)] W6 E ⟨rfl,HQ.o⟩ ⟨dq (ap.drop 64),by rw[v];simp⟩;obtain⟨bn,V,cW⟩:=zH3 aV D v;clear aV D v a E c0 c8 f8;refine(wpIn_wide (n:=k)).1 ?_;gi_wp2;refine⟨fun h=>(by cases h),?_⟩;refine an.mono ?_;rintro e W7 (⟨rfl,aq,ai⟩|⟨rfl,K⟩)
   ·gi_wp2
    go_wp2;obtain⟨Q,j⟩:=ai;obtain⟨h7,f,i⟩:=j h' (ap.drop 64) n s.o V.o;have m:(ap.drop 64).length=ap.length-64:=by simp
    refine⟨⟨h7,ap.drop 64,o++[ap.take 64],by omega,f,Q _ bn.o,i,?_,?_,aq⟩,?_⟩
    ·show dq r=o++[ap.take 64]++dq (ap.drop 64)
     rw[cW.o];simp
    ·show cJ r=cJ (ap.drop 64)
     rw[hT.o,c.o]
    ·have c1:=i.cell (dU h7 (ap.drop 64) n f)
     have c2:=hp.o.cell (dU h' ap n s.o);rw[c1,c2];show(bs (ap.drop 64)).size<(bs ap).size;rw[cB,cB];omega
   ·gi_wp2
    go_wp2;refine bodyPost_ret (results_none rfl _ _ _) rfl ?_;exact⟨⟨_,rfl⟩,.inr ⟨_,⟨dq (ap.drop 64),by rw[cW.o];simp⟩,K⟩⟩
  ·have m1:¬64≤(ap.length:Int):=Y
   have d:dq r=o:=by have:=hG.o;rw[nh ap Y,Jy]at this;exact this
   have b9:cJ r=ap:=by have:=hT.o;rw[uN ap Y]at this;exact this
   have HF:=O d;have c:=O b9;clear d b9;go_wp2;go_end0;refine⟨⟨_,rfl⟩,.inl ⟨by rw[HF.o];exact I.o,h',s.o,by rw[c.o];exact hp.o⟩⟩
theorem sK {U:Z}{p:Nat}{h h':LW_}{r r':q}{n S:Int}(hl:h.length=8)(s:h'.length=8)(hB:Blk U p 170 (aL h r n))(m:Blk U p 170 (aL h' r' S)):r'=r∧S=n:=by
 have a1:=hB.cell (dU h r n hl);have a2:=m.cell (dU h' r' S s);have b1:=hB.cell (kQ h r n hl);have b2:=m.cell (kQ h' r' S s);rw[a1]at a2;rw[b1]at b2;injection a2 with a2
 injection a2 with a2
 injection b2 with b2
 injection b2 with _ b2
 refine⟨?_,b2.symm⟩;have:=congrArg ByteArray.toList a2;simpa[Ch] using this.symm
def WrI (p f S:Nat)(v:V_)(t:T_)(h:LW_)(N:Int)(w:Z)(aj:LL_)(U:Z):Prop :=
 (∃ rest,Blk U p 170 (aL (aj.foldl jg h) rest N))∧Blk U S t [v]∧Chg (fun k=>k=p∨f≤k) w U
theorem WrI.x {p f S:Nat}{v:V_}{t:T_}{h:LW_}{N:Int}{w U U':Z}{aj:LL_}(hl:h.length=8)(hS:S≠p)(hI:WrI p f S v t h N w aj U)(hx:XrP p U U'):WrI p f S v t h N w aj U':=by
 obtain⟨⟨rest,h1⟩,h2,h3⟩:=hI;exact⟨hx.2 _ _ _ (dz h aj hl) h1,h2.chg hx.1 hS,h3.trans (hx.1.mono fun k hk=>.inl hk)⟩
theorem WrI.d {p f S D:Nat}{v:V_}{t:T_}{h:LW_}{N:Int}{w U U':Z}{aj:LL_}(hS:S<D)(hp:p<D)(hD:f≤D)(hI:WrI p f S v t h N w aj U)(hx:Chg (fun k=>k=D∨k=D+1) U U'):WrI p f S v t h N w aj U':=by
 obtain⟨⟨rest,h1⟩,h2,h3⟩:=hI;exact⟨⟨rest,h1.chg hx Y⟩,h2.chg hx Y,h3.trans (hx.mono fun k hk=>.inr Y)⟩
theorem WrI.step {p f S:Nat}{v:V_}{t:T_}{h:LW_}{N:Int}{w U U':Z}{aj:LL_}{rest x:q}(hS:S≠p)(h2:Blk U S t [v])(h3:Chg (fun k=>k=p∨f≤k) w U)(hB:Blk U' p 170 (aL (jg (aj.foldl jg h) x) rest N))(hc:Chg (·=p) U U'):WrI p f S v t h N w (aj++[x]) U' :=
 ⟨⟨rest,by rw[List.foldl_append];exact hB⟩,h2.chg hc hS,h3.trans (hc.mono fun k hk=>.inl hk)⟩
theorem XrP.keep {p D:Nat}(hp:p<D)(U U':Z)(h:XrP p U U'):eX D U U':=I_ h.1 fun k hk e=>by subst e;omega
theorem YrP.comp {p b D:Nat}(hp:p<D)(hb:b<D)(u v x y:Z)(h1:Chg (fun k=>k=D∨k=D+1) u v)(h2:YrP p b v x)(h3:Chg (fun k=>k=D∨k=D+1) x y):YrP p b u y :=
 ⟨fun o ho=>h3.at (h2.1 o (h1.at ho Y)) Y,fun h r n hl hB=>by
  obtain⟨h',s,m⟩:=h2.2 h r n hl (hB.chg h1 Y);exact⟨h',s,m.chg h3 Y⟩⟩
theorem I2 {p b:Nat}{h h':LW_}{r:q}{n:Int}{U U':Z}(aI:b≠p)(hl:h.length=8)(s:h'.length=8)(hB:Blk U p 170 (aL h r n))(m:Blk U' p 170 (aL h' r n))(hc:Chg (·=p) U U'):YrP p b U U' :=
 ⟨fun o ho=>hc.at ho aI,fun h2 r2 n2 a0 ax=>by
  obtain⟨rfl,rfl⟩:=sK hl a0 hB ax;exact⟨h',s,m⟩⟩
theorem F9 {p D:Nat}(hp:p<D)(r:q)(n:Int)(U U':Z)(h:∃ h',h'.length=8∧Blk U p 170 (aL h' r n))(hc:Chg (fun k=>k=D∨k=D+1) U U'):∃ h',h'.length=8∧Blk U' p 170 (aL h' r n):=by
 obtain⟨h',s,hB⟩:=h;exact⟨h',s,hB.chg hc Y⟩
theorem WrI.fin {p f S:Nat}{v:V_}{t:T_}{h:LW_}{N:Int}{w U:Z}{l:q}(hl:h.length=8)(hI:WrI p f S v t h N w (dq l) U)(hf:∃ h',h'.length=8∧Blk U p 170 (aL h' (cJ l) N)):Blk U p 170 (aL (df h l) (cJ l) N):=by
 obtain⟨⟨rest,h1⟩,_,_⟩:=hI;obtain⟨h',s,hB⟩:=hf;obtain⟨rfl,_⟩:=sK s (dz h _ hl) hB h1;exact h1
theorem Ms {T:Prop} (h:T:=by
 rintro e U3⟨rfl,al,E⟩;gi_wp2;refine⟨I_ E fun k hk e=>by subst e;omega,I2 az (dz h aj HL.o) (fc _ _ (dz h aj HL.o)) aa.o al E,WrI.step (by omega) bi.o aP.o al E⟩
):T:=h
theorem Ck (p:Nat)(h:LW_)(hl:h.length=8)(r s:q)(n:Nat)(w:Z)(hp:Blk w p 170 (aL h r n))(hn:n+s.length≤140737488355328)(hr:r.length+s.length≤140737488355328):C_ 63 #[p_ p,s_ s] w fun e w'=>e=.returned (F 0)∧Blk w' p 170 (aL (df h (r++s)) (cJ (r++s)) ((n+s.length:Nat):Int))∧Chg (·=p) w w':=by
 have c8:=hp.cell (dU h r n hl);have c9:=hp.cell (kQ h r n hl);have f8:=hp.free (k:=8) (by rw[cY _ _ _ hl];omega);have f9:=hp.free (k:=9) (by rw[cY _ _ _ hl];omega);have aC:=hp.lt;have HP:=O hp;have HL:=O hl;clear hp hl;refine dA func63 rfl ?_;simp only[ntmps63,List.size_toArray,Jq,JI,Nat.reduceAdd,Nat.reduceSub,Array.replicate_succ,Array.replicate_zero,List.push_toArray,List.append_toArray,JC,Jk];go_wp2_with fail;obtain⟨w1,d⟩:=H (((w.setCell ⟨p,9,none⟩ (.int .u64 (n+s.length))).setCell ⟨p,8,none⟩ (s_ (r++s))).alloc (.cells #[p_ p] 127));rw[←d];have bw:Chg (·=p) w ((w.setCell ⟨p,9,none⟩ (.int .u64 (n+s.length))).setCell ⟨p,8,none⟩ (s_ (r++s))):=(Chg.setCell (X:=(·=p)) w ⟨p,9,none⟩ _ rfl).trans (Chg.setCell _ ⟨p,8,none⟩ _ rfl);have bn:((w.setCell ⟨p,9,none⟩ (.int .u64 (n+s.length))).setCell ⟨p,8,none⟩ (s_ (r++s))).heap.size=w.heap.size:=by simp[World.setCell]
 have y:Chg (·=p) w w1:=by
  rw[d];exact bw.trans (Chg.alloc _ _ _)
 have bp:w1.heap.size=w.heap.size+1:=by rw[d];simp[World.setCell]
 have a8:Blk w1 w.heap.size 127 [p_ p]:=by
  rw[d];have:=Blk.new ((w.setCell ⟨p,9,none⟩ (.int .u64 (n+s.length))).setCell ⟨p,8,none⟩ (s_ (r++s))) [p_ p] 127;rw[bn]at this;exact this
 have ae:Blk w1 p 170 (aL h (r++s) ((n+s.length:Nat):Int)):=by
  rw[d];have h1:=HP.o.set 9 (.int .u64 (n+s.length));rw[wI _ _ _ _ HL.o]at h1;have h2:=h1.set 8 (s_ (r++s));rw[kP _ _ _ _ HL.o]at h2;exact h2.below (af _ _)
 clear bw bn;obtain⟨N,hN⟩:∃ N:Int,N=((n+s.length:Nat):Int):=⟨_,rfl⟩
 rw[←hN]at ae;have HN:=O hN;clear d hN c8 c9 f8 f9 hn;obtain⟨w0,a_⟩:=H w;subst a_;refine(rd p w1).mono ?_;rintro e w2⟨b,rfl,dP,aY,ax⟩;have c:=O (a8.below ax);have a:=O (ae.below ax);have aZ:=O (y.trans (IG ax));have ar:=ax.size;have f:=aY.lt;have a9:=O aY;have az:b≠p:=Y;clear a8 ae y aY ax;go_wp2_with fail
 refine rQ (D:=w2.heap.size) rfl (gf:=128) (lb:=#[p_ b]) rfl (enters_of func128 q_ rfl)
  (Xr:=XrP p) (G:=YrP p b) (Fin:=fun U=>∃ h',h'.length=8∧Blk U p 170 (aL h' (cJ (r++s)) N)) (El:=ElS) (ag:=dq (r++s)) (XrP.keep Y) (YrP.comp Y Y) (fun U U' h hc=>F9 Y _ _ U U' h hc)
  (fun W hW=>o7 2 p b h HL.o (r++s) N W (a9.o.below hW) (a.o.below hW) az yza)
  (fun x vs U h=>by rw[h.1];rfl) (fun x vs U U' h _=>h)
  (WrI p w0.heap.size w0.heap.size (p_ p) 127 h N w0) (fun _ _ _=>False) (fun aj U U' h hx=>h.x HL.o Y hx) (fun aj U U' h hx=>h.d Y Y Y hx) (fun _ _ _ _ h _=>h.elim) (fun _ _ _ _ h _=>h.elim)
  ⟨⟨_,a.o⟩,c.o,aZ.o.mono fun k hk=>.inl hk⟩ ?round ?done ?stop
 case round =>
  rintro l aj x vs U _⟨rfl,aR⟩ ao;gi_wp2;refine⟨Ja _ _,?_⟩;rintro U2 h2⟨⟨rest,hB⟩,a3,a5⟩ _ aD;have c0:=a3.c 0;obtain⟨bi,aa,aP⟩:=zH3 a3 hB a5;clear a3 hB a5 aD ao;gi_wp2;refine⟨trivial,CallsIn.inRound _ (callsIn_wide.2 ((s5 p _ (dz h aj HL.o) rest N x Y U2 aa.o).mono ?_))⟩;exact Ms
 case done =>
  rintro W h2 hI hF hK;have hE:=O (hI.fin HL.o hF);have hC:=O hI.2.2;clear hI hF;go_wp2;refine jq (D:=w2.heap.size) rfl hK (results_tmp rfl _ _ _) ⟨rfl,?_,?_⟩
  ·rw[←HN.o]
   exact hE.o.chg (Chg.putObj (X:=fun k=>k=w2.heap.size) _ _ _ rfl) Y
  ·have hc:=hC.o.trans (Chg.putObj (X:=fun k=>k=p∨w0.heap.size≤k) W w2.heap.size (.deferred none) (.inr Y))
   exact⟨hc.os,hc.tape,hc.output,hc.size,fun k hk hn=>hc.block k hk Y⟩
 case stop=>exact fun _ _ _ _ _ h _=>h.elim
end
def FO (b:Nat)(w w':Z):Prop:=∀ X cs t E,X≠b→t≠5→w.heap[X]?=some (.cells cs t E)→w'.heap[X]?=some (.cells cs t E)
theorem qU (B b:Nat)(bs:LV_)(w:Z)(h:Lib.IsBuilder 116 5 B b bs w):C_ 90 #[p_ b] w fun e w'=>e=.returned (.tuple #[])∧(Lib.BuilderAt 116 5 B b (p_ b) bs w'∧B_ B w w'∧FO b w w'):=by
 rcases h with h|h
 ·refine(gQ b w h.cell0 h.shape h.frozen0).mono ?_
  rintro e w'⟨rfl,rfl⟩;exact⟨rfl,h.used _,(Ja B w).setCell (p:=⟨b,0,none⟩) h.1 _,fun X cs t E hX _ hx=>by rw[heap_setCell_other _ _ _ _ (fun e=>hX (by first|exact e|exact e.symm))];exact hx⟩
 ·refine(iD b w h.cell0).mono ?_
  rintro e w'⟨rfl,rfl⟩;exact⟨rfl,h,Ja B _,fun X cs t E _ _ hx=>hx⟩
theorem MW {T:Prop} (h:T:=by
 rcases Nat.lt_or_ge X w1.heap.size with h'|h'
 ·exact h'
 ·simp[Array.getElem?_eq_none h']at h1
):T:=h
theorem MZ {T:Prop} (h:T:=by
 rw[heap_setCell_other _ _ _ _ (fun e=>hX (by first|exact e|exact e.symm))];exact h2.trans h1
):T:=h
theorem n7 (B b:Nat)(bs:LV_)(s:ByteArray)(w:Z)(h:Lib.IsBuilder 116 5 B b bs w)(ai:bs.length+s.size≤140737488355328)(aF:B≤w.heap.size):C_ 57 #[p_ b,.string s] w fun e w'=>e=.returned (.tuple #[F s.size,.nilIface])∧(Lib.BuilderAt 116 5 B b (p_ b) (bs++Lib.strCells s) w'∧B_ B w w'∧FO b w w'):=by
 obtain⟨i0,hi,C,ag,ad⟩:=info_parts nV;go_enter func57,ntmps57;go_wp2_with (go_at_call 90;refine(qU B b bs _ h).mono ?_);rintro e w1⟨rfl,h1,a8,hk1⟩;obtain⟨hB,v,u,aw,aI⟩:=h1;have c0:w1.cell? ⟨b,0,none⟩=some (p_ b):=by rw[Lib.cell_of_heap u];rfl
 have c1:w1.cell? ⟨b,1,none⟩=some v:=by rw[Lib.cell_of_heap u];rfl
 go_wp2_with (at_builtin;refine Lib.wpList_append_own_string _ rfl _ _ 114 9 rfl B 5 i0 underlying114 underlying9 hi C ag ad _ _ _ rfl aw s rfl ?c3 ?c4 ?c5 ?_)
 case c3=>unfold maxLen;omega
 case c4=>omega
 case c5=>have:=a8.size;omega
 intro v' w2 z I _
 have aC:b<w1.heap.size:=by
  exact Mv
 have aY:w2.heap[b]?=some (.cells #[p_ b,v] 116 (0,0)):=by
  rw[I.block b aC (fun e=>aI e.symm)];exact u
 have d0:w2.cell? ⟨b,0,none⟩=some (p_ b):=by rw[Lib.cell_of_heap aY];rfl
 have d1:w2.cell? ⟨b,1,none⟩=some v:=by rw[Lib.cell_of_heap aY];rfl
 have f1:w2.frozen? ⟨b,1,none⟩=false:=Lib.frozen_of_heap aY 1
 obtain⟨ao,S,ah,rfl⟩:∃ ao S ah,v'=.slice ao S ah:=by
  exact MU
 go_wp2;go_ret2;refine⟨rfl,?_,?_,?_⟩
 ·exact MF
 ·exact MM
 ·intro X cs t E hX ht hx
  have h1:=hk1 X cs t E hX ht hx
  have d:X<w1.heap.size:=by
   exact MW
  have h2:=I.block X d (fun e=>by
   rcases aw.2 with ⟨hv,_⟩|⟨g,ah,aH,hv,_,hg,_⟩
   ·rw[hv]at e;simp[Value.ownBlock]at e
   ·rw[hv]at e
    simp only[Value.ownBlock,Option.some.injEq]at e;subst e;rw[hg]at h1;injection h1 with h1
    injection h1 with _ h1 _
    exact ht h1.symm)
  exact MZ
theorem jy (B b:Nat)(l m:q)(w:Z)(h:Bld B b l w)(ai:l.length+m.length≤140737488355328):C_ 57 #[p_ b,s_ m] w fun e w'=>e=.returned (.tuple #[F m.length,.nilIface])∧Bld B b (l++m) w'∧B_ B w w'∧FO b w w':=by
 refine(n7 B b (aW l) (bs m) w h.2 (by rw[bq,cB];exact ai) h.1).mono ?_;rintro e w'⟨rfl,h1,h2,h3⟩;refine⟨by rw[cB],⟨Jc h.1 h2.size,.inr ?_⟩,h2,h3⟩;rw[ou]at h1;simpa[aW] using h1
section
variable {P:Program}
theorem Et {aM:Array Oper}{rest:LO_}{o:Oper}{a:Act}{Q:Exit→Act→Z→Prop}(w:Z)(l:LV_)(e:T_)(av:o.guard=none)(s x:Operand)(t:T_)(ho:o.op=.call { callee:=.builtin .append,args:=#[s,x],argTypes:=#[t,t] })(bZ:Nat)(z:V_)(size bytes:Nat)(ht:P.underlying t=some (.slice e))(r:(P.info? e).map (fun i=>(i.zero,i.size,i.bytes))=some (some z,size,bytes))(B:z.cells.size=size)(a6:0<size)(v:V_)(n:Nat)(xs:LV_)(hs:a.eval s=v)(aw:w.ownsRow bZ e size v n xs)(y:V_)(m:Nat)(hx:a.eval x=y)(hr:aO w y m l)(hl:l.length=m*size)(h1:∀ u∈l,u.oneCell'=true)(d:(n+m)*bytes≤140737488355328)(aS:0<bytes)(aB:bZ≤w.heap.size)(h:∀ v' w',w'.ownsRow bZ e size v' (n+m) (xs++l)→B_ bZ w w'→(∀ k,k<w.heap.size→v.ownBlock≠some k→w'.heap[k]?=w.heap[k]?)→wpList P aM Q rest (a.put o.dst v') w'):wpList P aM Q (o::rest) a w:=by
 obtain⟨i,hi,hz,ao,aG⟩:=info_parts r;have hn:n+m≤(n+m)*bytes:=Nat.le_mul_of_pos_right _ aS;obtain⟨ax,ah,rfl,q,hc⟩:=hr
 cases ax with
 | none =>
  obtain⟨rfl,rfl⟩:=q rfl;have g:l=[]:=I7 yzh;subst g;refine wpList_append_own_none av s x t ho bZ e i size ht hi v n xs hs aw hx ?_;exact h v w (by simpa using aw) (Ja _ _) (fun _ _ _=>rfl)
 | some ad =>
  refine wpList_append_own _ av s x t ho bZ e i z size bytes ht hi hz ao aG B a6 v n xs hs aw ad m ah l hx hl ?_ h1 yzb d aB ?_
  ·exact L9
  ·intro v' w' h2 h3 _
   refine h v' w' h2 ((Ja bZ w).grown h3 aB ?_) (fun k hk aI=>h3.block k hk (fun e=>aI e.symm));intro k hk;exact(aw.lt k hk).1
end
theorem rI (B b:Nat)(bs:LV_)(w:Z)(h:Lib.IsBuilder 116 5 B b bs w):C_ 90 #[p_ b] w fun e w'=>e=.returned (.tuple #[])∧(Lib.BuilderAt 116 5 B b (p_ b) bs w'∧B_ B w w'∧Chg (·=b) w w'):=by
 rcases h with h|h
 ·refine(gQ b w h.cell0 h.shape h.frozen0).mono ?_
  rintro e w'⟨rfl,rfl⟩;exact⟨rfl,h.used _,(Ja B w).setCell (p:=⟨b,0,none⟩) h.1 _,Chg.setCell _ _ _ rfl⟩
 ·refine(iD b w h.cell0).mono ?_
  rintro e w'⟨rfl,rfl⟩;exact⟨rfl,h,Ja B _,Chg.refl _ _⟩
theorem rj (l m:q):aW (l++m)=aW l++aW m:=by simp[aW]
theorem rh (m:q):∀ u∈aW m,u.oneCell'=true:=by
 intro u hu;simp only[aW,List.mem_map]at hu;obtain⟨x,_,rfl⟩:=hu;rfl
theorem xg {w:Z}{B:Nat}{v:V_}{n:Nat}{xs:LV_}(aw:w.ownsRow B 5 1 v n xs){X:Nat}{cs:AV_}{t:T_}{E:Nat×Nat}(hx:w.heap[X]?=some (.cells cs t E))(ht:t≠5):v.ownBlock≠some X:=fun e=>by
 rcases aw.2 with ⟨hv,_⟩|⟨g,ah,aH,hv,_,hg,_⟩
 ·rw[hv]at e;simp[Value.ownBlock]at e
 ·rw[hv]at e
  simp only[Value.ownBlock,Option.some.injEq]at e;subst e;rw[hg]at hx;injection hx with hx
  injection hx with _ hx _
  exact ht hx.symm
theorem zx (B b:Nat)(l m:q)(g:V_)(w:Z)(h:Bld B b l w)(hm:aO w g m.length (aW m))(cf:∀ w1,Chg (·=b) w w1→aO w1 g m.length (aW m))(ai:l.length+m.length≤140737488355328):C_ 93 #[p_ b,g] w fun e w'=>e=.returned (.tuple #[F m.length,.nilIface])∧Bld B b (l++m) w'∧B_ B w w'∧FO b w w':=by
 obtain⟨aF,h⟩:=h;obtain⟨HL,HM,HB⟩:=zH3 ai hm cf;clear ai hm cf;obtain⟨j,i,rfl,_,_⟩:=HM.o;go_enter func93,ntmps93;go_wp2_with (go_at_call 90;refine(rI B b _ _ h).mono ?_);rintro e w1⟨rfl,h1,a8,hk1⟩;obtain⟨hB,v,u,aw,aI⟩:=h1;rw[bq]at aw;have az:aO w1 (.slice j m.length i) m.length (aW m):=HB.o _ hk1;have c0:w1.cell? ⟨b,0,none⟩=some (p_ b):=by rw[Lib.cell_of_heap u];rfl
 have c1:w1.cell? ⟨b,1,none⟩=some v:=by rw[Lib.cell_of_heap u];rfl
 go_wp2_with (at_builtin;refine Et w1 (aW m) 5 rfl _ _ 114 rfl B (.int .u8 0) 1 1 underlying114 nV rfl d_ _ _ _ rfl aw _ _ rfl az (by rw[bq,Nat.mul_one]) (rh m) yzr d_ (by have:=a8.size;omega) ?_);intro v' w2 z aY c
 have aC:b<w1.heap.size:=by
  exact Mv
 have a:w2.heap[b]?=some (.cells #[p_ b,v] 116 (0,0)):=by
  rw[c b aC (fun e=>aI e)];exact u
 have d0:w2.cell? ⟨b,0,none⟩=some (p_ b):=by rw[Lib.cell_of_heap a];rfl
 have d1:w2.cell? ⟨b,1,none⟩=some v:=by rw[Lib.cell_of_heap a];rfl
 have f1:w2.frozen? ⟨b,1,none⟩=false:=Lib.frozen_of_heap a 1;obtain⟨ao,ah,rfl⟩:=ay z;go_wp2;go_ret2;have D:B_ B w w2:=a8.trans aY;refine⟨rfl,⟨?_,.inr ?_⟩,?_,?_⟩
 ·have:=D.size;simp[World.setCell];omega
 ·rw[rj]
  exact Lib.BuilderAt.put (T:=116) (e:=5) hB a (bs':=aW l++aW m) (by simpa[bq] using z) d_
 ·exact D.setCell (p:=⟨b,1,none⟩) hB _
 ·intro X cs t E hX ht hx
  have h1:=hk1.at hx hX
  have d:X<w1.heap.size:=by
   exact MW
  have h2:=c X d (xg aw h1 ht);exact MZ
def km (w:Z)(bZ:Nat)(e:T_)(v:V_)(l:q):Prop :=
 ∃ g ah aH E,v=.slice (some ⟨g,0,none⟩) l.length ah∧bZ≤g∧w.heap[g]?=some (.cells aH e E)∧(E.2=0∨aH.size≤E.1)∧l.length≤ah∧ah≤maxLen∧aH.size=ah∧aH.toList.take l.length=aW l
section
variable {P:Program}
theorem km.slice {w:Z}{bZ:Nat}{e:T_}{v:V_}{l:q}(h:km w bZ e v l):∃ g ah,v=.slice (some ⟨g,0,none⟩) l.length ah:=by
 obtain⟨g,ah,_,_,hv,_⟩:=h;exact⟨g,ah,hv⟩
theorem km.below {w w':Z}{bZ:Nat}{e:T_}{v:V_}{l:q}(h:km w bZ e v l)(hB:Bw_ w w'):km w' bZ e v l:=by
 obtain⟨g,ah,aH,E,h1,h2,h3,h4⟩:=h;exact⟨g,ah,aH,E,h1,h2,(hB.block g (Array.getElem?_eq_some_iff.1 h3).1).trans h3,h4⟩
theorem km.cell {w:Z}{bZ g n ah:Nat}{e:T_}{l:q}(h:km w bZ e (.slice (some ⟨g,0,none⟩) n ah) l)(j:Nat)(hj:j<l.length):w.cell? ⟨g,j,none⟩=some (.int .u8 (l[j].toNat:Int)):=by
 obtain⟨D,aK,aH,E,h1,h2,h3,_,_,_,_,h5⟩:=h;injection h1 with e1 _ _
 cases e1
 rw[cell_of_row w g j aH e E h3];have:(aH.toList.take l.length)[j]?=some (.int .u8 (l[j].toNat:Int)):=by rw[h5];simp[aW,hj]
 rw[List.getElem?_take,if_pos hj]at this;simpa using this
theorem km.new (w:Z)(e:T_)(l:q)(hl:l.length≤maxLen):km (Lib.bytesWorld w e (bs l)) w.heap.size e (.slice (some ⟨w.heap.size,0,none⟩) l.length (grownCap w (bs l).size 0 e)) l:=by
 have aJ:=grownCap_ge w (bs l).size 0 e;have aq:=grownCap_le_maxLen w (bs l).size 0 e (by rw[cB];exact hl)
 have a6:(Lib.bytesCells w e (bs l)).size=grownCap w (bs l).size 0 e:=by
  simp only[Lib.bytesCells,Array.size_append,Array.size_map,Array.size_replicate];have:(bs l).data.size=(bs l).size:=rfl;omega
 refine⟨w.heap.size,_,_,_,rfl,I6 _,Lib.bytesWorld_at_new w e (bs l),.inr (I6 _),by rw[cB]at aJ;exact aJ,aq,a6,?_⟩
 have h1:(Lib.bytesCells w e (bs l)).toList=aW l++List.replicate (grownCap w (bs l).size 0 e-(bs l).size) (.int .u8 0):=by
  simp only[Lib.bytesCells,Array.toList_append,Array.toList_map,nu,aW,Array.toList_replicate]
 rw[h1,List.take_append_of_le_length (by rw[bq];exact I6 _),I5 (by rw[bq];exact I6 _)]
theorem kX (w:Z)(e:T_)(s:ByteArray):Bw_ w (Lib.bytesWorld w e s) :=
 ⟨rfl,rfl,rfl,by rw[Lib.bytesWorld_size];omega,fun k hk=>Lib.bytesWorld_at_old w e s k hk⟩
theorem xk {aM:Array Oper}{rest:LO_}{o:Oper}{a:Act}{Q:Exit→Act→Z→Prop}(wr:Z)(c:U8_)(e:T_)(av:o.guard=none)(s x:Operand)(t:T_)(ho:o.op=.call { callee:=.builtin .append,args:=#[s,x],argTypes:=#[t,t] })(bZ:Nat)(ht:P.underlying t=some (.slice e))(r:(P.info? e).map (fun i=>(i.zero,i.size,i.bytes))=some (some (.int .u8 0),1,1))(v:V_)(l:q)(n:Nat)(hn:l.length=n)(u:V_)(hu:u=.int .u8 c.toNat)(aw:km wr bZ e v l)(hs:a.eval s=v)(cx:Nat)(hx:a.eval x=.slice (some ⟨wr.heap.size,0,none⟩) 1 cx)(d:n+1≤140737488355328)(aB:bZ≤wr.heap.size)(h:∀ g ah w',km w' bZ e (.slice (some ⟨g,0,none⟩) (n+1) ah) (l++[c])→B_ bZ wr w'→wpList P aM Q rest (a.put o.dst (.slice (some ⟨g,0,none⟩) (n+1) ah)) w'):wpList P aM Q (o::rest) a (wr.alloc (.cells #[u] e)):=by
 subst hn hu;obtain⟨i,hi,hz,ao,aG⟩:=info_parts r;refine wpList_plain av fun K hK=>?_;obtain⟨w,hw⟩:=H (wr.alloc (.cells #[.int .u8 c.toNat] e));rw[←hw];have z:km w bZ e v l:=by rw[hw];exact aw.below (af _ _)
 have aF:B_ bZ wr w:=by rw[hw];exact(Ja bZ wr).alloc aB _
 have cq:∀ j u,[Value.int .u8 c.toNat][j]?=some u→w.cell? ((⟨wr.heap.size,0,none⟩:Addr).add j)=some u:=by
  intro j u hj
  have M:j<1:=by
   rcases Nat.lt_or_ge j 1 with h|h
   ·exact h
   ·simp[List.getElem?_eq_none (show [Value.int .u8 c.toNat].length≤j from h)]at hj
  rw[hw,Addr.add_lit,I9,World.cell?_alloc_new];simpa using hj
 obtain⟨g,ah,aH,E,hv,J,hg,B,aq,aI,aR,I⟩:=id z
 have m:∃ D aK w',(Builtin.append_ #[t,t] o.type #[v,.slice (some ⟨wr.heap.size,0,none⟩) 1 cx]).run P w=.ok (.slice (some ⟨D,0,none⟩) (l.length+1) aK) w'∧km w' bZ e (.slice (some ⟨D,0,none⟩) (l.length+1) aK) (l++[c])∧B_ bZ w w':=by
  subst hv
  by_cases b:l.length+1≤ah
  ·have aC:l.length<aH.size:=Y
   have y:w.cell? ⟨g,l.length,none⟩=some aH[l.length]:=by rw[cell_of_row w g _ aH e E hg];simp[aC]
   have C:w.frozen? ⟨g,l.length,none⟩=false:=by
    obtain⟨k,hh⟩:=E;simp only at B;simp only[World.frozen?,hg,Bool.and_eq_false_iff,decide_eq_false_iff_not];omega
   have ab:(storeCells ⟨g,l.length,none⟩ [Value.int .u8 c.toNat] 0).run P w=.ok () (w.setCell ⟨g,l.length,none⟩ (.int .u8 c.toNat)):=by
    have L:(⟨g,l.length,none⟩:Addr).add 0=⟨g,l.length,none⟩:=Addr.add_lit ..;simp only[storeCells,Sem.run_bind,L];rw[run_store P w _ _ _ rfl,y];simp[C]
   have hf:=run_firstCells_some (P:=P) w i.size 1 ⟨wr.heap.size,0,none⟩ 1 cx [.int .u8 c.toNat] (by simp[ao]) cq;refine⟨g,ah,w.setCell ⟨g,l.length,none⟩ (.int .u8 c.toNat),?_,?_,?_⟩
   ·rw[ao]at hf
    simp[Builtin.append_,run_underlying ht,sizeOf,typeInfo,hi,ao,Builtin.lenOf,b,hf,Addr.add_lit,ab]
   ·refine⟨g,ah,aH.setIfInBounds l.length (.int .u8 c.toNat),E,by simp,J,?_,by simpa using B,by simpa using b,aI,by simpa using aR,?_⟩
    ·rw[setCell_eq_setRow w g _ aH e E _ hg]
     exact setRow_heap w g aH _ e E hg
    ·rw[Array.toList_setIfInBounds,Jh,JJ,List.take_set,JB (by simpa using aC),I]
     rw[List.set_append_right _ _ (by rw[bq];exact I6 _),bq,Nat.sub_self,←o8]
     rfl
   ·exact(Ja bZ w).setCell (p:=⟨g,l.length,none⟩) J _
  ·have G:∀ j u,(aW l)[j]?=some u→w.cell? ((⟨g,0,none⟩:Addr).add j)=some u:=by
    intro j u hj
    have b':j<l.length:=by
     rcases Nat.lt_or_ge j l.length with h|h
     ·exact h
     ·simp[List.getElem?_eq_none (show(aW l).length≤j by rw[bq];exact h)]at hj
    have:=z.cell j b';rw[Addr.add_lit,I9,this];simp[aW,b']at hj;rw[hj]
   have hr:=run_append_grow (P:=P) w t o.type e i (.int .u8 0) ht hi hz ⟨g,0,none⟩ l.length ah (aW l) (by rw[bq,ao,Nat.mul_one]) G ⟨wr.heap.size,0,none⟩ 1 cx [.int .u8 c.toNat] (by simp[ao]) cq Y Y
    (growslice_fits Y (by rw[aG];omega))
   have aJ:=grownCap_ge w (l.length+1) ah e;have N:=grownCap_le_maxLen w (l.length+1) ah e yzb;refine⟨_,_,_,hr,?_,(Ja bZ w).drew.alloc (by simp;have:=aF.size;omega) _⟩;refine⟨w.heap.size,_,_,_,by simp,by have:=aF.size;omega,World.alloc_heap_new w.drew _,.inl rfl,by simpa using aJ,N,?_,?_⟩
   ·simp only[Array.size_append,List.size_toArray,bq,JJ,size_zeroCells]
    simp[Value.cells];omega
   ·have e1:(aW l++[Value.int .u8 c.toNat]).length=(l++[c]).length:=by simp[bq]
    simp only[Array.toList_append,Jg];rw[←Jg,←e1,List.take_left,o8]
 obtain⟨D,aK,w',hr,h2,h3⟩:=m;unfold Oper.wp execOp;simp only[ho,resolve,invoke,builtin,Sem.run_bind,Sem.run_pure,Result.andThen_ok,List.map_toArray,List.map_cons,List.map_nil,hs,hx,hr];exact hK _ _ (h D aK w' h2 (aF.trans h3))
theorem B7 (src a e:T_)(hs:P.underlying src=some (.slice e))(he:P.underlying e=some (.int .u8))(hd:P.underlying a=some .string)(w:Z)(bZ:Nat)(v:V_)(l:q)(h:km w bZ e v l):(convert src a v).run P w=.ok (s_ l) w:=by
 obtain⟨g,ah,rfl⟩:=h.slice;exact run_convert_bytes_back w src a e ⟨g,0,none⟩ ah l hs he hd (fun j hj=>by rw[Addr.add_lit,I9];exact h.cell j hj)
end
section
attribute [local go_sem] Oper.semAt_some
theorem yY (h:LW_)(r:q)(n:Int):(aL h r n).toArray.all (·.oneCell')=true:=by
 rw[List.all_toArray,List.all_eq_true];intro v hv;simp only[aL,aB,Jt,List.mem_map,JK,List.not_mem_nil,or_false]at hv;rcases hv with ⟨x,_,rfl⟩|rfl|rfl<;>rfl
theorem zq {P:Program}{aM:Array Oper}{rest:LO_}{op:Oper}{a:Act}{w:Z}{Q:Exit→Act→Z→Prop}(b:Nat)(cs g:LV_){t:T_}(h:Blk w b t cs)(av:op.guard=none)(ty:T_)(x y:Operand)(ho:op.op=.store ty x y)(hx:a.eval x=p_ b)(hy:a.eval y=.agg g.toArray)(hi:(P.info? ty).map (·.size)=some g.length)(hl:cs.length=g.length)(h1:g.toArray.all (·.oneCell')=true)(k:∀ w',Hid (w.setRow b g.toArray=w')→wpList P aM Q rest (a.put op.dst undef) w'):wpList P aM Q (op::rest) a w :=
 jw b cs g h av ty x y ho hx hy hi hl h1 (k _ rfl)
theorem Fe {p:Nat}{h:LW_}{r:q}{n:Int}{w w1:Z}(hl:h.length=8)(hp:Blk w p 170 (aL h r n))(hw:(w.alloc (.cells #[.int .u32 0,.int .u32 0,.int .u32 0,.int .u32 0,.int .u32 0,.int .u32 0,.int .u32 0,.int .u32 0,.string ⟨#[]⟩,.int .u64 0] 170)).setRow w.heap.size (aL h r n).toArray=w1):Bw_ w w1∧w1.heap.size=w.heap.size+1∧Blk w1 w.heap.size 170 (aL h r n)∧w1.cell? ⟨p,9,none⟩=some (.int .u64 n)∧w1.cell? ⟨w.heap.size,8,none⟩=some (s_ r):=by
 have hz:Blk (w.alloc (.cells #[.int .u32 0,.int .u32 0,.int .u32 0,.int .u32 0,.int .u32 0,.int .u32 0,.int .u32 0,.int .u32 0,.string ⟨#[]⟩,.int .u64 0] 170)) w.heap.size 170 (aL (iI 8) [] 0):=Blk.new w (aL (iI 8) [] 0) _;have hB:Bw_ w w1:=by rw[←hw];exact eU (af w _) (I6 _) _
 have hb:Blk w1 w.heap.size 170 (aL h r n):=by rw[←hw];exact hz.row _
 exact⟨hB,by rw[←hw,kw];simp,hb,(hp.below hB).cell (kQ h r n hl),hb.cell (dU h r n hl)⟩
theorem GN (w:Z)(s:ByteArray)(l:q)(hs:s=bs l)(hl:l.length≤maxLen):∃ g ah w',(convert 9 114 (.string s)).run prog w=.ok (.slice (some ⟨g,0,none⟩) l.length ah) w'∧km w' w.heap.size 5 (.slice (some ⟨g,0,none⟩) l.length ah) l∧Bw_ w w':=by
 subst hs;have:=Lib.run_convert_string_bytes (P:=prog) w 9 114 5 (bs l) underlying9 underlying114 underlying5;rw[cB]at this;exact⟨_,_,_,this,by have h:=km.new w 5 l hl;rw[cB]at h;exact h,kX _ _ _⟩
def EJ:V_→Nat
 | .slice _ n _=>n
 | _=>0
theorem Cs (n:Nat):zc n≤63:=by unfold zc;omega
theorem Cr (n k:Nat)(h:k<zc n):(n+1+k)%64≠56:=by unfold zc at h;omega
theorem xz (n:Nat):(n+1+zc n)%64=56:=by unfold zc;omega
def kn (r:q)(k:Nat):q:=r++[0x80]++List.replicate k 0
theorem gz (r:q)(k:Nat):(kn r k).length=r.length+1+k:=by simp[kn];omega
theorem rO (r:q)(k:Nat):kn r k++[0]=kn r (k+1):=by simp[kn,List.replicate_succ']
theorem uC (r:q):bs r++⟨#[128]⟩=bs (kn r 0):=by
 have e:(⟨#[128]⟩:ByteArray)=bs [128]:=rfl;rw[e,ic];simp[kn]
theorem xh (n j:Nat)(hj:j<8):(be8 n).take (j+1)=(be8 n).take j++[(be8 n).getD j 0]:=by
 have hl:(be8 n).length=8:=rfl;rw[JB Y,List.getD_eq_getElem?_getD,List.getElem?_eq_getElem Y,Option.getD_some]
def nx (n:Nat):Nat→Nat
 | 0=>n / 72057594037927936%256
 | 1=>n / 281474976710656%256
 | 2=>n / 1099511627776%256
 | 3=>n / 4294967296%256
 | 4=>n / 16777216%256
 | 5=>n / 65536%256
 | 6=>n / 256%256
 | _=>n%256
theorem Aj (n j:Nat)(z:Int)(hj:j<8)(hz:z=(nx (8*n) j:Nat)):Value.int .u8 z=.int .u8 (((be8 (8*n)).getD j 0).toNat:Int):=by
 rw[hz]
 match j,hj with
 | 0,_|1,_|2,_|3,_|4,_|5,_|6,_|7,_=>exact kr (congrArg Int.ofNat (UInt8.toNat_ofNat' ..).symm)
theorem GQ {B b:Nat}{l:q}{w:Z}(h:Bld B b l w):b<w.heap.size:=h.2.elim (fun h=>h.lt) (fun h=>h.lt)
theorem vV (V:LW_)(h:V.length=8):ki (V.take 8)=ki V:=by rw[I5 Y]
theorem Mn {T:Prop} (h:T:=by
 have:=rL x;simp only[aW,wb,List.map_cons,List.map_nil,dV];congr 1;refine congr (congrArg _ (kr ?_)) (congr (congrArg _ (kr ?_)) (congr (congrArg _ (kr ?_)) (congrArg (fun v=>[v]) (kr ?_))))
 all_goals
  rw[UInt8.toNat_ofNat'];omega
):T:=h
theorem Gl (w:Z)(x:UInt32):Blk (w.alloc (.cells #[.int .u8 (U x / 16777216),.int .u8 (U x / 65536%256),.int .u8 (U x / 256%256),.int .u8 (U x%256)] 5)) w.heap.size 5 (aW (wb x)):=by
 have e:(#[.int .u8 (U x / 16777216),.int .u8 (U x / 65536%256),.int .u8 (U x / 256%256),.int .u8 (U x%256)]:AV_)=(aW (wb x)).toArray:=by
  exact Mn
 rw[e];exact Blk.new w _ _
theorem se {w:Z}{g:Nat}{e:T_}{m:q}(h:Blk w g e (aW m))(c:Nat):aO w (.slice (some ⟨g,0,none⟩) m.length c) m.length (aW m) :=
 ⟨_,_,rfl,i_,fun j u hj=>⟨g,0,rfl,by rw[I9];exact h.cell hj⟩⟩
theorem ED (p:Nat)(h:LW_)(hl:h.length=8)(r:q)(n:Nat)(w:Z)(hp:Blk w p 170 (aL h r n))(hn:n≤140737488355328)(hr:r.length≤64):R_ 64 #[p_ p] w (s_ (ki (df h (eB r n)))):=by
 have c9:=hp.cell (kQ h r n hl);have aC:=hp.lt;have HP:=O hp;have HL:=O hl;have HI:=O (show(prog.info? 170).map (·.size)=some (aL h r n).length by rw[cY _ _ _ hl];kernel_rfl);clear hp hl;refine dA func64 rfl ?_;simp only[ntmps64,List.size_toArray,Jq,JI,Nat.reduceAdd,Nat.reduceSub,Array.replicate_succ,Array.replicate_zero,List.push_toArray,List.append_toArray,JC,Jk];have hz:Blk (w.alloc (.cells #[.int .u32 0,.int .u32 0,.int .u32 0,.int .u32 0,.int .u32 0,.int .u32 0,.int .u32 0,.int .u32 0,.string ⟨#[]⟩,.int .u64 0] 170)) w.heap.size 170 (aL (iI 8) [] 0):=Blk.new w (aL (iI 8) [] 0) _;have HZ:=O hz;clear hz;have an:=O (show(aL (iI 8) [] 0).length=(aL h r n).length by rw[cY _ _ _ HL.o];rfl);go_wp2_with first|(refine nw p (aL h r n) HP.o _ rfl _ _ rfl rfl underlying170 rfl HI.o ?_)|(refine zq w.heap.size (aL (iI 8) [] 0) (aL h r n) HZ.o rfl _ _ _ rfl rfl rfl HI.o an.o (yY _ _ _) ?_)
 intro w1 d;obtain⟨aF,bp,a8,aX,c18⟩:=Fe HL.o HP.o d.o;obtain⟨a_,c,b0⟩:=zH3 aF a8 bp;have aZ:w.heap.size<w1.heap.size:=Y;clear bp;clear d aF a8 HZ an c9;go_wp2;obtain⟨g2,ac,w2,bB,au,ax⟩:=GN w1 _ _ (uC r) (by rw[gz];unfold maxLen;omega);rw[gz]at bB au;have S:=O au;have a9:=O ax;have ar:=ax.size;rw[bB];clear bB au ax c18 aX;go_wp2
 go_loopw [5] (fun v wx=>∃ (k g ah:Nat),k≤zc r.length∧v=.slice (some ⟨g,0,none⟩) (r.length+1+k) ah∧Hid (km wx w1.heap.size 5 (.slice (some ⟨g,0,none⟩) (r.length+1+k) ah) (kn r k))∧Hid (Bw_ w1 wx)) (fun v _=>200-EJ v)
 case atStart=>exact⟨0,g2,ac,Jl _,rfl,S,a9⟩
 case round =>
  obtain⟨k,g,ah,hk,rfl,HO,HB⟩:=hrel;have hz:=Cs r.length;have a6:=HB.o.size
  by_cases a:k<zc r.length
  ·have m1:((r.length:Int)+1+(k:Int))%64≠56:=by have:=Cr r.length k a;omega
   have m2:(((r.length:Int)+1+(k:Int))%64 != 56)=true:=by simpa using m1
   have HZ:=O hz;have HK:=O a;clear hz a hk;go_wp2_with (at_builtin;go_loud (refine xk wr 0 5 rfl _ _ 114 rfl w1.heap.size underlying114 nV (.slice (some ⟨g,0,none⟩) (r.length+1+k) ah) (kn r k) _ (gz r k) _ yzf HO.o rfl _ rfl (by have:=HZ.o;have:=HK.o;omega) Y ?_));intro g3 cp w3 s al;rw[rO]at s;go_wp2;go_roundw
   case rel=>exact⟨k+1,g3,cp,HK.o,rfl,s,HB.o.trans al⟩
   case measure=>simp[EJ];have:=HZ.o;have:=HK.o;omega
  ·obtain rfl:k=zc r.length:=Y
   have m1:(r.length+1+zc r.length:Int)%64=56:=by have:=xz r.length;omega
   have HZ:=O hz;obtain⟨M,hM⟩:=H (r.length+1+zc r.length);have av:(M:Int)%64=56:=by rw[hM];push_cast;exact m1
   rw[←hM]at HO⊢;have HM:=O hM;have aS:=O (show(kn r (zc r.length)).length=M by rw[gz,hM]);have a4:M≤200:=Y;obtain⟨ab,hZ⟩:=H (kn r (zc r.length));rw[←hZ]at HO aS;have aY:=O hZ;clear hk a m1 hM hz hZ a9 S av;have av:(M:Int)%64=56:=by have:=HM.o;have:=xz r.length;omega
   go_wp2;clear av
   go_loopw [5,6] (fun v i wx=>∃ (j g ah:Nat),j≤8∧i=F (56-8*(j:Int))∧v=.slice (some ⟨g,0,none⟩) (M+j) ah∧Hid (km wx w1.heap.size 5 (.slice (some ⟨g,0,none⟩) (M+j) ah) (ab++(be8 (8*n)).take j))∧Hid (Bw_ w1 wx)) (fun v _ _=>300-EJ v)
   case atStart=>exact⟨0,g,ah,by omega,rfl,rfl,by simpa using HO,HB⟩
   case round =>
    clear HO HB;obtain⟨j,g,ah,hj,rfl,rfl,HO,HB⟩:=hrel;have a6:=HB.o.size;have bD:=O (show(ab++(be8 (8*n)).take j).length=M+j by rw[Jh,aS.o,JH];simp[be8];omega)
    by_cases o:j<8
    ·have bc:=O (xh (8*n) j o)
     have HJ:=O o;clear o hj;have hj:=HJ.o;obtain⟨jn,m⟩:=H (j+1);have u:=O m;clear m;rcases(by omega:j=0∨j=1∨j=2∨j=3∨j=4∨j=5∨j=6∨j=7) with rfl|rfl|rfl|rfl|rfl|rfl|rfl|rfl
     all_goals
      clear hj;go_wp2_with (at_builtin;go_must (refine xk wr _ 5 rfl _ _ 114 rfl w1.heap.size underlying114 nV _ _ _ bD.o _ (Aj n _ _ HJ.o (by simp only[nx];omega)) HO.o rfl _ rfl Y a6 ?_));intro g3 cp w3 s al;have bf:=O s;clear s;go_wp2;have m:=u.o;refine⟨⟨jn,g3,cp,by omega,?_,?_,?_,HB.o.trans al⟩,by simp[EJ];omega⟩
      all_goals (subst m;first|rfl|exact bf)
    ·obtain rfl:j=8:=Y
     have aw:ab++(be8 (8*n)).take 8=eB r n:=by rw[aY.o];rfl
     rw[aw]at HO;have bB:=B7 114 9 5 underlying114 underlying5 underlying9 wr _ _ _ HO.o;have ak:=O (oJ r n);have ai:=O (show(eB r n).length≤300 by rw[←aw];have:=bD.o;omega);obtain⟨T,hT⟩:=H (eB r n);rw[←hT]at bB ak ai;have HT:=O hT;have L:=O (c.o.below HB.o);have K:=O (a_.o.trans (HB.o.mono Y));have c8:=L.o.cell (dU h r n HL.o);have f8:=L.o.free (k:=8) (by rw[cY _ _ _ HL.o];omega);clear hT aw HO bD hj o HB;go_wp2_with fail;obtain⟨C,hC⟩:=H w.heap.size;rw[←hC]at L c8 f8⊢;obtain⟨w4,R⟩:=H (wr.setCell ⟨C,8,none⟩ (s_ T));rw[←R];have aQ:Bw_ w w4:=by rw[R];exact K.o.setCell (p:=⟨C,8,none⟩) (by show w.heap.size≤C;omega) _
     have ay:Blk w4 C 170 (aL h T n):=by
      rw[R];have:=L.o.set 8 (s_ T);rw[kP _ _ _ _ HL.o]at this;exact this
     have aT:=O ay;have ba:=O aQ;have a0:=ay.lt;have aU:=O hC;clear R aQ ay bB c8 f8 L K hC;refine(rd C w4).mono ?_;rintro e w5⟨b,rfl,dP,z,aN⟩;have aE:=O (aT.o.below aN);have aJ:=O (ba.o.trans (aN.mono ba.o.size));have ct:=aN.size;have a1:=z.lt;have a':=O z;have az:b≠C:=Y;obtain⟨N,hN⟩:∃ N:Int,N=(n:Int):=⟨_,rfl⟩
     rw[←hN]at aE;have HN:=O hN;clear z aN hN aT;go_wp2_with fail
     refine rQ (D:=w5.heap.size) rfl (gf:=128) (lb:=#[p_ b]) rfl (enters_of func128 q_ rfl)
      (Xr:=XrP C) (G:=YrP C b) (Fin:=fun U=>∃ h',h'.length=8∧Blk U C 170 (aL h' (cJ T) N)) (El:=ElS) (ag:=dq T) (XrP.keep Y) (YrP.comp Y Y) (fun U U' h hc=>F9 Y _ _ U U' h hc)
      (fun W hW=>o7 2 C b h HL.o T N W (a'.o.below hW) (aE.o.below hW) az (by have:=ai.o;omega))
      (fun x vs U h=>by rw[h.1];rfl) (fun x vs U U' h _=>h)
      (WrI C C b (p_ C) 127 h N w) (fun _ _ _=>False) (fun aj U U' h hx=>h.x HL.o Y hx) (fun aj U U' h hx=>h.d Y Y Y hx) (fun _ _ _ _ h _=>h.elim) (fun _ _ _ _ h _=>h.elim)
      ⟨⟨_,aE.o⟩,a'.o,IV aJ.o fun k hk=>.inr (by have:=aU.o;omega)⟩ ?round ?done ?stop
     case round =>
      rintro l aj x vs U _⟨rfl,aR⟩ ao;gi_wp2;refine⟨Ja _ _,?_⟩;rintro U2 h2⟨⟨rest,hB⟩,a3,a5⟩ _ aD;obtain⟨bi,aa,aP⟩:=zH3 a3 hB a5;clear a3 hB a5 aD ao;gi_wp2;refine⟨trivial,CallsIn.inRound _ (callsIn_wide.2 ((s5 C _ (dz h aj HL.o) rest N x Y U2 aa.o).mono ?_))⟩;exact Ms
     case done =>
      rintro W h2 hI hF hK;have hE:=hI.fin HL.o hF;have hC:=O hI.2.2;have hV:=gy h T HL.o;have a2:=hE.lt;obtain⟨V,aG⟩:=H (df h T);rw[←aG]at hE hV;obtain⟨HV,ae,HE⟩:=zH3 aG hV hE;have HR:=O (show World.rangeAt W C 0 (aB V) from fun j v hv=>by rw[I9];exact hE.cell (by rw[aL,List.getElem?_append_left (by exact(List.getElem?_eq_some_iff.1 hv).1)];exact hv));have y:=O (show(prog.info? 168).map (·.size)=some (aB V).length by rw[aI,hV];kernel_rfl);clear hI hF hE hV aG;go_wp2_with (refine wpList_load_mid rfl 168 _ rfl C 0 rfl (aB V) (.array 8 167) (World.rangeAt_alloc HR.o _) q_ rfl y.o ?_);obtain⟨W1,aA⟩:=H (W.alloc (.cells #[.pointer none,e_] 116));have ap:Bld W.heap.size W.heap.size [] W1:=by rw[aA];exact Bld.fresh W
      have am:=ba_ aA;rw[←aA];have aq:=O ap;have a7:=O am;clear aA ap am HR HE
      go_loopw [52] (fun t ux=>∃ k:Nat,k≤8∧t=F k∧Hid (Bld W.heap.size W.heap.size (ki (V.take k)) ux)∧Hid (Bw_ W ux)) (fun t _=>8-(intOf t).toNat)
      case atStart=>exact⟨0,by omega,rfl,aq,a7⟩
      case round =>
       clear aq a7;obtain⟨k,hk,rfl,aM,bi⟩:=hrel
       by_cases J:k<8
       ·have k1:(k:Int)<8:=Y
        have k0:=nn_ k;have f:=D5 V ae.o k J;have bb:=O (su V k (by rw[ae.o];exact J));have aV:=O (show(ki (V.take k)).length≤40 by rw[oK,JH];omega);generalize V.getD k 0=x at *;have bN:U x<4294967296:=by have:=rL x;rw[dV];omega
        have B:0≤U x:=by rw[dV];omega
        go_wp2_with fail;have hm:=Gl wr x;have ad:=bi.o.size;refine(zx W.heap.size W.heap.size (ki (V.take k)) (wb x) (.slice (some ⟨wr.heap.size,0,none⟩) 4 4) _ (aM.o.below (af _ _)) (se hm 4) (fun w1 hc=>se (hm.chg hc (by have:=GQ aM.o;omega)) 4) (by have:=aV.o;show _+4≤_;omega)).mono ?_;rintro e w7⟨rfl,Q,aH,_⟩;rw[←bb.o]at Q;have aK:=O Q;have aW:=O (bi.o.trans ((af wr _).mono ad |>.trans aH));clear hm aH Q;go_wp2_with fail;exact⟨⟨k+1,by omega,by go_num,aK.o,aW.o⟩,by simp[intOf];omega⟩
       ·obtain rfl:k=8:=Y
        have I:=vV V ae.o;have aO:=O I;clear I;go_wp2_with fail;refine(iY W.heap.size W.heap.size _ wr aM.o).mono ?_;rintro e w7⟨rfl,aH⟩;have aK:=O (bi.o.trans aH);clear aH;go_wp2_with fail;have hD:w7.heap[w5.heap.size]?=some (.deferred (some [])):=(aK.o.block w5.heap.size Y).trans hK;refine jq (D:=w5.heap.size) rfl hD (results_tmp rfl _ _ _) ⟨?_,?_⟩
        ·show Ending.returned (s_ (ki (V.take 8)))=_
         rw[aO.o,HV.o,HT.o]
        ·have h1:=hC.o.trans ((IV aK.o (X:=fun k=>k=C∨C≤k) fun k hk=>.inr Y).trans (Chg.putObj (X:=fun k=>k=C∨C≤k) w7 w5.heap.size (.deferred none) (.inr Y)))
         exact⟨h1.os,h1.tape,h1.output,h1.size,fun k hk=>h1.block k hk (by have:=aU.o;omega)⟩
     case stop=>exact fun _ _ _ _ _ h _=>h.elim
end
def uA (w:Z)(p:Nat)(t:q):Prop:=Blk w p 170 (aL (df h0 t) (cJ t) ((t.length:Nat):Int))
theorem EC (w:Z):C_ 62 #[] w fun e w'=>∃ b,e=.returned (p_ b)∧w.heap.size≤b∧uA w' b []∧Bw_ w w':=FN w
theorem zy (p:Nat)(t s:q)(w:Z)(hp:uA w p t)(hn:t.length+s.length≤70368744177664):C_ 63 #[p_ p,s_ s] w fun e w'=>e=.returned (F 0)∧uA w' p (t++s)∧Chg (·=p) w w':=by
 obtain⟨e1,e2⟩:=pd h0 t s;have hl:=gU t;have h:=Ck p (df h0 t) (gy _ _ rfl) (cJ t) s t.length w hp Y Y;rw[e1,e2,←Jh]at h;exact h
theorem Cm (p:Nat)(t:q)(w:Z)(hp:uA w p t)(hn:t.length≤70368744177664):R_ 64 #[p_ p] w (s_ (cU t)):=by
 have hl:=gU t;have h:=ED p (df h0 t) (gy _ _ rfl) (cJ t) t.length w hp Y Y;rw[uX]at h;exact h
theorem uv (s:q)(w:Z)(hs:s.length≤70368744177664):R_ 37 #[s_ s] w (s_ (cU s)):=by
 have HS:=O hs;clear hs;go_enter func37,ntmps37;go_wp2_with fail;refine(EC w).mono ?_;rintro e w1⟨b,rfl,hb,g,aF⟩;have I:=O g;have a_:=O aF;clear g aF;go_wp2_with fail;refine(zy b [] s _ I.o (by have:=HS.o;simp;omega)).mono ?_;rintro e w2⟨rfl,a,c⟩;rw[JC]at a;have i:=O a;have L:=O c;clear a c;go_wp2_with fail;refine(Cm b s _ i.o HS.o).mono ?_;rintro e w3⟨rfl,al⟩;have aW:=O al;clear al;go_wp2_with fail;go_ret;have h2:Bw_ w w2:=a_.o.trans (L.o.below (fun k hk=>by subst hk;exact hb) a_.o.size);exact⟨rfl,h2.trans (aW.o.mono h2.size)⟩
theorem eZ (x:UInt32)(n:Nat)(w:Z)(h1:1≤n)(h2:n≤31):R_ 133 #[.int .u32 (U x),F n] w (.int .u32 (U (dK x n))):=by
 have n1:1≤(n:Int):=Y;have n2:(n:Int)≤31:=Y;go_enter func133,ntmps133;go_wp2;rw[Ao x n Y,xm x (32-n) Y,lI];go_wp2;go_ret;exact⟨rfl,iE _⟩
theorem E6 (n J X:Nat)(hJ:J<8)(hX:X%256=nx (8*n) J)(ab:q):ab++((be8 (8*n)).take J++[UInt8.ofNat X])=ab++(be8 (8*n)).take (J+1):=by
 have h:=Aj n J _ hJ rfl;injection h with _ h
 have e:UInt8.ofNat X=(be8 (8*n)).getD J 0:=by
  apply UInt8.toNat_inj.1;rw[UInt8.toNat_ofNat'];have:(nx (8*n) J:Int)=(((be8 (8*n)).getD J 0).toNat:Int):=h;omega
 rw[xh _ _ hJ,e]
theorem zr (n:Nat):(be8 n).length≤8:=I6 8
theorem E7 (l:q)(w:Z)(hl:l.length≤1099511627776):R_ 95 #[s_ l] w (s_ (eB l l.length)):=by
 have hz:=Cs l.length;have H1:=O (uC l);have bB:=fun (w:Z) (x:Int)=>wW (P:=prog) 114 9 5 underlying114 underlying5 underlying9 w x;have cr:=O bB;clear bB;go_enter func95,ntmps95;go_wp2
 go_loop [0] (fun v=>∃ k:Nat,k≤zc l.length∧v=s_ (kn l k)) (fun v=>9000000000000-uW (some v))
 case atStart=>exact⟨0,Jl _,by rw[H1.o]⟩
 case round =>
  obtain⟨k,hk,rfl⟩:=hrel;have b:=gz l k
  by_cases a:k<zc l.length
  ·have m1:(((kn l k).length:Int)%64 != 56)=true:=by have:=Cr l.length k a;rw[bne_iff_ne];omega
   have HS:=O (rO l k);have HL:=O b;clear b;have ad:(kn l k).length≤2000000000000:=by have:=HL.o;omega
   generalize kn l k=ab at *;go_wp2
   go_round
   case rel=>exact⟨k+1,by omega,by rw[←HS.o];exact FP (ic ab [0])⟩
   case measure =>
    rw[show bs ab++⟨#[0]⟩=bs (ab++[0]) from ic ab [0]];simp[uW,cB];omega
  ·obtain rfl:k=zc l.length:=Y
   have m1:(((kn l (zc l.length)).length:Int)%64 != 56)=false:=by have:=xz l.length;rw[bne_eq_false_iff_eq];omega
   obtain⟨ab,hZ⟩:=H (kn l (zc l.length));rw[←hZ]at m1 b⊢;have HZ:=O hZ;have c:=O (show ab.length≤2000000000000 by omega);clear hZ hk a b hz;go_wp2;clear m1
   go_loopw [0,4] (fun v i wx=>∃ j:Nat,j≤8∧i=F (7-(j:Int))∧v=s_ (ab++(be8 (8*l.length)).take j)∧Hid (Bw_ w wx)) (fun v _ _=>9000000000000-uW (some v))
   case atStart=>exact⟨0,by omega,rfl,by simp,iE _⟩
   case round =>
    obtain⟨j,hj,rfl,rfl,HB⟩:=hrel;have bD:=O (show(ab++(be8 (8*l.length)).take j).length≤2000000000010 by rw[Jh,JH];have:=c.o;simp[be8];omega)
    by_cases o:j<8
    ·have HJ:=O o
     clear o hj;have hj:=HJ.o;obtain⟨jn,m⟩:=H (j+1);have u:=O m;clear m;have bB:=cr.o;rcases(by omega:j=0∨j=1∨j=2∨j=3∨j=4∨j=5∨j=6∨j=7) with rfl|rfl|rfl|rfl|rfl|rfl|rfl|rfl
     all_goals
      clear hj;have ai:=c.o;have K:=zr (8*l.length);go_wp2;have m:=u.o;refine⟨⟨jn,by omega,?_,?_,HB.o.trans ((af _ _).mono HB.o.size)⟩,?_⟩
      ·subst m;rfl
      ·subst m;exact FP (congrArg bs (E6 l.length _ _ HJ.o (by simp only[nx];omega) ab))
      ·simp[uW];omega
    ·obtain rfl:j=8:=Y
     go_wp2;go_ret;refine⟨?_,HB.o⟩;show Ending.returned (s_ (ab++(be8 (8*l.length)).take 8))=_;rw[HZ.o]
     rfl
section
variable {P:Program}
theorem rE (z:V_)(n:Nat):madeCells #[z] n=(List.replicate n z).toArray:=by
 apply Array.ext
 ·simp[madeCells]
 ·intro i h1 h2
  simp[madeCells];simp[madeCells,Nat.mod_one]
theorem wk (t e:T_)(z:V_)(bytes:Nat)(ht:P.underlying t=some (.slice e))(r:(P.info? e).map (fun i=>(i.zero,i.size,i.bytes))=some (some z,1,bytes))(hz:z.cells=#[z])(n:Nat)(hb:(bytes:Int)*(n:Int)≤281474976710656)(hn:n≤140737488355328)(w:Z):(Instr.makeSlice t (F n) (F n)).run P w=.ok (.slice (some ⟨w.heap.size,0,none⟩) n n) (w.alloc (.cells (List.replicate n z).toArray e)):=by
 obtain⟨i,hi,C,ao,aG⟩:=info_parts r;have:=run_make (P:=P) w t e i z ht hi C .i64 .i64 n n Y (Int.le_refl _) (by rw[aG];exact hb) Y;rw[this,hz,ao,Nat.mul_one,Je,rE]
end
theorem tG (l:q)(w:Z)(hl:64≤l.length):C_ 132 #[s_ l] w fun e w'=>e=.returned (.slice (some ⟨w.heap.size,0,none⟩) 64 64)∧Blk w' w.heap.size 167 (aB (wl l 64))∧Bw_ w w':=by
 have bJ:(Instr.makeSlice 131 (F 64) (F 64)).run prog w=.ok (.slice (some ⟨w.heap.size,0,none⟩) 64 64) (w.alloc (.cells (List.replicate 64 (.int .u32 0)).toArray 167)):=wk (P:=prog) 131 167 (.int .u32 0) 4 underlying131 q_ rfl 64 d_ d_ w;go_enter func132,ntmps132;go_wp2;clear bJ
 go_loopw [4] (fun t wx=>∃ k:Nat,k≤16∧t=F k∧Hid (Blk wx w.heap.size 167 (aB (jh l k)))∧Hid (Bw_ w wx)) (fun t _=>16-(intOf t).toNat)
 case atStart=>exact⟨0,by omega,rfl,Blk.new w _ _,af w _⟩
 case round =>
  obtain⟨k,hk,rfl,HB,HW⟩:=hrel
  by_cases aA:k<16
  ·exact L6
  ·have hk:k=16:=Y
   subst hk;go_wp2
   go_loopw [5] (fun t wx=>∃ k:Nat,16≤k∧k≤64∧t=F k∧Hid (Blk wx w.heap.size 167 (aB (jh l k)))∧Hid (Bw_ w wx)) (fun t _=>64-(intOf t).toNat)
   case atStart=>exact⟨16,by omega,by omega,rfl,HB,HW⟩
   case round =>
    obtain⟨k,hk,H,rfl,HB,HW⟩:=hrel
    by_cases aA:k<64
    ·have k1:(k:Int)<64:=Y
     have k0:=nn_ k;have x0:(0:Int)≤(k:Int)-15:=Y;have x1:(k:Int)-15<64:=Y;have y0:(0:Int)≤(k:Int)-2:=Y;have y1:(k:Int)-2<64:=Y;have z0:(0:Int)≤(k:Int)-16:=Y;have z1:(k:Int)-16<64:=Y;have v0:(0:Int)≤(k:Int)-7:=Y;have v1:(k:Int)-7<64:=Y;have g:=HB.o.cell (iL l k (k-15) Y Y);have c2:=HB.o.cell (iL l k (k-2) Y Y);have f:=HB.o.cell (iL l k (k-16) Y Y);have c7:=HB.o.cell (iL l k (k-7) Y Y);have hc:=mq l k Y;rw[pC l k hk]at hc;generalize (wl l k).getD (k-15) 0=a at *;generalize (wl l k).getD (k-2) 0=b at *;generalize (wl l k).getD (k-16) 0=c at *;generalize (wl l k).getD (k-7) 0=d at *;have HC:=O hc;clear hc;go_wp2;refine rk_ [(4,.exact Bel (.int .u32 (U a))),(5,.exact Bel (.int .u32 (U (dK a 7)))),(10,.exact Bel (.int .u32 (U a))),(11,.exact Bel (.int .u32 (U (dK a 18)))),(17,.exact Bel (.int .u32 (U a)))] ?_;refine cG ?_;refine gl_ g ?_;refine gj_ (fun w' G hB hS hG=>?_) ?_
     ·go_simp
      exact aT hG (eZ a 7 _ Y Y)
     refine gl_ g ?_;refine gj_ (fun w' G hB hS hG=>?_) ?_
     ·go_simp
      exact aT hG (eZ a 18 _ Y Y)
     refine gl_ g ?_
     (try simp only[fR,eE,eF,fQ,fP,eD,lI,iF,iX,iG,fV,fU,fT,fS])
     (intro w' hB hA;simp only[aD.all_some,IL,and_true]at hA)
     have bn:dK a 7 ^^^ dK a 18 ^^^ a >>> 3=sg0 a:=rfl;rw[bn];replace c2:=IF hB c2;replace f:=IF hB f;replace c7:=IF hB c7;have a9:=O (HB.o.below hB);have bm:=O (bt HW.o hB);clear hA hB bn g HB HW x0 x1;go_wp2;refine rk_ [(4,.exact Bel (.int .u32 (U b))),(5,.exact Bel (.int .u32 (U (dK b 17)))),(10,.exact Bel (.int .u32 (U b))),(11,.exact Bel (.int .u32 (U (dK b 19)))),(17,.exact Bel (.int .u32 (U b)))] ?_;refine cG ?_;refine gl_ c2 ?_;refine gj_ (fun w' G hB hS hG=>?_) ?_
     ·go_simp
      exact aT hG (eZ b 17 _ Y Y)
     refine gl_ c2 ?_;refine gj_ (fun w' G hB hS hG=>?_) ?_
     ·go_simp
      exact aT hG (eZ b 19 _ Y Y)
     refine gl_ c2 ?_
     (try simp only[fR,eE,eF,fQ,fP,eD,lI,iF,iX,iG,fV,fU,fT,fS])
     intro w3 hB hA;have bp:dK b 17 ^^^ dK b 19 ^^^ b >>> 10=sg1 b:=rfl;rw[bp];replace f:=IF hB f;replace c7:=IF hB c7;have aW:=O (a9.o.below hB);have n:=O (bt bm.o hB);clear hA hB bp c2 a9 bm y0 y1;go_wp2;refine aU 17 [(7,.exact Bel (.int .u32 (U d))),(15,.exact Bel (.int .u32 (U c)))] q_ q_ ?_;simp only[Jw,JE,Ju,JF];refine cG ?_;refine gl_ c7 ?_;refine gl_ f ?_
     (try simp only[fR,eE,eF,fQ,fP,eD,lI,iF,iX,iG,fV,fU,fT,fS])
     intro w4 hB hA;have u:=aW.o.below hB;have ai:k<(aB (jh l k)).length:=by rw[aI,gA l k Y];omega
     obtain⟨i,c1⟩:=u.ex ai;have f1:=u.free ai;have HS:=O (u.set k (.int .u32 (U (sg1 b+d+sg0 a+c))));have ba:=O (bt n.o hB);clear u hB ai hA c7 f;go_wp2;refine⟨?_,by simp[intOf];omega⟩
     (repeat apply Exists.intro)
     refine⟨⟨k+1,by omega,by omega,by go_num,?_,ba.o.setCell (I6 _) _⟩,rfl⟩;have:=HS.o;have hc:=HC.o;rw[show c+sg0 a+d+sg1 b=sg1 b+d+sg0 a+c by ac_rfl]at hc;rw[ie,hc]at this;exact this
    ·have hk:k=64:=Y
     subst hk;rw[uD]at HB;go_wp2;go_ret;exact⟨rfl,HB.o,HW.o⟩
theorem zY:(Tryz.prog.info? 167).map (fun i=>(i.zero,i.size,i.bytes))=some (some (.int .u32 0),1,4):=q_
theorem n8 (l:LW_):∀ u∈aB l,u.oneCell'=true:=by
 intro u hu;simp only[aB,List.mem_map]at hu;obtain⟨x,_,rfl⟩:=hu;rfl
theorem xJ (l m:LW_):aB (l++m)=aB l++aB m:=by simp[aB]
def Cu (h v:LW_)(k:Nat):LW_:=List.zipWith (·+·) (h.take k) (v.take k)
theorem Ct (h v:LW_)(hl:h.length=8)(hv:v.length=8):Cu h v 8=List.zipWith (·+·) h v:=by
 simp[Cu,I5 (Nat.le_of_eq hl),I5 (Nat.le_of_eq hv)]
theorem Ap (h v:LW_)(hl:h.length=8)(hv:v.length=8)(k:Nat)(hk:k<8):Cu h v k++[h.getD k 0+v.getD k 0]=Cu h v (k+1):=by
 obtain⟨a,b,c,d,e,f,g,i,rfl⟩:=qS h hl;obtain⟨a',b',c',m,e',K,D,u,rfl⟩:=qS v hv
 match k,hk with
 | 0,_|1,_|2,_|3,_|4,_|5,_|6,_|7,_=>rfl
theorem aO.u {w:Z}{a:OA_}{n c:Nat}{l:LW_}(h:aO w (.slice a n c) n (aB l))(k:Nat)(hk:k<l.length):∃ b aL,a=some ⟨b,aL,none⟩∧w.cell? ⟨b,aL+k,none⟩=some (.int .u32 (U (l.getD k 0))):=by
 obtain⟨a',c',hv,_,hc⟩:=h;injection hv with e1 _ _
 subst e1;exact hc k _ (CJ l k l.length rfl hk)
theorem yi (vh vk:V_)(h:LW_)(hl:h.length=8)(l:q)(M:64≤l.length)(w:Z)(hh:aO w vh 8 (aB h))(hk:aO w vk 64 (aB iw)):C_ 96 #[vh,vk,s_ l] w fun e w'=>∃ v,e=.returned v∧w'.ownsRow w.heap.size 167 1 v 8 (aB (jg h l))∧Bw_ w w':=by
 have n:=hh;obtain⟨ah,ch,rfl,_,_⟩:=hh;have u:=hk;obtain⟨ak,ck,rfl,_,_⟩:=hk;obtain⟨HH,HK,HL⟩:=zH3 n u hl;clear n u hl;go_enter func96,ntmps96;go_wp2_with fail;refine(tG l w M).mono ?_;rintro e w1⟨rfl,aA,aF⟩;have a_:=O aF;obtain⟨D,hD⟩:=H w.heap.size;rw[←hD]at aA⊢;have HD:=O hD;have HW:=O aA;have ar:=aF.size;clear hD aF aA;have bF:=O (HH.o.below a_.o);go_wp2_with (at_builtin;go_must (refine ny w1 (aB h) 167 rfl _ _ 131 rfl w1.heap.size (.int .u32 0) 1 4 underlying131 zY rfl d_ _ 0 [] rfl (World.ownsRow_nil _ _ _ _) _ 8 rfl bF.o (by rw[aI,HL.o]) (n8 h) d_ d_ (I6 _) ?_));intro v0 w2 f ax;obtain⟨bm,ag,i,a9⟩:=zH4 (HW.o.below ax) ((HK.o.below a_.o).below ax) ((HH.o.below a_.o).below ax) (bt a_.o ax);have B:=ax.size;obtain⟨a0,c0,rfl⟩:=ay f;have a1:=O (IN f);clear f ax HW bF a_;go_wp2
 go_loopw [8,9] (fun v t wx=>∃ (k:Nat) (a:OA_) (c:Nat),k≤64∧t=F k∧v=.slice a 8 c∧Hid (aO wx (.slice a 8 c) 8 (aB (fG (wl l 64) h k)))∧Hid (Bw_ w2 wx)) (fun _ t _=>64-(intOf t).toNat)
 case atStart=>exact⟨0,a0,c0,by omega,rfl,rfl,a1,iE _⟩
 case round =>
  clear a1;obtain⟨k,a,c,hk,rfl,rfl,HV,HB⟩:=hrel
  by_cases ac:k<64
  ·have k1:(k:Int)<64:=Y
   have k0:=nn_ k;have ab:fG (wl l 64) h (k+1)=step (iw.getD k 0) ((wl l 64).getD k 0) (fG (wl l 64) h k):=rfl;obtain⟨v0,v1,v2,v3,m,v5,E,X,hv⟩:=qS _ (eu (wl l 64) h HL.o k);rw[hv]at HV ab;obtain⟨b,aL,rfl,d0⟩:=HV.o.u 0 i_;obtain⟨_,_,e1,d1⟩:=HV.o.u 1 i_;cases e1;obtain⟨_,_,e1,d2⟩:=HV.o.u 2 i_;cases e1;obtain⟨_,_,e1,d3⟩:=HV.o.u 3 i_;cases e1;obtain⟨_,_,e1,d4⟩:=HV.o.u 4 i_;cases e1;obtain⟨_,_,e1,d5⟩:=HV.o.u 5 i_;cases e1;obtain⟨_,_,e1,d6⟩:=HV.o.u 6 i_;cases e1;obtain⟨_,_,e1,d7⟩:=HV.o.u 7 i_;cases e1;have e0:wr.cell? ⟨b,aL,none⟩=some (.int .u32 (U v0)):=d0;replace d1:wr.cell? ⟨b,aL+1,none⟩=some (.int .u32 (U v1)):=d1;replace d2:wr.cell? ⟨b,aL+2,none⟩=some (.int .u32 (U v2)):=d2;replace d3:wr.cell? ⟨b,aL+3,none⟩=some (.int .u32 (U v3)):=d3;replace d4:wr.cell? ⟨b,aL+4,none⟩=some (.int .u32 (U m)):=d4;replace d5:wr.cell? ⟨b,aL+5,none⟩=some (.int .u32 (U v5)):=d5;replace d6:wr.cell? ⟨b,aL+6,none⟩=some (.int .u32 (U E)):=d6;replace d7:wr.cell? ⟨b,aL+7,none⟩=some (.int .u32 (U X)):=d7;clear d0;have cw:=(bm.o.below HB.o).cell (CJ (wl l 64) k 64 (dN l 64) ac);obtain⟨bk,ok,rfl,ck⟩:=(ag.o.below HB.o).u k (by rw[wv];exact ac);generalize (wl l 64).getD k 0=ww at *;generalize iw.getD k 0=kk at *;have aY:=O ab;clear ab hv;go_wp2;refine rk_ [(2,.exact Bel (.int .u32 (U m))),(3,.exact Bel (.int .u32 (U (dK m 6)))),(6,.exact Bel (.int .u32 (U m))),(7,.exact Bel (.int .u32 (U (dK m 11)))),(11,.exact Bel (.int .u32 (U m))),(12,.exact Bel (.int .u32 (U (dK m 25))))] ?_
   refine cG ?_;refine gl_ d4 ?_;refine gj_ (fun w' G hB hS hG=>?_) ?_
   ·go_simp
    exact aT hG (eZ m 6 _ Y Y)
   refine gl_ d4 ?_;refine gj_ (fun w' G hB hS hG=>?_) ?_
   ·go_simp
    exact aT hG (eZ m 11 _ Y Y)
   refine gl_ d4 ?_;refine gj_ (fun w' G hB hS hG=>?_) ?_
   ·go_simp
    exact aT hG (eZ m 25 _ Y Y)
   (try simp only[fR,eE,eF,fQ,fP,eD,lI,iF,iX,iG,fV,fU,fT,fS])
   intro w3 hB hA;replace e0:=IF hB e0;replace d1:=IF hB d1;replace d2:=IF hB d2;replace d3:=IF hB d3;replace d4:=IF hB d4;replace d5:=IF hB d5;replace d6:=IF hB d6;replace d7:=IF hB d7;replace cw:=IF hB cw;replace ck:=IF hB ck;have aW:=O (HB.o.trans (hB.mono HB.o.size));clear hA hB;go_wp2;refine rk_ [(2,.exact Bel (.int .u32 (U v0))),(3,.exact Bel (.int .u32 (U (dK v0 2)))),(6,.exact Bel (.int .u32 (U v0))),(7,.exact Bel (.int .u32 (U (dK v0 13)))),(11,.exact Bel (.int .u32 (U v0))),(12,.exact Bel (.int .u32 (U (dK v0 22))))] ?_;refine cG ?_;refine gl_ e0 ?_;refine gj_ (fun w' G hB hS hG=>?_) ?_
   ·go_simp
    exact aT hG (eZ v0 2 _ Y Y)
   refine gl_ e0 ?_;refine gj_ (fun w' G hB hS hG=>?_) ?_
   ·go_simp
    exact aT hG (eZ v0 13 _ Y Y)
   refine gl_ e0 ?_;refine gj_ (fun w' G hB hS hG=>?_) ?_
   ·go_simp
    exact aT hG (eZ v0 22 _ Y Y)
   (try simp only[fR,eE,eF,fQ,fP,eD,lI,iF,iX,iG,fV,fU,fT,fS])
   intro w4 hB hA;replace e0:=IF hB e0;replace d1:=IF hB d1;replace d2:=IF hB d2;replace d3:=IF hB d3;replace d4:=IF hB d4;replace d5:=IF hB d5;replace d6:=IF hB d6;replace d7:=IF hB d7;replace cw:=IF hB cw;replace ck:=IF hB ck;have ba:=O (aW.o.trans (hB.mono aW.o.size));clear hA hB;go_wp2;go_quiet (fail);simp only[Gf]
   (try simp only[fR,eE,eF,fQ,fP,eD,lI,iF,iX,iG,fV,fU,fT,fS])
   have I:X+(dK m 6 ^^^ dK m 11 ^^^ dK m 25)+(m &&& v5 ^^^ ~~~m &&& E)+kk+ww=tC m v5 E X kk ww:=rfl;rw[I];clear I d7 cw ck;obtain⟨w5,d⟩:∃ wq,wq=w4.drewN nq:=⟨_,rfl⟩
   rw[←d];have hB:Bw_ w4 w5:=by rw[d];exact II w4 nq
   clear d;replace e0:=IF hB e0;replace d1:=IF hB d1;replace d2:=IF hB d2;replace d3:=IF hB d3;replace d4:=IF hB d4;replace d5:=IF hB d5;replace d6:=IF hB d6;have aJ:=O (ba.o.trans (hB.mono ba.o.size));clear hB nq;go_wp2;go_quiet (fail)
   (try simp only[fR,eE,eF,fQ,fP,eD,lI,iF,iX,iG,fV,fU,fT,fS])
   have aa:(dK v0 2 ^^^ dK v0 13 ^^^ dK v0 22)+(v0 &&& v1 ^^^ v0 &&& v2 ^^^ v1 &&& v2)=CO v0 v1 v2:=rfl;rw[aa];clear aa;obtain⟨w6,d⟩:∃ wq,wq=w5.drewN nq:=⟨_,rfl⟩
   rw[←d];have hB:Bw_ w5 w6:=by rw[d];exact II w5 nq
   clear d;replace e0:=IF hB e0;replace d1:=IF hB d1;replace d2:=IF hB d2;replace d3:=IF hB d3;replace d4:=IF hB d4;replace d5:=IF hB d5;replace d6:=IF hB d6;have bn:=O (aJ.o.trans (hB.mono aJ.o.size));have N:=O (show fG (wl l 64) h (k+1)=[tC m v5 E X kk ww+CO v0 v1 v2,v0,v1,v2,v3+tC m v5 E X kk ww,m,v5,E] by rw[aY.o];rfl);clear hB nq aY;generalize tC m v5 E X kk ww=t1 at *;generalize CO v0 v1 v2=t2 at *;go_wp2;refine rk_ [(5,.exact Bel (.int .u32 (U v0))),(8,.exact Bel (.int .u32 (U v1))),(11,.exact Bel (.int .u32 (U v2))),(14,.exact Bel (.int .u32 (U v3))),(19,.exact Bel (.int .u32 (U m))),(22,.exact Bel (.int .u32 (U v5))),(25,.exact Bel (.int .u32 (U E))),(26,dc 8 (aB [t1+t2,v0,v1,v2,v3+t1,m,v5,E]))] ?_;refine cG ?_;refine gl_ e0 ?_;refine gl_ d1 ?_;refine gl_ d2 ?_;refine gl_ d3 ?_;refine gl_ d4 ?_;refine gl_ d5 ?_;refine gl_ d6 ?_
   (try simp only[fR,eE,eF,fQ,fP,eD,lI,iF,iX,iG,fV,fU,fT,fS])
   refine gk_ (dc 8 (aB [t1+t2,v0,v1,v2,v3+t1,m,v5,E])) (fun w' G hB hS hG=>?_) (fun x K hK=>?_)
   ·go_simp
    exact ew hG rfl
   obtain⟨ad,c⟩:=x;refine cO ?_;clear hK K;intro w7 hB hA;have hr:Hid (aO w7 (.slice ad 8 c) 8 (aB [t1+t2,v0,v1,v2,v3+t1,m,v5,E])):=mn hA;have aK:=O (bn.o.trans (hB.mono bn.o.size));clear hA hB e0 d1 d2 d3 d4 d5 d6;go_wp2;refine⟨?_,by simp[intOf];omega⟩;exact⟨k+1,ad,c,by omega,by go_num,rfl,by rw[N.o];exact hr.o,aK.o⟩
  ·obtain rfl:k=64:=Y
   obtain⟨Wr,bp⟩:=H wr;subst bp;obtain⟨V,hV⟩:=H (fG (wl l 64) h 64);rw[←hV]at HV;have ae:=O (show V.length=8 by rw[hV];exact eu _ _ HL.o 64);have bb:=O hV;clear hV;have af:=O (i.o.below HB.o);have ai:=HB.o.size;go_wp2
   go_loopw [14,15] (fun v t wx=>∃ k:Nat,k≤8∧t=F k∧Hid (wx.ownsRow Wr.heap.size 167 1 v k (aB (Cu h V k)))∧Hid (Bw_ Wr wx)) (fun _ t _=>8-(intOf t).toNat)
   case atStart=>exact⟨0,by omega,rfl,World.ownsRow_nil _ _ _ _,iE _⟩
   case round =>
    obtain⟨k,hk,rfl,HO,HX⟩:=hrel;obtain⟨ao,co,rfl⟩:=ay HO.o
    by_cases J:k<8
    ·have k1:(k:Int)<8:=Y
     have k0:=nn_ k;obtain⟨bh,oh,rfl,s⟩:=(af.o.below HX.o).u k (by rw[HL.o];exact J);obtain⟨bv,ov,rfl,dv⟩:=(HV.o.below HX.o).u k (by rw[ae.o];exact J);have HZ:=O (Ap h V HL.o ae.o k J);generalize h.getD k 0=hh at *;generalize V.getD k 0=vv at *;go_wp2;refine aU 11 [(4,.exact Bel (.int .u32 (U hh))),(8,.exact Bel (.int .u32 (U vv))),(10,dc 1 (aB [hh+vv]))] q_ q_ ?_;simp only[Jw,JE,Ju,JF];refine cG ?_;refine gl_ s ?_;refine gl_ dv ?_
     (try simp only[fR,eE,eF,fQ,fP,eD,lI,iF,iX,iG,fV,fU,fT,fS])
     refine gk_ (dc 1 (aB [hh+vv])) (fun w' G hB hS hG=>?_) (fun x K hK=>?_)
     ·go_simp
      exact ew hG rfl
     obtain⟨ad,c⟩:=x;refine cO ?_;clear hK K;intro w3 hB hA;have hr:Hid (aO w3 (.slice ad 1 c) 1 (aB [hh+vv])):=mn hA;have bf:=O (cX HO.o hB);have a4:=O (bt HX.o hB);have j:Wr.heap.size≤w3.heap.size:=a4.o.size;clear hA hB s dv;go_wp2_with (at_builtin;go_must (refine ny w3 (aB [hh+vv]) 167 rfl _ _ 131 rfl Wr.heap.size (.int .u32 0) 1 4 underlying131 zY rfl d_ _ _ _ rfl bf.o _ 1 rfl hr.o rfl (n8 _) Y d_ j ?_);intro v' w4 r aQ);refine⟨?_,by simp[intOf];omega⟩
     (repeat apply Exists.intro)
     refine⟨⟨k+1,by omega,by go_num,?_,a4.o.trans aQ⟩,rfl⟩;rw[←xJ,HZ.o]at r;exact r
    ·obtain rfl:k=8:=Y
     have HZ:=O (Ct h V HL.o ae.o);go_wp2;go_ret;refine⟨_,rfl,?_,?_⟩
     ·have:=fq HO.o (show w.heap.size≤Wr.heap.size by omega)
      rw[HZ.o,bb.o]at this;exact this
     ·exact bt a9.o (bt HB.o HX.o)
theorem Cw (x:UInt32):(#[.int .u8 (U x / 16777216),.int .u8 (U x / 65536%256),.int .u8 (U x / 256%256),.int .u8 (U x%256)]:AV_)=(aW (wb x)).toArray:=by
 exact Mn
theorem Dg (vk vh:V_)(l:q)(w:Z)(hl:l.length≤1099511627776)(hk:aO w vk 64 (aB iw))(hh:aO w vh 8 (aB h0)):R_ 70 #[s_ l,vk,vh] w (s_ (cU l)):=by
 obtain⟨ah,ch,rfl,bN⟩:=id hh;obtain⟨ak,ck,rfl,bn⟩:=id hk;have HH:=O hh;have HK:=O hk;clear hh hk bN bn;go_enter func70,ntmps70;go_wp2_with fail;refine(E7 l w hl).mono ?_;rintro e w1⟨rfl,aF⟩;obtain⟨a_,I,t⟩:=zH3 aF (HH.o.below aF) (HK.o.below aF);obtain⟨T,hT⟩:=H (eB l l.length);have m:=O (show T.length%64=0 by rw[hT];exact oJ _ _);have D:=O (show T.length≤1099511627900 by rw[hT,kB];have:=Cs l.length;omega);have HS:=O (show ki (df h0 T)=cU l by rw[hT];rfl);rw[←hT];clear hT aF HH HK;go_wp2
 go_loopw [2,7] (fun v i wx=>∃ (k:Nat) (h:LW_) (a:OA_) (c:Nat),k≤T.length∧i=F k∧v=.slice a 8 c∧h.length=8∧Hid (k%64=0)∧Hid (aO wx (.slice a 8 c) 8 (aB h))∧Hid (df h0 T=df h (T.drop k))∧Hid (Bw_ w1 wx)) (fun _ i _=>T.length-(intOf i).toNat)
 case atStart=>exact⟨0,h0,ah,ch,by omega,rfl,rfl,rfl,rfl,I,rfl,iE _⟩
 case round =>
  obtain⟨k,h,a,c,hk,rfl,rfl,u,HM,HV,HA,HB⟩:=hrel;have E:=D.o;have n:=O u;clear u
  by_cases bq:k<T.length
  ·have ac:k+64≤T.length:=by have:=HM.o;have:=m.o;omega
   have k0:=nn_ k;have k1:(k:Int)<T.length:=Y;have k2:(k:Int)+64≤(T.length:Int):=Y;have HC:=O (iV (T.drop k) (by rw[JG];omega));have b:=O (show 64≤((T.drop k).take 64).length by simp;omega);go_wp2_with fail;refine(yi _ _ h n.o _ b.o wr HV.o (t.o.below HB.o)).mono ?_;rintro e w2⟨v2,rfl,f,ax⟩;obtain⟨a2,c2,rfl⟩:=ay f;have ae:=O (IN f);have a9:=O (HB.o.trans (ax.mono HB.o.size));clear f ax;go_wp2;refine⟨?_,by simp[intOf];omega⟩;refine⟨k+64,_,a2,c2,by omega,by go_num,rfl,fc _ _ n.o,by have:=HM.o;show(k+64)%64=0;omega,ae.o,?_,a9.o⟩;show df h0 T=df _ (T.drop (k+64));rw[HA.o];unfold df;rw[HC.o,List.foldl_cons,Jv]
  ·obtain rfl:k=T.length:=Y
   have d:df h0 T=h:=by
    have:=HA.o;rw[List.drop_length]at this;exact this
   have HF:=O d;obtain⟨Wr,bp⟩:=H wr;subst bp;clear d HA;go_wp2
   go_loopw [8,9] (fun v i wx=>∃ k:Nat,k≤8∧i=F k∧Hid (wx.ownsRow Wr.heap.size 5 1 v (4*k) (aW (ki (h.take k))))∧Hid (Bw_ Wr wx)) (fun _ i _=>8-(intOf i).toNat)
   case atStart=>exact⟨0,by omega,rfl,World.ownsRow_nil _ _ _ _,iE _⟩
   case round =>
    obtain⟨k,L,rfl,HO,HX⟩:=hrel;obtain⟨ao,co,rfl⟩:=ay HO.o
    by_cases J:k<8
    ·have k1:(k:Int)<8:=Y
     have k0:=nn_ k;obtain⟨bh,oh,rfl,s⟩:=(HV.o.below HX.o).u k (by rw[n.o];exact J);have bb:=O (su h k (by rw[n.o];exact J));generalize h.getD k 0=x at *;have bN:U x<4294967296:=by have:=rL x;rw[dV];omega
     have B:0≤U x:=by rw[dV];omega
     go_wp2;refine aU 25 [(4,.exact Bel (.int .u32 (U x))),(10,.exact Bel (.int .u32 (U x))),(16,.exact Bel (.int .u32 (U x))),(22,.exact Bel (.int .u32 (U x))),(24,dc 4 (aW (wb x)))] q_ q_ ?_;simp only[Jw,JE,Ju,JF];refine cG ?_;refine gl_ s ?_;refine gl_ s ?_;refine gl_ s ?_;refine gl_ s ?_;refine gk_ (dc 4 (aW (wb x))) (fun w' G hB hS hG=>?_) (fun x K hK=>?_)
     ·go_simp
      exact ew hG (Cw x)
     obtain⟨ad,c⟩:=x;refine cO ?_;clear hK K;intro w3 hB hA;have hr:Hid (aO w3 (.slice ad 4 c) 4 (aW (wb x))):=mn hA;have bf:=O (cX HO.o hB);have a4:=O (bt HX.o hB);have j:Wr.heap.size≤w3.heap.size:=a4.o.size;clear hA hB s;go_wp2_with (at_builtin;go_must (refine ny w3 (aW (wb x)) 5 rfl _ _ 114 rfl Wr.heap.size (.int .u8 0) 1 1 underlying114 nV rfl d_ _ _ _ rfl bf.o _ 4 rfl hr.o rfl (rh _) Y d_ j ?_);intro v' w4 r aQ);refine⟨?_,by simp[intOf];omega⟩;rw[←rj,←bb.o]at r
     first
      | exact⟨k+1,by omega,by go_num,r,a4.o.trans aQ⟩
      | ((repeat apply Exists.intro);exact⟨⟨k+1,by omega,by go_num,r,a4.o.trans aQ⟩,rfl⟩)
    ·obtain rfl:k=8:=Y
     have N:=HO.o;have HZ:=O (vV h n.o);have bB:=qV 114 9 5 underlying114 underlying5 underlying9 _ _ _ _ _ N;clear N;go_wp2;go_ret;refine⟨?_,bt a_.o (bt HB.o HX.o)⟩;show Ending.returned (s_ (ki (h.take 8)))=_;rw[HZ.o,←HF.o,HS.o]
theorem CL (w:Z):C_ 69 #[] w fun e w'=>∃ a b,e=.returned (.tuple #[.slice (some ⟨a,0,none⟩) 64 64,.slice (some ⟨b,0,none⟩) 8 8])∧aO w' (.slice (some ⟨a,0,none⟩) 64 64) 64 (aB iw)∧aO w' (.slice (some ⟨b,0,none⟩) 8 8) 8 (aB h0)∧Bw_ w w':=by
 go_enter func69,ntmps69;go_wp2;go_ret2;have h1:=aO.new w (aB iw) 64 167 64;have h2:=aO.new (w.alloc (.cells (aB iw).toArray 167)) (aB h0) 8 167 8;rw[show(w.alloc (.cells (aB iw).toArray 167)).heap.size=w.heap.size+1 by simp]at h2;exact⟨_,_,rfl,h1.below (af _ _),h2,bt (af _ _) (af _ _)⟩
theorem qb (l:q)(w:Z)(hl:l.length≤1099511627776):R_ 41 #[s_ l] w (s_ (cU l)):=by
 go_enter func41,ntmps41;go_wp2_with fail;refine(CL w).mono ?_;rintro e w1⟨a,b,rfl,hk,hh,aF⟩;obtain⟨HK,HH,a_⟩:=zH3 hk hh aF;clear hk hh aF;go_wp2_with fail;refine mB_ (Dg _ _ l w1 hl HK.o HH.o) a_ fun w2 a9=>?_;go_wp2_with fail;go_ret;exact⟨rfl,a9.o⟩
section
variable {P:Program}
theorem oA (w:Z)(bZ:Nat)(t ty e:T_)(i:TypeInfo)(z:V_)(size bytes:Nat)(ht:P.underlying t=some (.slice e))(hi:P.info? e=some i)(hz:i.zero=some z)(f:i.size=size)(aS:i.bytes=bytes)(B:z.cells.size=size)(a6:0<size)(v:V_)(n:Nat)(xs:LV_)(aw:w.ownsRow bZ e size v n xs)(a:Addr)(m c:Nat)(l:LV_)(hl:l.length=m*size)(r:∀ j u,l[j]?=some u→w.cell? (a.add j)=some u)(h1:∀ u∈l,u.oneCell'=true)(M:n+m≤maxLen)(d:(n+m)*bytes≤140737488355328)(aB:bZ≤w.heap.size):∃ v' w',(Builtin.append_ #[t,t] ty #[v,.slice (some a) m c]).run P w=.ok v' w'∧w'.ownsRow bZ e size v' (n+m) (xs++l)∧w.grownBy w' v.ownBlock ∧((∀ k,k<w.heap.size→w'.heap[k]?=w.heap[k]?) ∨ ∃ g ah aH q,v=.slice (some ⟨g,0,none⟩) n ah∧w.heap[g]?=some (.cells aH e (0,0))∧w'.heap[g]?=some (.cells q e (0,0))∧q.size=aH.size∧q.toList.take ((n+m)*size)=xs++l∧(∀ k,k≠g→w'.heap[k]?=w.heap[k]?)):=by
 subst f;subst aS;have y:n+m≤9223372036854775807:=by simp only[maxLen]at M;omega
 have ai:(xs++l).length=(n+m)*i.size:=by rw[Jh,aw.1,hl,Nat.add_mul]
 have s:∀ (o:Nat),o<n+m→∀ (row:Option Nat),
   (w.drew.alloc (.cells (xs.toArray++l.toArray++Builtin.zeroCells z.cells (grownCap w (n+m) o e-(n+m))) e)).ownsRow bZ e i.size
    (.slice (some ⟨w.heap.size,0,none⟩) (n+m) (grownCap w (n+m) o e)) (n+m) (xs++l) ∧
   w.grownBy (w.drew.alloc (.cells (xs.toArray++l.toArray++Builtin.zeroCells z.cells (grownCap w (n+m) o e-(n+m))) e)) row:=by
  intro o ho row;have aJ:=grownCap_ge w (n+m) o e;have aI:grownCap w (n+m) o e≤maxLen:=grownCap_le_maxLen w (n+m) o e M;refine⟨⟨ai,.inr ⟨w.heap.size,_,_,rfl,aB,heap_alloc_new w.drew _,aJ,aI,?_,?_⟩⟩,⟨rfl,rfl,rfl,by simp,fun k hk _=>by first|exact heap_alloc_old w.drew _ k hk|exact heap_alloc_old w.drew _ hk⟩⟩
  ·simp only[Array.size_append,List.size_toArray,size_zeroCells,B,aw.1,hl,←Nat.add_mul]
   congr 1;omega
  ·simp only[Array.toList_append,Jg]
   rw[←Jg,←ai];exact List.take_left
 rcases aw.2 with ⟨rfl,rfl⟩|⟨g,ah,aH,rfl,J,hg,D,aI,aR,x⟩
 ·have hx:xs=[]:=I7 (by simpa using aw.1)
  subst hx
  by_cases hm:m=0
  ·subst hm
   have hn:l=[]:=I7 yzh;subst hn;refine⟨e_,w,?_,World.ownsRow_nil w bZ e i.size,⟨rfl,rfl,rfl,I6 _,fun _ _ _=>rfl⟩,.inl fun _ _=>rfl⟩;simp[Builtin.append_,run_underlying ht,sizeOf,typeInfo,hi,Builtin.lenOf,Builtin.firstCells,loadCells,loadCellsFrom]
  ·have hr:=run_append_nil (P:=P) w t ty e i z ht hi hz a m c l hl r Y Y (by have hb:=d;simp only[I9]at hb;omega)
   have aK:=s 0 Y (Value.ownBlock (e_));simp only[I9,JC,Array.empty_append]at aK⊢;exact⟨_,_,hr,aK.1,aK.2,.inl fun k hk=>aK.2.block k hk (by simp[Value.ownBlock])⟩
 ·by_cases b:n+m≤ah
  ·have C:n*i.size+l.length≤aH.size:=by rw[hl,aR,←Nat.add_mul];exact JO _ b
   have hr:=run_append_room (P:=P) w t ty e i ht hi g n ah aH hg a m c l hl r h1 b C;refine⟨_,_,hr,⟨ai,.inr ⟨g,ah,_,rfl,J,setRow_heap w g aH _ e _ hg,b,aI,?_,?_⟩⟩,⟨rfl,rfl,rfl,by simp,fun k _ hk=>setRow_other w g k _ (fun e=>hk (by simp[Value.ownBlock,e]))⟩,.inr ⟨g,ah,aH,_,rfl,hg,setRow_heap w g aH _ e _ hg,?_,?_,fun k hk=>setRow_other w g k _ (fun e=>hk e)⟩⟩
   ·simp only[List.size_toArray,Jh,JH,JG,Array.length_toList]
    omega
   ·rw[x,←ai]
    exact List.take_left
   ·simp only[List.size_toArray,Jh,JH,JG,Array.length_toList]
    omega
   ·rw[x,←ai]
    exact List.take_left
  ·have G:∀ j u,xs[j]?=some u→w.cell? ((⟨g,0,none⟩:Addr).add j)=some u:=aw.cells (g:=g) rfl
   have hr:=run_append_grow (P:=P) w t ty e i z ht hi hz ⟨g,0,none⟩ n ah xs aw.1 G a m c l hl r Y Y (growslice_fits Y d);have aK:=s ah Y (Value.ownBlock (.slice (some ⟨g,0,none⟩) n ah));exact⟨_,_,hr,aK.1,aK.2,.inl fun k hk=>(s ah Y none).2.block k hk i_⟩
end
theorem DI {w w':Z}{bZ:Nat}{e:T_}{size:Nat}{v:V_}{n:Nat}{xs:LV_}(h:w.ownsRow bZ e size v n xs)(h4:∀ k,k<w.heap.size→w'.heap[k]?=w.heap[k]?):w'.ownsRow bZ e size v n xs:=by
 refine⟨h.1,?_⟩;rcases h.2 with h5|⟨g2,c2,r,rfl,aY,c,hr⟩
 ·exact .inl h5
 ·refine .inr ⟨g2,c2,r,rfl,aY,?_,hr⟩
  rw[h4 g2 ?_]
  ·exact c
  ·rcases Nat.lt_or_ge g2 w.heap.size with hn|hn
   ·exact hn
   ·rw[Array.getElem?_eq_none hn]at c;cases c
theorem LI {T:Prop} (h:T:=by
 have C:=O (b8.o.below x.o);obtain⟨A1,C1,b_,D⟩:=C.o.headRun J (J:Int) rfl n;have E:=O D;have aj:=nn_ J;have ad:(J:Int)≤R.length:=by omega
 clear D;have K:(R.take J).length=J:=by rw[JH];omega
 have r:=O K;have aa:=O (show RP q (.slice A1 (R.take J).length C1) (R.take J) by rw[K];exact E.o);have B:=O (show Bw_ w q from bt HB.o x.o);clear K;go_wp2_with (at_builtin;go_must (refine ed q rfl _ _ 29 rfl underlying29 q.heap.size _ [] rfl (OP.nil _ _) _ (R.take J) rfl E.o (by rw[r.o];simp;omega) (I6 _) ?_));intro X w7 g aH;obtain⟨a7,c7,rfl⟩:=ay g;have bI:=O (show OP w7 q.heap.size _ (R.take J) from g);have aK:=O aH;have G:=aH.size;have e1:=IF (bt B.o aK.o) bC.o;have e2:=IF (bt B.o aK.o) cf.o;clear g aH b_;go_wp2_with (at_builtin;go_must (refine rm w7 p rfl _ _ 29 rfl underlying29 q.heap.size _ (R.take J) rfl bI.o _ rfl (by rw[r.o];omega) G ?_));intro v8 w8 m aG;obtain⟨a8,c8,rfl⟩:=ay m;have aO:=O m;have aU:=O (aK.o.trans aG);have ab:=aU.o.size;obtain⟨A2,C2,bh,I⟩:=(C.o.below aU.o).cutRun J (J:Int) rfl n;have L:=O I;clear m aG e1 e2 I;go_wp2_with (at_builtin;go_must (refine ed w8 rfl _ _ 29 rfl underlying29 q.heap.size _ (R.take J++[p]) rfl aO.o _ (R.drop J) rfl L.o (by rw[Jh,r.o,JG];simp;omega) ab ?_));intro S w9 a_ az
 have cI:=O (show OP w9 w.heap.size S (srt (l.take (k+1))) by
  rw[d.o];have:=OP.mono a_ (show w.heap.size≤q.heap.size from B.o.size);simpa[Jg] using this)
 have bG:=O (show Bw_ w w9 from bt B.o (aU.o.trans az));clear a_ az bh;go_wp2;refine⟨?_,by simp[intOf];omega⟩
 first
  | exact⟨k+1,by omega,by go_num,cI.o,bG.o⟩
  | ((repeat apply Exists.intro);exact⟨⟨k+1,by omega,by go_num,cI.o,bG.o⟩,rfl⟩)
):T:=h
theorem yk (v:V_)(l:LP_)(w:Z)(hr:RP w v l)(hl:l.length≤1000000):C_ 165 #[v] w fun e w'=>∃ v',e=.returned v'∧OP w' w.heap.size v' (srt l)∧Bw_ w w':=by
 obtain⟨a,ah,rfl,_,hc⟩:=hr.open;have HC:=O hc;clear hr hc;go_enter func165,ntmps165;go_wp2
 go_loopw [3,4] (fun o t wx=>∃ k:Nat,k≤l.length∧t=F k∧Hid (OP wx w.heap.size o (srt (l.take k)))∧Hid (Bw_ w wx)) (fun _ t _=>l.length-(intOf t).toNat)
 case atStart=>exact⟨0,by omega,rfl,OP.nil _ _,iE _⟩
 case round =>
  obtain⟨k,hk,rfl,HO,HB⟩:=hrel;obtain⟨ao,co,rfl⟩:=ay HO.o
  by_cases bq:k<l.length
  ·have k0:=nn_ k
   have k1:(k:Int)<l.length:=Y;obtain⟨bl,ol,rfl,d1,d2⟩:=HC.o k bq;have bC:=O d1;have cf:=O d2;have y:=O (show srt (l.take (k+1))=ins l[k] (srt (l.take k)) by rw[JB bq,kt]);have s:=O (dW (l.take k));have ag:=O (show(srt (l.take k)).length≤1000000 by rw[cy,JH];omega);obtain⟨p,hp⟩:=H (l[k]);rw[←hp]at bC cf y;obtain⟨R,hR⟩:=H (srt (l.take k));rw[←hR]at HO y s ag⊢;clear hp hR d1 d2;have aP:=HO.o.reads;obtain⟨_,_,hv,_,z⟩:=aP.open;injection hv with e1 _ e3
   subst e1 e3;have U:=O z;have b8:=O aP;have ae:=ag.o;clear z aP;obtain⟨Wr,bp⟩:=H wr;subst bp;go_wp2
   go_loopw [5] (fun t wx=>∃ j:Nat,j≤R.length∧t=F j∧Hid (∀ i (h:i<R.length),j≤i→lt p.1 R[i].1=true)∧Hid (Bw_ Wr wx)) (fun t _=>(intOf t).toNat)
   case atStart=>exact⟨R.length,by omega,rfl,fun i h h'=>by omega,iE _⟩
   case round =>
    obtain⟨j,hj,rfl,HJ,HX⟩:=hrel;have e1:=IF HX.o (IF HB.o bC.o)
    by_cases M:0<j
    ·obtain⟨i,rfl⟩:∃ i,j=i+1:=⟨j-1,by omega⟩
     have ac:i<R.length:=Y;obtain⟨b,aL,rfl,d3,_⟩:=U.o i ac;replace d3:=IF HX.o d3;have i0:=nn_ i;have i1:(i:Int)<R.length:=Y;have c0:(0:Int)<((i+1:Nat):Int):=Y;have Q:(((i+1:Nat):Int)-1)=(i:Int):=Y
     cases aC:lt p.1 R[i].1 with
     | true =>
      have h2:=ia aC
      have h3:(R[i].1==p.1)=false:=by
       rw[beq_eq_false_iff_ne];intro e;rw[e,gN]at aC;cases aC
      have a4:=O (show ∀ u (h:u<R.length),i≤u→lt p.1 R[u].1=true from fun u h h'=>by
       rcases Nat.lt_or_ge i u with h4|h4
       ·exact HJ.o u h Y
       ·obtain rfl:u=i:=Y
        exact aC)
      have V:=O aC;clear aC;unfold lt at h2;go_wp2;go_quiet (fail);go_wp2;refine⟨?_,by simp[intOf]⟩
      first
       | exact⟨i,by omega,rfl,a4.o,bt HX.o (II _ _)⟩
       | ((repeat apply Exists.intro);exact⟨⟨i,by omega,rfl,a4.o,bt HX.o (II _ _)⟩,rfl⟩)
     | false =>
      have d:=O (show srt (l.take (k+1))=R.take (i+1)++p::R.drop (i+1) by
       rw[y.o];exact yS p R (i+1) Y s.o HJ.o (fun _ h'=>aC))
      have n:i+1≤R.length:=Y;clear HJ
      cases f:lt R[i].1 p.1 with
      | true =>
       clear aC;unfold lt at f;go_wp2;go_quiet (fail);obtain⟨q,c⟩:=H (wr.drewN nq);have x:=O (show Bw_ Wr q by rw[c];exact bt HX.o (II _ _));rw[←c];obtain⟨J,hJ⟩:=H (i+1);have N:=O hJ;rw[←hJ]at d n⊢;clear c f d3 e1 hJ;exact LI
      | false =>
       have ar:R[i].1=p.1:=by
        have:=D7 R[i].1 p.1;rw[f,aC,Bool.false_or]at this;have h':(R[i].1==p.1)=true:=by simpa using this
        simpa using h'
       have h3:(R[i].1==p.1)=true:=by simpa using ar
       clear aC ar;unfold lt at f;go_wp2;go_quiet (fail);obtain⟨q,c⟩:=H (wr.drewN nq);have x:=O (show Bw_ Wr q by rw[c];exact bt HX.o (II _ _));rw[←c];obtain⟨J,hJ⟩:=H (i+1);have N:=O hJ;rw[←hJ]at d n⊢;clear c f h3 d3 e1 hJ;exact LI
    ·have d:=O (show srt (l.take (k+1))=R.take j++p::R.drop j by
      rw[y.o];exact yS p R j hj s.o HJ.o (fun h _=>by omega))
     have n:j≤R.length:=hj;have c0:¬0<(j:Int):=Y;go_wp2;go_quiet (fail);obtain⟨q,c⟩:=H (wr.drewN nq);have x:=O (show Bw_ Wr q by rw[c];exact bt HX.o (II _ _));rw[←c];obtain⟨J,hJ⟩:=H j;have N:=O hJ;rw[←hJ]at d n⊢;clear c e1 hj M HJ c0 hJ;exact LI
  ·obtain rfl:k=l.length:=Y
   have HF:=O (List.take_length (l:=l));go_wp2;go_ret
   have hx:OP wr w.heap.size (.slice ao (srt (l.take l.length)).length co) (srt l):=by
    have:=HO.o;simp only[HF.o]at this⊢;exact this
   exact⟨_,rfl,hx,HB.o⟩
