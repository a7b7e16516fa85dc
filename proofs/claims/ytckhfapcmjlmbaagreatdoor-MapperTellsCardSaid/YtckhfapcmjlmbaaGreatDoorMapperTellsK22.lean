/- Lemmas for MapperTells: walks, plain laws. -/
import Derived.Test.YtckhfapcmjlmbaaGreatDoorMapperTellsK21
set_option linter.unusedSimpArgs false
set_option linter.unusedVariables false
set_option maxRecDepth 100000
set_option maxHeartbeats 16000000
namespace Go.Proofs.YtckhfapcmjlmbaaGreatDoor
open Go.RowKit Oct
section
theorem Gf {T:Prop} (h:T:=by
 have k1:(k:Int)<16:=by omega
 have k0:=nn_ k;have k64:(k:Int)<64:=by omega
 have x0:(0:Int)≤4*(k:Int):=by omega
 have x1:4*(k:Int)<(l.length:Int):=by omega
 have x2:4*(k:Int)+1<(l.length:Int):=by omega
 have x3:4*(k:Int)+2<(l.length:Int):=by omega
 have y2:0≤4*(k:Int)+1:=by omega
 have y3:0≤4*(k:Int)+2:=by omega
 have y4:0≤4*(k:Int)+3:=by omega
 have x4:4*(k:Int)+3<(l.length:Int):=by omega
 go_wp2;refine ba 31 [] (by kernel_rfl) (by kernel_rfl) ?_;simp only[DQ,DW,DO,DX];refine cG ?_
 (try simp only[eD,dy,dz,eC,eB,dx,jv,fX,gw,fY,eH,eG,eF,eE])
 (intro w' hB hA;simp only[aB.all_some,Db,and_true]at hA)
 have B':=HB.o.below hB;have hc:=jU l k (by omega);rw[oF l k hk16]at hc;have hlen:k<(au (gH l k)).length:=by rw[aE,eX l k (by omega)];omega
 have HE:=zH (sG l (4*k) (by omega) (by omega) (by omega) (by omega));obtain⟨cu,c1⟩:=B'.ex hlen;have f1:=B'.free hlen;have HS:=zH (B'.set k (.int .u32 (U (zJ l (4*k)))));have HC:=zH hc;have HB1:=zH hB;clear B' hc hB hlen;go_wp2;rw[HE.o];refine⟨⟨k+1,by omega,by go_num,?_,(bt HW.o HB1.o).setCell (DC _) _⟩,by simp[intOf];omega⟩;have:=HS.o;rw[fH,HC.o]at this;exact this
):T:=h
theorem vz (l:LU_)(w:World)(hl:64≤l.length):Calls Tryz.prog 177 #[.string (bs l)] w fun e w'=>e=.returned (.agg (au (wl l 64)).toArray)∧Bw_ w w':=by
 have hz:=(zero_of_info (P:=Tryz.prog) (t:=256) (v:=.agg (au (gH l 0)).toArray) (n:=64) (by kernel_rfl)).1;go_enter Tryz.func177,Tryz.ntmps177;go_wp2;clear hz
 go_loopw [7] (fun t wx=>∃ k:Nat,k≤16∧t=.int .i64 k∧Hid (Blk wx w.heap.size 256 (au (gH l k)))∧Hid (Below w.heap.size w wx)) (fun t _=>16-(intOf t).toNat)
 case atStart=>exact⟨0,by omega,rfl,Blk.new w _ _,af w _⟩
 case round =>
  obtain⟨k,hk,rfl,HB,HW⟩:=hrel
  by_cases hk16:k<16
  ·exact Gf
  ·have hk:k=16:=by omega
   subst hk;go_wp2
   go_loopw [4] (fun t wx=>∃ k:Nat,16≤k∧k≤64∧t=.int .i64 k∧Hid (Blk wx w.heap.size 256 (au (gH l k)))∧Hid (Below w.heap.size w wx)) (fun t _=>64-(intOf t).toNat)
   case atStart=>exact⟨16,by omega,by omega,rfl,HB,HW⟩
   case round =>
    obtain⟨k,hk,hk',rfl,HB,HW⟩:=hrel
    by_cases hk16:k<64
    ·have k1:(k:Int)<64:=by omega
     have k0:=nn_ k;have x0:(0:Int)≤(k:Int)-15:=by omega
     have x1:(k:Int)-15<64:=by omega
     have y0:(0:Int)≤(k:Int)-2:=by omega
     have y1:(k:Int)-2<64:=by omega
     have z0:(0:Int)≤(k:Int)-16:=by omega
     have z1:(k:Int)-16<64:=by omega
     have v0:(0:Int)≤(k:Int)-7:=by omega
     have v1:(k:Int)-7<64:=by omega
     have c15:=HB.o.cell (gi l k (k-15) (by omega) (by omega));have c2:=HB.o.cell (gi l k (k-2) (by omega) (by omega));have c16:=HB.o.cell (gi l k (k-16) (by omega) (by omega));have c7:=HB.o.cell (gi l k (k-7) (by omega) (by omega));have hc:=jU l k (by omega);rw[mz l k hk]at hc;generalize (wl l k).getD (k-15) 0=a at *;generalize (wl l k).getD (k-2) 0=b at *;generalize (wl l k).getD (k-16) 0=c at *;generalize (wl l k).getD (k-7) 0=d at *;have HC:=zH hc;clear hc;go_wp2;go_quiet (fail);go_wp2;refine ba 29 [(4,.exact Bel (.int .u32 (U c))),(6,.exact Bel (.int .u32 (U (cN a 7)))),(8,.exact Bel (.int .u32 (U (cN a 18)))),(17,.exact Bel (.int .u32 (U d))),(20,.exact Bel (.int .u32 (U (cN b 17)))),(22,.exact Bel (.int .u32 (U (cN b 19))))] (by kernel_rfl) (by kernel_rfl) ?_;simp only[DQ,DW,DO,DX];refine cG ?_;refine gE_ (fun w' G hB hS hG=>?_) (fun K hK=>?_)
     ·have cc:=C8 (bt (C9 wr nq) hB) c16
      go_simp;exact hG _ (Bel.refl _)
     refine cO ?_;clear hK K;refine gE_ (fun w' G hB hS hG=>?_) (fun K hK=>?_)
     ·go_simp
      exact aO hG (eT a 7 _ (by omega) (by omega))
     refine cO ?_;clear hK K;refine gE_ (fun w' G hB hS hG=>?_) (fun K hK=>?_)
     ·go_simp
      exact aO hG (eT a 18 _ (by omega) (by omega))
     refine cO ?_;clear hK K;refine gE_ (fun w' G hB hS hG=>?_) (fun K hK=>?_)
     ·have cc:=C8 (bt (C9 wr nq) hB) c7
      go_simp;exact hG _ (Bel.refl _)
     refine cO ?_;clear hK K;refine gE_ (fun w' G hB hS hG=>?_) (fun K hK=>?_)
     ·go_simp
      exact aO hG (eT b 17 _ (by omega) (by omega))
     refine cO ?_;clear hK K;refine gE_ (fun w' G hB hS hG=>?_) (fun K hK=>?_)
     ·go_simp
      exact aO hG (eT b 19 _ (by omega) (by omega))
     refine cO ?_;clear hK K
     (try simp only[eD,dy,dz,eC,eB,dx,jv,fX,gw,fY,eH,eG,eF,eE])
     (intro w' hB hA;simp only[aB.all_some,Db,and_true]at hA)
     replace hB:=bt (C9 wr nq) hB;have B':=HB.o.below hB;have hlen:k<(au (gH l k)).length:=by rw[aE,eX l k (by omega)];omega
     obtain⟨cu,c1⟩:=B'.ex hlen;have f1:=B'.free hlen;have HS:=zH (B'.set k (.int .u32 (U (c+sg0 a+d+sg1 b))));have HB1:=zH hB;clear B' hB hlen;go_wp2;refine⟨?_,?measure⟩
     ·(repeat apply Exists.intro)
      refine⟨⟨k+1,by omega,by omega,by go_num,?_,(bt HW.o HB1.o).setCell (DC _) _⟩,rfl⟩;have:=HS.o;rw[fH,HC.o]at this;exact this
     case measure=>simp[intOf];omega
    ·have hk:k=64:=by omega
     subst hk;rw[qw]at HB;have HI:=zH (show(Tryz.prog.info? 256).map (·.size)=some (au (wl l 64)).length by rw[aE,cR];kernel_rfl);go_wp2_with first|(refine kO w.heap.size (au (wl l 64)) HB.o (.array 64 206) rfl _ _ rfl rfl (by kernel_rfl) rfl HI.o ?_)|(refine fG w.heap.size (au (wl l 64)) (au (wl l 64)) HB.o rfl _ _ _ rfl rfl rfl HI.o rfl (eK _) ?_)
     refine bodyPost_ret (jT rfl rfl (HB.o.row _) (.array 64 206) (by kernel_rfl) rfl HI.o) rfl ⟨rfl,cF HW.o (DC _) _⟩
theorem At (x:UInt32):(0xFFFFFFFF:UInt32) ^^^ x = ~~~x:=by
 apply UInt32.toBitVec_inj.1;simp only[UInt32.toBitVec_xor,UInt32.toBitVec_not];exact BitVec.allOnes_xor
theorem Bk (x:UInt32):bits .xor .u32 (if IntKind.u32.signed=true then -1 else IntKind.u32.max) (U x)=U (~~~x):=by
 have e:(if IntKind.u32.signed=true then -1 else IntKind.u32.max:Int)=U 0xFFFFFFFF:=rfl;rw[e,fX,At]
def fR:List UInt32:=[
  0x428a2f98,0x71374491,0xb5c0fbcf,0xe9b5dba5,0x3956c25b,0x59f111f1,0x923f82a4,0xab1c5ed5,
  0xd807aa98,0x12835b01,0x243185be,0x550c7dc3,0x72be5d74,0x80deb1fe,0x9bdc06a7,0xc19bf174,
  0xe49b69c1,0xefbe4786,0x0fc19dc6,0x240ca1cc,0x2de92c6f,0x4a7484aa,0x5cb0a9dc,0x76f988da,
  0x983e5152,0xa831c66d,0xb00327c8,0xbf597fc7,0xc6e00bf3,0xd5a79147,0x06ca6351,0x14292967,
  0x27b70a85,0x2e1b2138,0x4d2c6dfc,0x53380d13,0x650a7354,0x766a0abb,0x81c2c92e,0x92722c85,
  0xa2bfe8a1,0xa81a664b,0xc24b8b70,0xc76c51a3,0xd192e819,0xd6990624,0xf40e3585,0x106aa070,
  0x19a4c116,0x1e376c08,0x2748774c,0x34b0bcb5,0x391c0cb3,0x4ed8aa4a,0x5b9cca4f,0x682e6ff3,
  0x748f82ee,0x78a5636f,0x84c87814,0x8cc70208,0x90befffa,0xa4506ceb,0xbef9a3f7,0xc67178f2]
theorem rW:fR.length=64:=rfl
def h0:List UInt32:=[0x6a09e667,0xbb67ae85,0x3c6ef372,0xa54ff53a,0x510e527f,0x9b05688c,0x1f83d9ab,0x5be0cd19]
def fZ (n:Nat):List UInt32:=List.replicate n 0
def pL (e f g h k w:UInt32):UInt32:=h+(cN e 6 ^^^ cN e 11 ^^^ cN e 25)+((e &&& f) ^^^ (~~~e &&& g))+k+w
def yh (a b c:UInt32):UInt32:=(cN a 2 ^^^ cN a 13 ^^^ cN a 22)+((a &&& b) ^^^ (a &&& c) ^^^ (b &&& c))
def step (k w:UInt32):List UInt32→List UInt32
 | [a,b,c,d,e,f,g,h]=>[pL e f g h k w+yh a b c,a,b,c,d+pL e f g h k w,e,f,g]
 | v=>v
def et (w h:List UInt32):Nat→List UInt32
 | 0=>h
 | t+1=>step (fR.getD t 0) (w.getD t 0) (et w h t)
def gG (h:List UInt32)(b:LU_):List UInt32:=List.zipWith (·+·) h (et (wl b 64) h 64)
theorem qJ (k w:UInt32)(v:List UInt32)(h:v.length=8):(step k w v).length=8:=by
 match v,h with
 | [a,b,c,d,e,f,g,h],_=>rfl
theorem dq (w h:List UInt32)(hl:h.length=8)(t:Nat):(et w h t).length=8:=by
 induction t with
 | zero=>exact hl
 | succ t ih=>exact qJ _ _ _ ih
theorem dQ (h:List UInt32)(b:LU_)(hl:h.length=8):(gG h b).length=8:=by simp[gG,dq _ h hl,hl]
theorem nI (v:List UInt32)(h:v.length=8):∃ a b c d e f g k,v=[a,b,c,d,e,f,g,k]:=by
 match v,h with
 | [a,b,c,d,e,f,g,h],_=>exact⟨a,b,c,d,e,f,g,h,rfl⟩
theorem yd (l:List UInt32)(k n:Nat)(hn:l.length=n)(h:k<n):(au l)[k]?=some (.int .u32 (U (l.getD k 0))):=by
 subst hn;rw[oI l k h,List.getD_eq_getElem?_getD,List.getElem?_eq_getElem h,Option.getD_some]
def aG (h:List UInt32)(rest:LU_)(n:Int):List Value:=au h++[.string (bs rest),.int .u64 n]
theorem pn (h:List UInt32)(rest:LU_)(n:Int)(k:Nat)(hl:h.length=8)(hk:k<8):(aG h rest n)[k]?=some (.int .u32 (U (h.getD k 0))):=by
 rw[aG,List.getElem?_append_left (by rw[aE];omega)];exact yd h k 8 hl hk
theorem bX (h:List UInt32)(rest:LU_)(n:Int)(hl:h.length=8):(aG h rest n).length=10:=by simp[aG,aE,hl]
theorem cW (h:List UInt32)(rest:LU_)(n:Int)(hl:h.length=8):(aG h rest n)[8]?=some (.string (bs rest)):=by
 rw[aG,List.getElem?_append_right (by rw[aE];omega),aE,hl];rfl
theorem iW (h:List UInt32)(rest:LU_)(n:Int)(hl:h.length=8):(aG h rest n)[9]?=some (.int .u64 n):=by
 rw[aG,List.getElem?_append_right (by rw[aE];omega),aE,hl];rfl
theorem uj (h:List UInt32)(rest:LU_)(n:Int)(k:Nat)(x:UInt32)(hl:h.length=8)(hk:k<8):(aG h rest n).set k (.int .u32 (U x))=aG (h.set k x) rest n:=by
 rw[aG,List.set_append_left _ _ (by rw[aE];omega),fH];rfl
theorem iV (h:List UInt32)(rest r':LU_)(n:Int)(hl:h.length=8):(aG h rest n).set 8 (.string (bs r'))=aG h r' n:=by
 rw[aG,List.set_append_right _ _ (by rw[aE];omega),aE,hl];rfl
theorem se (h:List UInt32)(rest:LU_)(n n':Int)(hl:h.length=8):(aG h rest n).set 9 (.int .u64 n')=aG h rest n':=by
 rw[aG,List.set_append_right _ _ (by rw[aE];omega),aE,hl];rfl
def iz (h v:List UInt32)(k:Nat):List UInt32:=List.zipWith (·+·) (h.take k) (v.take k)++h.drop k
theorem uz (h v:List UInt32):iz h v 0=h:=by simp[iz]
theorem xE (h v:List UInt32)(hl:h.length=8)(hv:v.length=8):iz h v 8=List.zipWith (·+·) h v:=by
 simp[iz,DB (Nat.le_of_eq hl),DB (Nat.le_of_eq hv),List.drop_of_length_le (Nat.le_of_eq hl)]
theorem eA (h v:List UInt32)(hl:h.length=8)(hv:v.length=8)(k:Nat)(hk:k≤8):(iz h v k).length=8:=by
 simp[iz,hl,hv];omega
theorem uA (h v:List UInt32)(hl:h.length=8)(hv:v.length=8)(k:Nat)(hk:k<8):(iz h v k).getD k 0=h.getD k 0∧(iz h v k).set k (h.getD k 0+v.getD k 0)=iz h v (k+1):=by
 obtain⟨a,b,c,d,e,f,g,i,rfl⟩:=nI h hl;obtain⟨a',b',c',d',e',f',g',i',rfl⟩:=nI v hv
 match k,hk with
 | 0,_|1,_|2,_|3,_|4,_|5,_|6,_|7,_=>exact⟨rfl,rfl⟩
theorem vV (w:World):Calls Tryz.prog 178 #[] w fun e w'=>e=.returned (.agg (au fR).toArray)∧Bw_ w w':=by
 have hz:=(zero_of_info (P:=Tryz.prog) (t:=256) (v:=.agg (au (fZ 64)).toArray) (n:=64) (by kernel_rfl)).1;go_enter Tryz.func178,Tryz.ntmps178;have HN:=zH (Blk.new w (au (fZ 64)) 256);have HI:=zH (show(Tryz.prog.info? 256).map (·.size)=some (au fR).length by kernel_rfl);go_wp2_with first|(refine jr (au fR) rfl _ _ rfl (by kernel_rfl) ?_)|(refine fG w.heap.size (au (fZ 64)) (au fR) HN.o rfl _ _ _ rfl rfl rfl HI.o rfl (eK _) ?_)
 refine bodyPost_ret (jT rfl rfl (HN.o.row _) (.array 64 206) (by kernel_rfl) rfl HI.o) rfl ⟨rfl,cF (af w _) (DC _) _⟩
theorem zt (V:List UInt32)(hV:V.length=8)(k:Nat)(hk:k<8)(w:World):(Instr.index 207 (.agg (au V).toArray) (.int .i64 (k:Int))).run Tryz.prog w=.ok (.int .u32 (U (V.getD k 0))) w:=by
 obtain⟨a,b,c,d,e,f,g,i,rfl⟩:=nI V hV;rcases(by omega:k=0∨k=1∨k=2∨k=3∨k=4∨k=5∨k=6∨k=7) with rfl|rfl|rfl|rfl|rfl|rfl|rfl|rfl
 all_goals clear hk hV
 all_goals kernel_rfl
end
section
def sc (d:Bool)(v:Value):Value:=bif d then v else undef
@[go_sem] theorem Ah (v:Value):sc true v=v:=rfl
@[go_sem] theorem Cu (v:Value):sc false v=undef:=rfl
def BI (w0 w:World)(t64 t8:TypeId)(W H:List UInt32)(d7 d8 d9 d10 d11 d12:Bool)(b4 b5 b6:Nat):Prop :=
 Below w0.heap.size w0 w∧(d7=true→w0.heap.size≤b4∧Blk w b4 t64 (au (bif d10 then W else fZ 64)))∧(d8=true→w0.heap.size≤b5∧Blk w b5 t64 (au (bif d11 then fR else fZ 64))) ∧
  (d9=true→w0.heap.size≤b6∧Blk w b6 t8 (au (bif d12 then H else fZ 8)))∧(d7=true→d8=true→b4≠b5)∧(d7=true→d9=true→b4≠b6)∧(d8=true→d9=true→b5≠b6) ∧
  (d10=true→d7=true)∧(d11=true→d8=true)∧(d12=true→d9=true)
section
variable {w0 w:World}{t64 t8:TypeId}{W H:List UInt32}{d7 d8 d9 d10 d11 d12:Bool}{b4 b5 b6:Nat}
theorem BI.below {w':World}(h:BI w0 w t64 t8 W H d7 d8 d9 d10 d11 d12 b4 b5 b6)(hB:Below w.heap.size w w'):BI w0 w' t64 t8 W H d7 d8 d9 d10 d11 d12 b4 b5 b6:=by
 obtain⟨h0,h1,h2,h3,h4⟩:=h;exact⟨bt h0 hB,fun e=>⟨(h1 e).1,(h1 e).2.below hB⟩,fun e=>⟨(h2 e).1,(h2 e).2.below hB⟩,fun e=>⟨(h3 e).1,(h3 e).2.below hB⟩,h4⟩
theorem ff {d:Bool}(h:d=true→false=true):d=false:=by cases d<;>simp_all
theorem BI.alloc4 (h:BI w0 w t64 t8 W H false d8 d9 d10 d11 d12 b4 b5 b6):BI w0 (w.alloc (.cells (au (fZ 64)).toArray t64)) t64 t8 W H true d8 d9 d10 d11 d12 w.heap.size b5 b6:=by
 have hb:=BI.below h (af w (.cells (au (fZ 64)).toArray t64));obtain⟨h0,h1,h2,h3,h4,h5,h6,h7,h8,h9⟩:=h;obtain rfl:=ff h7;exact⟨hb.1,fun _=>⟨h0.size,Blk.new _ _ _⟩,hb.2.2.1,hb.2.2.2.1,fun _ e=>Nat.ne_of_gt (h2 e).2.lt,fun _ e=>Nat.ne_of_gt (h3 e).2.lt,h6,fun e=>(by cases e),h8,h9⟩
theorem BI.alloc5 (h:BI w0 w t64 t8 W H d7 false d9 d10 d11 d12 b4 b5 b6):BI w0 (w.alloc (.cells (au (fZ 64)).toArray t64)) t64 t8 W H d7 true d9 d10 d11 d12 b4 w.heap.size b6:=by
 have hb:=BI.below h (af w (.cells (au (fZ 64)).toArray t64));obtain⟨h0,h1,h2,h3,h4,h5,h6,h7,h8,h9⟩:=h;obtain rfl:=ff h8;exact⟨hb.1,hb.2.1,fun _=>⟨h0.size,Blk.new _ _ _⟩,hb.2.2.2.1,fun e _=>Nat.ne_of_lt (h1 e).2.lt,h5,fun _ e=>Nat.ne_of_gt (h3 e).2.lt,h7,fun e=>(by cases e),h9⟩
theorem BI.alloc6 (h:BI w0 w t64 t8 W H d7 d8 false d10 d11 d12 b4 b5 b6):BI w0 (w.alloc (.cells (au (fZ 8)).toArray t8)) t64 t8 W H d7 d8 true d10 d11 d12 b4 b5 w.heap.size:=by
 have hb:=BI.below h (af w (.cells (au (fZ 8)).toArray t8));obtain⟨h0,h1,h2,h3,h4,h5,h6,h7,h8,h9⟩:=h;obtain rfl:=ff h9;exact⟨hb.1,hb.2.1,hb.2.2.1,fun _=>⟨h0.size,Blk.new _ _ _⟩,h4,fun e _=>Nat.ne_of_lt (h1 e).2.lt,fun e _=>Nat.ne_of_lt (h2 e).2.lt,h7,h8,fun e=>(by cases e)⟩
theorem Blk.other {w:World}{b b':Nat}{t:TypeId}{cs:List Value}(h:Blk w b t cs)(hne:b'≠b)(cs':Array Value):Blk (w.setRow b' cs') b t cs:=by
 unfold Blk;rw[fU w b' cs' b (Ne.symm hne)];exact h
theorem BI.store4 (h:BI w0 w t64 t8 W H true d8 d9 d10 d11 d12 b4 b5 b6):BI w0 (w.setRow b4 (au W).toArray) t64 t8 W H true d8 d9 true d11 d12 b4 b5 b6:=by
 obtain⟨h0,h1,h2,h3,h4,h5,h6,h7,h8,h9⟩:=h;exact⟨cF h0 (h1 rfl).1 _,fun _=>⟨(h1 rfl).1,(h1 rfl).2.row _⟩,fun e=>⟨(h2 e).1,(h2 e).2.other (h4 rfl e) _⟩,fun e=>⟨(h3 e).1,(h3 e).2.other (h5 rfl e) _⟩,h4,h5,h6,fun _=>rfl,h8,h9⟩
theorem BI.store5 (h:BI w0 w t64 t8 W H d7 true d9 d10 d11 d12 b4 b5 b6):BI w0 (w.setRow b5 (au fR).toArray) t64 t8 W H d7 true d9 d10 true d12 b4 b5 b6:=by
 obtain⟨h0,h1,h2,h3,h4,h5,h6,h7,h8,h9⟩:=h;exact⟨cF h0 (h2 rfl).1 _,fun e=>⟨(h1 e).1,(h1 e).2.other (Ne.symm (h4 e rfl)) _⟩,fun _=>⟨(h2 rfl).1,(h2 rfl).2.row _⟩,fun e=>⟨(h3 e).1,(h3 e).2.other (h6 rfl e) _⟩,h4,h5,h6,h7,fun _=>rfl,h9⟩
theorem BI.store6 (h:BI w0 w t64 t8 W H d7 d8 true d10 d11 d12 b4 b5 b6):BI w0 (w.setRow b6 (au H).toArray) t64 t8 W H d7 d8 true d10 d11 true b4 b5 b6:=by
 obtain⟨h0,h1,h2,h3,h4,h5,h6,h7,h8,h9⟩:=h;exact⟨cF h0 (h3 rfl).1 _,fun e=>⟨(h1 e).1,(h1 e).2.other (Ne.symm (h5 e rfl)) _⟩,fun e=>⟨(h2 e).1,(h2 e).2.other (Ne.symm (h6 e rfl)) _⟩,fun _=>⟨(h3 rfl).1,(h3 rfl).2.row _⟩,h4,h5,h6,h7,h8,fun _=>rfl⟩
end
def C4 (w0:World)(p:Nat)(l:LU_)(h:List UInt32)(listed:Array Bool)(a:Act)(w:World):Prop :=
 ∃ d0 d1 d2 d3 d4 d5 d6 d7 d8 d9 d10 d11 d12:Bool,∃ b4 b5 b6:Nat,listed=#[d0,d1,d2,d3,d4,d5,d6,d7,d8,d9,d10,d11,d12] ∧
  a={ tmps:=List.toArray ((.pointer (some ⟨p,0,none⟩))::(.string (bs l))::undef::undef::(sc d7 (.pointer (some ⟨b4,0,none⟩)))::(sc d8 (.pointer (some ⟨b5,0,none⟩)))::(sc d9 (.pointer (some ⟨b6,0,none⟩)))::undef::undef::undef::undef::undef::undef::undef::undef::undef::undef::undef::(sc d0 (.string (bs l)))::(sc d1 (.agg (au (wl l 64)).toArray))::(sc d2 (.agg (au fR).toArray))::(sc d3 (.pointer (some ⟨p,0,none⟩)))::(sc d4 (.pointer (some ⟨p,0,none⟩)))::(sc d5 (.pointer (some ⟨p,0,none⟩)))::(sc d6 (.agg (au h).toArray))::undef::undef::undef::undef::undef::undef::undef::undef::undef::undef::undef::undef::undef::undef::undef::undef::undef::undef::undef::undef::undef::undef::undef::undef::undef::undef::undef::undef::undef::undef::undef::undef::undef::undef::undef::undef::undef::undef::undef::undef::undef::undef::undef::undef::undef::undef::undef::undef::undef::undef::undef::undef::undef::undef::undef::undef::undef::undef::undef::undef::undef::undef::undef::undef::undef::undef::undef::undef::undef::undef::undef::undef::undef::undef::undef::undef::undef::undef::undef::undef::undef::undef::undef::undef::undef::undef::undef::undef::undef::undef::undef::undef::undef::undef::undef::[]),defers:=[] }∧Hid (BI w0 w 256 207 (wl l 64) h d7 d8 d9 d10 d11 d12 b4 b5 b6)
theorem pz (p:Nat)(h:List UInt32)(hl:h.length=8)(rest:LU_)(n:Int)(l:LU_)(h64:64≤l.length)(w:World)(hB:Blk w p 209 (aG h rest n)):Calls Tryz.prog 130 #[.pointer (some ⟨p,0,none⟩),.string (bs l)] w fun e w'=>e=.returned (.tuple #[])∧Blk w' p 209 (aG (gG h l) rest n)∧Chg (·=p) w w':=by
 have hz1:=(zero_of_info (P:=Tryz.prog) (t:=256) (v:=.agg (au (fZ 64)).toArray) (n:=64) (by kernel_rfl)).1;have hz2:=(zero_of_info (P:=Tryz.prog) (t:=207) (v:=.agg (au (fZ 8)).toArray) (n:=8) (by kernel_rfl)).1;have HB:=zH hB;have H64:=zH h64;have HL:=zH hl;have H8:=zH (show(Tryz.prog.info? 207).map (·.size)=some (au h).length by rw[aE,hl];kernel_rfl);have I64:=zH (show(Tryz.prog.info? 256).map (·.size)=some (au (wl l 64)).length by rw[aE,cR];kernel_rfl);have IK:=zH (show(Tryz.prog.info? 256).map (·.size)=some (au fR).length by kernel_rfl);clear hB;go_enter Tryz.func130,Tryz.ntmps130;go_wp2;refine mL (C4 w p l h) (by kernel_rfl) (by kernel_rfl) ⟨false,false,false,false,false,false,false,false,false,false,false,false,false,0,0,0,rfl,rfl,?_⟩ ?_ ?_
 ·exact⟨b_drew w,fun e=>(by cases e),fun e=>(by cases e),fun e=>(by cases e),fun e=>(by cases e),fun e=>(by cases e),fun e=>(by cases e),fun e=>(by cases e),fun e=>(by cases e),fun e=>(by cases e)⟩
 ·intro listed a wx hI hs hall
  obtain⟨d0,d1,d2,d3,d4,d5,d6,d7,d8,d9,d10,d11,d12,b4,b5,b6,rfl,rfl,hBI⟩:=hI;have e0:d0=true:=by simpa using hall 0 (by decide)
  have e1:d1=true:=by simpa using hall 1 (by decide)
  have e2:d2=true:=by simpa using hall 2 (by decide)
  have e3:d3=true:=by simpa using hall 3 (by decide)
  have e4:d4=true:=by simpa using hall 4 (by decide)
  have e5:d5=true:=by simpa using hall 5 (by decide)
  have e6:d6=true:=by simpa using hall 6 (by decide)
  have e7:d7=true:=by simpa using hall 7 (by decide)
  have e8:d8=true:=by simpa using hall 8 (by decide)
  have e9:d9=true:=by simpa using hall 9 (by decide)
  have e10:d10=true:=by simpa using hall 10 (by decide)
  have e11:d11=true:=by simpa using hall 11 (by decide)
  have e12:d12=true:=by simpa using hall 12 (by decide)
  simp only[e0,e1,e2,e3,e4,e5,e6,e7,e8,e9,e10,e11,e12,Ah]at hBI⊢;clear e0 e1 e2 e3 e4 e5 e6 e7 e8 e9 e10 e11 e12 hall hs;obtain⟨hw,h4,h5,h6,n45,n46,n56,-⟩:=hBI.o;have B4:Hid (Blk wx b4 256 (au (wl l 64))):=(h4 rfl).2;have B5:Hid (Blk wx b5 256 (au fR)):=(h5 rfl).2;have B6:Hid (Blk wx b6 207 (au h)):=(h6 rfl).2;have BP:=zH (HB.o.below hw);have N46:Hid (b4≠b6):=n46 rfl rfl;have N56:Hid (b5≠b6):=n56 rfl rfl;have NP:Hid (p≠b6):=(by have:=HB.o.lt;have:=(h6 rfl).1;show p≠b6;omega)
  have HW:=zH hw;have HG6:=zH (h6 rfl).1;clear hw h4 h5 h6 n45 n46 n56 hBI hz1 hz2 d0 d1 d2 d3 d4 d5 d6 d7 d8 d9 d10 d11 d12;go_wp2
  go_loopw [25] (fun t ux=>∃ k:Nat,k≤64∧t=.int .i64 k∧Hid (Blk ux b6 207 (au (et (wl l 64) h k)))∧Hid (Chg (·=b6) wx ux)) (fun t _=>64-(intOf t).toNat)
  case atStart=>exact⟨0,by omega,rfl,B6,Chg.refl _ _⟩
  case round =>
   obtain⟨k,hk,rfl,HB6,HC6⟩:=hrel
   by_cases hk64:k<64
   ·have k1:(k:Int)<64:=by omega
    have k0:=nn_ k;have hst:et (wl l 64) h (k+1)=step (fR.getD k 0) ((wl l 64).getD k 0) (et (wl l 64) h k):=rfl;obtain⟨v0,v1,v2,v3,v4,v5,v6,v7,hv⟩:=nI _ (dq (wl l 64) h HL.o k);rw[hv]at HB6 hst;obtain⟨c0,c1,c2,c3,c4,c5,c6,c7⟩:=cl8 HB6.o;have cw:=(B4.o.chg HC6.o N46.o).cell (yd (wl l 64) k 64 (cR l 64) hk64);have ck:=(B5.o.chg HC6.o N56.o).cell (yd fR k 64 rfl hk64);generalize (wl l 64).getD k 0=ww at *;generalize fR.getD k 0=kk at *;have HST:=zH hst;clear hst hv;go_wp2;go_quiet (fail);go_wp2;refine rk_ [(1,.exact Bel (.int .u32 (U v7))),(3,.exact Bel (.int .u32 (U (cN v4 6)))),(5,.exact Bel (.int .u32 (U (cN v4 11)))),(8,.exact Bel (.int .u32 (U (cN v4 25)))),(22,.exact Bel (.int .u32 (U kk))),(26,.exact Bel (.int .u32 (U ww)))] ?_;refine cG ?_;refine gE_ (fun w' G hB hS hG=>?_) (fun K hK=>?_)
    ·have cc:=C8 (bt (C9 wr nq) hB) c7
     go_simp;exact hG _ (Bel.refl _)
    refine cO ?_;clear hK K;refine gE_ (fun w' G hB hS hG=>?_) (fun K hK=>?_)
    ·go_simp
     exact aO hG (eT v4 6 _ (by omega) (by omega))
    refine cO ?_;clear hK K;refine gE_ (fun w' G hB hS hG=>?_) (fun K hK=>?_)
    ·go_simp
     exact aO hG (eT v4 11 _ (by omega) (by omega))
    refine cO ?_;clear hK K;refine gE_ (fun w' G hB hS hG=>?_) (fun K hK=>?_)
    ·go_simp
     exact aO hG (eT v4 25 _ (by omega) (by omega))
    refine cO ?_;clear hK K;refine gE_ (fun w' G hB hS hG=>?_) (fun K hK=>?_)
    ·have cc:=C8 (bt (C9 wr nq) hB) ck
     go_simp;exact hG _ (Bel.refl _)
    refine cO ?_;clear hK K;refine gE_ (fun w' G hB hS hG=>?_) (fun K hK=>?_)
    ·have cc:=C8 (bt (C9 wr nq) hB) cw
     go_simp;exact hG _ (Bel.refl _)
    refine cO ?_;clear hK K;simp only[Bk]
    (try simp only[eD,dy,dz,eC,eB,dx,jv,fX,gw,fY,eH,eG,eF,eE])
    have ht1:v7+(cN v4 6 ^^^ cN v4 11 ^^^ cN v4 25)+(v4 &&& v5 ^^^ ~~~v4 &&& v6)+kk+ww=pL v4 v5 v6 v7 kk ww:=rfl;rw[ht1];clear ht1
    (intro w' hB hA;simp only[aB.all_some,Db,and_true]at hA)
    have hBx:=zH (bt (C9 wr nq) hB);clear hB c0 c1 c2 c4 c5 c6 c7 cw ck hA;go_wp2_with fail;refine(eT v0 2 _ (by omega) (by omega)).mono ?_;rintro e w2 ⟨rfl,hB2⟩;go_wp2_with fail;refine(eT v0 13 _ (by omega) (by omega)).mono ?_;rintro e w3 ⟨rfl,hB3⟩;go_wp2_with fail;refine(eT v0 22 _ (by omega) (by omega)).mono ?_;rintro e w4 ⟨rfl,hB4⟩;have hB0:=bt (bt (bt hBx.o hB2) hB3) hB4;replace c3:=C8 hB0 c3;have B6':=zH (HB6.o.below hB0);have HC6':=zH (HC6.o.trans (Da hB0));clear hB0 hBx hB2 hB3 hB4;obtain⟨NL,hNL⟩:∃ NL:List UInt32,NL=[pL v4 v5 v6 v7 kk ww+yh v0 v1 v2,v0,v1,v2,v3+pL v4 v5 v6 v7 kk ww,v4,v5,v6]:=⟨_,rfl⟩
    have I8:=zH (show(Tryz.prog.info? 207).map (·.size)=some (au NL).length by rw[hNL];kernel_rfl);have L8:=zH (show(au [v0,v1,v2,v3,v4,v5,v6,v7]).length=(au NL).length by rw[hNL];rfl);have HST':=zH (show et (wl l 64) h (k+1)=NL by rw[HST.o,hNL];rfl);have HNL:=zH hNL;clear hNL;go_wp2_with first|(refine jr (au NL) rfl _ _ rfl (by rw[HNL.o];kernel_rfl) ?_;refine fG b6 (au [v0,v1,v2,v3,v4,v5,v6,v7]) (au NL) B6'.o rfl 207 (.tmp 6) (.tmp 101) rfl rfl rfl I8.o L8.o (eK _) ?_)
    refine⟨⟨k+1,by omega,by go_num,?_,HC6'.o.trans (nN _ _ _ rfl)⟩,by simp[intOf];omega⟩;rw[HST'.o];exact B6'.o.row _
   ·have hk:k=64:=by omega
    subst hk;have HI8:=zH (show(Tryz.prog.info? 207).map (·.size)=some (au (et (wl l 64) h 64)).length by rw[aE,dq _ _ HL.o];kernel_rfl);have HBP:Hid (Blk wr p 209 (aG h rest n)):=BP.o.chg HC6.o NP.o;have HVL:=zH (dq (wl l 64) h HL.o 64);obtain⟨V,hV⟩:=ex_ (et (wl l 64) h 64);rw[←hV]at HB6 HI8 HVL;have HV:=zH hV;clear hV;go_wp2_with (refine kO b6 (au V) HB6.o (.array 8 206) rfl _ _ rfl rfl (by kernel_rfl) rfl HI8.o ?_)
    go_loopw [104] (fun t ux=>∃ k:Nat,k≤8∧t=.int .i64 k∧Hid (Blk ux p 209 (aG (iz h V k) rest n))∧Hid (Chg (·=p) wr ux)) (fun t _=>8-(intOf t).toNat)
    case atStart=>exact⟨0,by omega,rfl,(by rw[uz];exact HBP),Chg.refl _ _⟩
    case round =>
     obtain⟨k,hk,rfl,HBp,HCp⟩:=hrel
     by_cases hk8:k<8
     ·have k1:(k:Int)<8:=by omega
      have k0:=nn_ k;obtain⟨ha1,ha2⟩:=uA h V HL.o HVL.o k hk8;have cp:=HBp.o.cell (pn (iz h V k) rest n k (eA h V HL.o HVL.o k hk) hk8);have fp:=HBp.o.free (k:=k) (by rw[bX _ _ _ (eA h V HL.o HVL.o k hk)];omega);have hix:=zt V HVL.o k hk8;rw[ha1]at cp;generalize h.getD k 0=hh at *;generalize V.getD k 0=vk at *;have HA:=zH ha2;clear ha2 ha1;go_wp2;refine ba 11 [(2,.exact Bel (.pointer (some ⟨p,0,none⟩))),(5,.exact Bel (.int .u32 (U hh))),(8,.exact Bel (.pointer (some ⟨p,0,none⟩)))] (by kernel_rfl) (by kernel_rfl) ?_;simp only[DQ,DW,DO,DX];refine cG ?_;refine gE_ (fun w' G hB hS hG=>?_) (fun K hK=>?_)
      ·go_simp
       exact hG _ (Bel.refl _)
      refine cO ?_;clear hK K;refine gE_ (fun w' G hB hS hG=>?_) (fun K hK=>?_)
      ·have cc:=C8 hB cp
       go_simp;exact hG _ (Bel.refl _)
      refine cO ?_;clear hK K;refine gE_ (fun w' G hB hS hG=>?_) (fun K hK=>?_)
      ·go_simp
       exact hG _ (Bel.refl _)
      refine cO ?_;clear hK K
      (try simp only[eD,dy,dz,eC,eB,dx,jv,fX,gw,fY,eH,eG,eF,eE])
      (intro w' hB hA;simp only[aB.all_some,Db,and_true]at hA)
      have B':=HBp.o.below hB;replace cp:=B'.cell (pn (iz h V k) rest n k (eA h V HL.o HVL.o k hk) hk8);replace fp:=B'.free (k:=k) (by rw[bX _ _ _ (eA h V HL.o HVL.o k hk)];omega);have HS:=zH (B'.set k (.int .u32 (U (hh+vk))));have HCn:=zH (HCp.o.trans (Da hB));clear B' hB hA hix;go_wp2;refine⟨⟨k+1,by omega,by go_num,?_,HCn.o.trans (Chg.setCell _ _ _ rfl)⟩,by simp[intOf];omega⟩;have:=HS.o;rw[uj _ _ _ _ _ (eA h V HL.o HVL.o k hk) hk8,HA.o]at this;exact this
     ·have hk:k=8:=by omega
      subst hk;have HF:Hid (Blk wr p 209 (aG (gG h l) rest n)):=(by have:=HBp.o;rw[xE h V HL.o HVL.o,HV.o]at this;exact this)
      go_wp2;refine bodyPost_end (results_none rfl _ _ _) rfl ?_;exact⟨rfl,HF.o,(Da (HW.o.trans (HC6.o.below (fun k e=>e▸HG6.o) HW.o.size))).trans HCp.o⟩
 refine⟨fun listed a wx hI hd hdep=>?_,fun listed a wx hI hd hdep=>?_,fun listed a wx hI hd hdep=>?_,fun listed a wx hI hd hdep=>?_,fun listed a wx hI hd hdep=>?_,fun listed a wx hI hd hdep=>?_,fun listed a wx hI hd hdep=>?_,fun listed a wx hI hd hdep=>?_,fun listed a wx hI hd hdep=>?_,fun listed a wx hI hd hdep=>?_,fun listed a wx hI hd hdep=>?_,fun listed a wx hI hd hdep=>?_,fun listed a wx hI hd hdep=>?_,trivial⟩
 ·obtain⟨d0,d1,d2,d3,d4,d5,d6,d7,d8,d9,d10,d11,d12,b4,b5,b6,rfl,rfl,hBI⟩:=hI
  obtain rfl:d0=false:=by simpa using hd
  rw[if_pos (by rfl)];unfold Oper.wp;go_simp;exact⟨true,d1,d2,d3,d4,d5,d6,d7,d8,d9,d10,d11,d12,b4,b5,b6,rfl,rfl,hBI⟩
 ·obtain⟨d0,d1,d2,d3,d4,d5,d6,d7,d8,d9,d10,d11,d12,b4,b5,b6,rfl,rfl,hBI⟩:=hI
  obtain rfl:d1=false:=by simpa using hd
  simp[Region.binds]at hdep;have e0:d0=true:=by simp[hdep]
  clear hdep;simp only[e0]at hBI⊢;rw[if_pos (by rfl)];unfold Oper.wp;go_simp;refine(vz l wx H64.o).mono ?_;rintro e w2 ⟨rfl,hB2⟩;exact⟨true,true,d2,d3,d4,d5,d6,d7,d8,d9,d10,d11,d12,b4,b5,b6,rfl,rfl,hBI.o.below hB2⟩
 ·obtain⟨d0,d1,d2,d3,d4,d5,d6,d7,d8,d9,d10,d11,d12,b4,b5,b6,rfl,rfl,hBI⟩:=hI
  obtain rfl:d2=false:=by simpa using hd
  simp[Region.binds]at hdep;have e1:d1=true:=by simp[hdep]
  clear hdep;simp only[e1]at hBI⊢;rw[if_pos (by rfl)];unfold Oper.wp;go_simp;refine(vV wx).mono ?_;rintro e w2 ⟨rfl,hB2⟩;exact⟨d0,true,true,d3,d4,d5,d6,d7,d8,d9,d10,d11,d12,b4,b5,b6,rfl,rfl,hBI.o.below hB2⟩
 ·obtain⟨d0,d1,d2,d3,d4,d5,d6,d7,d8,d9,d10,d11,d12,b4,b5,b6,rfl,rfl,hBI⟩:=hI
  obtain rfl:d3=false:=by simpa using hd
  rw[if_pos (by rfl)];unfold Oper.wp;go_simp;exact⟨d0,d1,d2,true,d4,d5,d6,d7,d8,d9,d10,d11,d12,b4,b5,b6,rfl,rfl,hBI⟩
 ·obtain⟨d0,d1,d2,d3,d4,d5,d6,d7,d8,d9,d10,d11,d12,b4,b5,b6,rfl,rfl,hBI⟩:=hI
  obtain rfl:d4=false:=by simpa using hd
  simp[Region.binds]at hdep;have e3:d3=true:=by simp[hdep]
  clear hdep;simp only[e3]at hBI⊢;rw[if_pos (by rfl)];unfold Oper.wp;go_simp;exact⟨d0,d1,d2,true,true,d5,d6,d7,d8,d9,d10,d11,d12,b4,b5,b6,rfl,rfl,hBI⟩
 ·obtain⟨d0,d1,d2,d3,d4,d5,d6,d7,d8,d9,d10,d11,d12,b4,b5,b6,rfl,rfl,hBI⟩:=hI
  obtain rfl:d5=false:=by simpa using hd
  simp[Region.binds]at hdep;have e4:d4=true:=by simp[hdep]
  clear hdep;simp only[e4]at hBI⊢;rw[if_pos (by rfl)];unfold Oper.wp;go_simp;exact⟨d0,d1,d2,d3,true,true,d6,d7,d8,d9,d10,d11,d12,b4,b5,b6,rfl,rfl,hBI⟩
 ·obtain⟨d0,d1,d2,d3,d4,d5,d6,d7,d8,d9,d10,d11,d12,b4,b5,b6,rfl,rfl,hBI⟩:=hI
  obtain rfl:d6=false:=by simpa using hd
  simp[Region.binds]at hdep;have e5:d5=true:=by simp[hdep]
  clear hdep;simp only[e5]at hBI⊢;rw[if_pos (by rfl)]
  have hr:wx.rangeAt p 0 (au h):=fun j v hv=>by
   have hj:j<8:=by have:=(List.getElem?_eq_some_iff.1 hv).1;rwa [aE,HL.o]at this
   rw[DE];refine(HB.o.below hBI.o.1).cell ?_;rw[aG,List.getElem?_append_left (by rw[aE,HL.o];exact hj)];exact hv
  refine wp_load_mid 207 _ rfl p 0 rfl (au h) (.array 8 206) hr (by kernel_rfl) rfl H8.o ?_;exact⟨d0,d1,d2,d3,d4,true,true,d7,d8,d9,d10,d11,d12,b4,b5,b6,rfl,rfl,hBI⟩
 ·obtain⟨d0,d1,d2,d3,d4,d5,d6,d7,d8,d9,d10,d11,d12,b4,b5,b6,rfl,rfl,hBI⟩:=hI
  obtain rfl:d7=false:=by simpa using hd
  rw[if_pos (by rfl)];unfold Oper.wp;go_simp;exact⟨d0,d1,d2,d3,d4,d5,d6,true,d8,d9,d10,d11,d12,wx.heap.size,b5,b6,rfl,rfl,hBI.o.alloc4⟩
 ·obtain⟨d0,d1,d2,d3,d4,d5,d6,d7,d8,d9,d10,d11,d12,b4,b5,b6,rfl,rfl,hBI⟩:=hI
  obtain rfl:d8=false:=by simpa using hd
  rw[if_pos (by rfl)];unfold Oper.wp;go_simp;exact⟨d0,d1,d2,d3,d4,d5,d6,d7,true,d9,d10,d11,d12,b4,wx.heap.size,b6,rfl,rfl,hBI.o.alloc5⟩
 ·obtain⟨d0,d1,d2,d3,d4,d5,d6,d7,d8,d9,d10,d11,d12,b4,b5,b6,rfl,rfl,hBI⟩:=hI
  obtain rfl:d9=false:=by simpa using hd
  rw[if_pos (by rfl)];unfold Oper.wp;go_simp;exact⟨d0,d1,d2,d3,d4,d5,d6,d7,d8,true,d10,d11,d12,b4,b5,wx.heap.size,rfl,rfl,hBI.o.alloc6⟩
 ·obtain⟨d0,d1,d2,d3,d4,d5,d6,d7,d8,d9,d10,d11,d12,b4,b5,b6,rfl,rfl,hBI⟩:=hI
  obtain rfl:d10=false:=by simpa using hd
  simp[Region.binds]at hdep;have e7:d7=true:=by simp[hdep]
  have e1:d1=true:=by simp[hdep]
  have e2:d2=true:=by simp[hdep]
  have e0:d0=true:=by simp[hdep]
  have e8:d8=true:=by simp[hdep]
  have e9:d9=true:=by simp[hdep]
  clear hdep;simp only[e7,e1,e2,e0,e8,e9]at hBI⊢;rw[if_pos (by rfl)];have hz4:Blk wx b4 256 (au (fZ 64)):=(hBI.o.2.1 rfl).2;have hs4:(au (fZ 64)).toArray.size=(au (wl l 64)).toArray.size:=by rw[List.size_toArray,List.size_toArray,aE,aE,cR];rfl
  have hi4:(Tryz.prog.info? 256).map (·.size)=some (au (wl l 64)).toArray.size:=by rw[List.size_toArray];exact I64.o
  generalize hWL:wl l 64=WL at *;refine wp_store_row 256 (.tmp 4) (.tmp 19) rfl b4 (au WL).toArray rfl rfl 256 _ hz4 hi4 hs4 (eK _) ?_;subst hWL;exact⟨true,true,true,d3,d4,d5,d6,true,true,true,true,d11,d12,b4,b5,b6,rfl,rfl,hBI.o.store4⟩
 ·obtain⟨d0,d1,d2,d3,d4,d5,d6,d7,d8,d9,d10,d11,d12,b4,b5,b6,rfl,rfl,hBI⟩:=hI
  obtain rfl:d11=false:=by simpa using hd
  simp[Region.binds]at hdep;have e8:d8=true:=by simp[hdep]
  have e2:d2=true:=by simp[hdep]
  have e10:d10=true:=by simp[hdep]
  have e0:d0=true:=by simp[hdep]
  have e1:d1=true:=by simp[hdep]
  have e7:d7=true:=by simp[hdep]
  have e9:d9=true:=by simp[hdep]
  clear hdep;simp only[e8,e2,e10,e0,e1,e7,e9]at hBI⊢;rw[if_pos (by rfl)];refine wp_store_row 256 _ _ rfl b5 (au fR).toArray rfl rfl 256 _ (hBI.o.2.2.1 rfl).2 (by rw[List.size_toArray];exact IK.o) rfl (eK _) ?_;exact⟨true,true,true,d3,d4,d5,d6,true,true,true,true,true,d12,b4,b5,b6,rfl,rfl,hBI.o.store5⟩
 ·obtain⟨d0,d1,d2,d3,d4,d5,d6,d7,d8,d9,d10,d11,d12,b4,b5,b6,rfl,rfl,hBI⟩:=hI
  obtain rfl:d12=false:=by simpa using hd
  simp[Region.binds]at hdep;have e0:d0=true:=by simp[hdep]
  have e1:d1=true:=by simp[hdep]
  have e2:d2=true:=by simp[hdep]
  have e3:d3=true:=by simp[hdep]
  have e4:d4=true:=by simp[hdep]
  have e5:d5=true:=by simp[hdep]
  have e6:d6=true:=by simp[hdep]
  have e7:d7=true:=by simp[hdep]
  have e8:d8=true:=by simp[hdep]
  have e9:d9=true:=by simp[hdep]
  have e10:d10=true:=by simp[hdep]
  have e11:d11=true:=by simp[hdep]
  clear hdep;simp only[e0,e1,e2,e3,e4,e5,e6,e7,e8,e9,e10,e11]at hBI⊢;rw[if_pos (by rfl)];refine wp_store_row 207 _ _ rfl b6 (au h).toArray rfl rfl 207 _ (hBI.o.2.2.2.1 rfl).2 (by rw[List.size_toArray];exact H8.o) (by rw[List.size_toArray,List.size_toArray,aE,aE,HL.o];rfl) (eK _) ?_;exact⟨true,true,true,true,true,true,true,true,true,true,true,true,true,b4,b5,b6,rfl,rfl,hBI.o.store6⟩
end
section
theorem A5 (w:World):Calls Tryz.prog 86 #[] w fun e w'=>∃ b,e=.returned (.pointer (some ⟨b,0,none⟩))∧w.heap.size≤b∧Blk w' b 209 (aG h0 [] 0)∧Bw_ w w':=by
 go_enter Tryz.func86,Tryz.ntmps86;go_wp2_with (refine jr (au h0) rfl _ _ rfl (by kernel_rfl) ?_;refine jr (aG h0 [] 0) rfl _ _ rfl (by kernel_rfl) ?_);go_ret;exact⟨_,rfl,DC _,Blk.new _ _ _,af _ _⟩
theorem nR (p:Nat)(w:World):Calls Tryz.prog 129 #[.pointer (some ⟨p,0,none⟩)] w fun e w'=>∃ b,e=.returned (.func (.func 176) #[] #[.pointer (some ⟨b,0,none⟩)])∧w.heap.size≤b∧Blk w' b 145 [.pointer (some ⟨p,0,none⟩)]∧Bw_ w w':=by
 have hmf:∀ (fn:Fn) (first cap:Array Value) (w:World),(Instr.makeFunc fn first cap).run Tryz.prog w=.ok (.func fn first cap) w:=fun _ _ _ _=>rfl;go_enter Tryz.func129,Tryz.ntmps129;go_wp2;go_ret;exact⟨_,rfl,DC _,Blk.new _ _ _,af _ _⟩
def u6:Nat→LU_→LL_
 | 0,_=>[]
 | n+1,l=>l.take 64::u6 n (l.drop 64)
def cj (l:LU_):LL_:=u6 (l.length / 64) l
def bR (l:LU_):LU_:=l.drop (64*(l.length / 64))
def b7 (h:List UInt32)(l:LU_):List UInt32:=(cj l).foldl gG h
theorem gu (l:LU_)(h:64≤l.length):cj l=l.take 64::cj (l.drop 64):=by
 unfold cj;rw[D7,show l.length / 64=(l.length-64) / 64+1 by omega];rfl
theorem kN (l:LU_)(h:l.length<64):cj l=[]:=by
 unfold cj;rw[show l.length / 64=0 by omega];rfl
theorem mE (l:LU_)(h:64≤l.length):bR l=bR (l.drop 64):=by
 unfold bR;rw[D7,DP];congr 1;omega
theorem qH (l:LU_)(h:l.length<64):bR l=l:=by
 unfold bR;rw[show l.length / 64=0 by omega];rfl
theorem fy (l:LU_):(bR l).length=l.length%64:=by
 unfold bR;rw[D7];omega
theorem jD (b:LU_):∀ (n:Nat) (a:LU_),a.length=64*n→cj (a++b)=cj a++cj b∧bR (a++b)=bR b:=by
 intro n
 induction n with
 | zero =>
  intro a ha;obtain rfl:a=[]:=DD (by omega);exact⟨rfl,rfl⟩
 | succ n ih =>
  intro a ha;obtain⟨h1,h2⟩:=ih (a.drop 64) (by rw[D7];omega);rw[gu (a++b) (by rw[DL];omega),gu a (by omega),mE (a++b) (by rw[DL];omega)];rw[List.drop_append_of_le_length (by omega),List.take_append_of_le_length (by omega),h1,h2];exact⟨rfl,rfl⟩
theorem qK (t:LU_):∃ a,t=a++bR t∧a.length=64*(t.length / 64):=by
 refine⟨t.take (64*(t.length / 64)),?_,?_⟩
 ·unfold bR;rw[List.take_append_drop]
 ·rw[DU];omega
theorem lW (h:List UInt32)(t s:LU_):b7 (b7 h t) (bR t++s)=b7 h (t++s)∧bR (bR t++s)=bR (t++s):=by
 obtain⟨a,h1,h2⟩:=qK t;have e1:=jD (bR t++s) _ a h2;have e2:=jD (bR t) _ a h2;rw[←DK,←h1]at e1;rw[←h1]at e2;have hs:cj (bR t)=[]:=kN _ (by rw[fy];omega);unfold b7;rw[e1.1,e2.1,hs,DR,List.foldl_append];exact⟨rfl,e1.2.symm⟩
theorem eV (h:List UInt32)(l:LU_)(hl:h.length=8):(b7 h l).length=8:=by
 unfold b7;generalize cj l=c
 induction c generalizing h with
 | nil=>exact hl
 | cons x c ih=>exact ih _ (dQ h x hl)
theorem cD (h:List UInt32)(c:LL_)(hl:h.length=8):(c.foldl gG h).length=8:=by
 induction c generalizing h with
 | nil=>exact hl
 | cons x c ih=>exact ih _ (dQ h x hl)
def zc (n:Nat):Nat:=(119-n%64)%64
def be8 (n:Nat):LU_:=[UInt8.ofNat (n / 72057594037927936),UInt8.ofNat (n / 281474976710656),UInt8.ofNat (n / 1099511627776),UInt8.ofNat (n / 4294967296),UInt8.ofNat (n / 16777216),UInt8.ofNat (n / 65536),UInt8.ofNat (n / 256),UInt8.ofNat n]
def dw (r:LU_)(n:Nat):LU_:=r++[0x80]++List.replicate (zc r.length) 0++be8 (8*n)
theorem iN (r:LU_)(n:Nat):(dw r n).length=r.length+9+zc r.length:=by
 simp[dw,be8];omega
theorem lL (r:LU_)(n:Nat):(dw r n).length%64=0:=by
 rw[iN];unfold zc;omega
def wb (x:UInt32):LU_:=[UInt8.ofNat (x.toNat / 16777216),UInt8.ofNat (x.toNat / 65536),UInt8.ofNat (x.toNat / 256),UInt8.ofNat x.toNat]
def iC (v:List UInt32):LU_:=v.flatMap wb
def fJ (t:LU_):LU_:=iC (b7 h0 (dw t t.length))
theorem qQ (t:LU_):iC (b7 (b7 h0 t) (dw (bR t) t.length))=fJ t:=by
 have h:=lW h0 t ([0x80]++List.replicate (zc t.length) 0++be8 (8*t.length))
 have e:dw (bR t) t.length=bR t++([0x80]++List.replicate (zc t.length) 0++be8 (8*t.length)):=by
  have hz:zc (bR t).length=zc t.length:=by rw[fy];unfold zc;omega
  simp only[dw,hz,DK]
 rw[e,h.1];simp only[fJ,dw,DK]
theorem lM (v:List UInt32):(iC v).length=4*v.length:=by
 induction v with
 | nil=>rfl
 | cons x v ih=>simp[iC,wb]at ih⊢;omega
theorem gm (t:LU_):(fJ t).length=32:=by
 rw[fJ,lM,eV _ _ rfl]
theorem pd (v:List UInt32)(k:Nat)(h:k<v.length):iC (v.take (k+1))=iC (v.take k)++wb (v.getD k 0):=by
 rw[Dz h,iC,List.flatMap_append,List.getD_eq_getElem?_getD,List.getElem?_eq_getElem h];simp[iC]
end
section
attribute [local go_sem] Oper.semAt_some
def XrP (p:Nat)(U U':World):Prop:=Chg (·=p) U U'∧∀ (h:List UInt32) (r:LU_) (n:Int),h.length=8→Blk U p 209 (aG h r n)→∃ r',Blk U' p 209 (aG h r' n)
def YrP (p b:Nat)(U U':World):Prop:=(∀ o,U.heap[b]?=some o→U'.heap[b]?=some o)∧∀ (h:List UInt32) (r:LU_) (n:Int),h.length=8→Blk U p 209 (aG h r n)→∃ h',h'.length=8∧Blk U' p 209 (aG h' r n)
def ElS (x:LU_)(vs:Array Value)(_:World):Prop:=vs=#[.string (bs x)]∧x.length=64
def qP:Option Value→Nat
 | some (.string s)=>s.size
 | _=>0
theorem AX {wr:World}{p b:Nat}{h':List UInt32}{q:LU_}{n:Int}(hb:Blk wr b 145 [.pointer (some ⟨p,0,none⟩)])(hp:Blk wr p 209 (aG h' q n))(hne:b≠p)(hl:h'.length=8)(q':LU_):XrP p wr (wr.setCell ⟨p,8,none⟩ (.string (bs q'))).drew∧Blk (wr.setCell ⟨p,8,none⟩ (.string (bs q'))).drew b 145 [.pointer (some ⟨p,0,none⟩)]∧Blk (wr.setCell ⟨p,8,none⟩ (.string (bs q'))).drew p 209 (aG h' q' n):=by
 have hc:Chg (·=p) wr (wr.setCell ⟨p,8,none⟩ (.string (bs q'))).drew:=(Chg.setCell (X:=(·=p)) wr ⟨p,8,none⟩ _ rfl).trans (Chg.drew _ _)
 have hx:∀ (h:List UInt32) (r:LU_) (n:Int),h.length=8→Blk wr p 209 (aG h r n)→Blk (wr.setCell ⟨p,8,none⟩ (.string (bs q'))).drew p 209 (aG h q' n):=fun h r n hl hB=>by
  have:=hB.set 8 (.string (bs q'));rw[iV _ _ _ _ hl]at this;exact this
 exact⟨⟨hc,fun h r n hl hB=>⟨q',hx h r n hl hB⟩⟩,hb.chg hc hne,hx _ _ _ hl hp⟩
theorem lU (k p b:Nat)(h:List UInt32)(hl:h.length=8)(r:LU_)(n:Int)(W:World)(hb:Blk W b 145 [.pointer (some ⟨p,0,none⟩)])(hp:Blk W p 209 (aG h r n))(hne:b≠p)(hr:r.length≤140737488355328):pF Fence.wide k Tryz.prog 176 #[.pointer (some ⟨b,0,none⟩)] (XrP p) (YrP p b) (fun U=>∃ h',h'.length=8∧Blk U p 209 (aG h' (bR r) n)) ElS (cj r) W:=by
 intro l J Jx hJ hJx hY hJ0;refine callsIn_wide.2 ?_;have HJ:=zH hJ;have HJx:=zH hJx;have HY:=zH hY;have HN:=zH hne;clear hJ hJx hY hne;go_enter Tryz.func176,Tryz.ntmps176;go_wp2
 go_loopw [3] (fun _ wr=>∃ (h:List UInt32) (q:LU_) (dn:LL_),q.length≤140737488355328∧Hid (h.length=8)∧Hid (Blk wr b 145 [.pointer (some ⟨p,0,none⟩)])∧Hid (Blk wr p 209 (aG h q n))∧Hid (cj r=dn++cj q)∧Hid (bR r=bR q)∧Hid (J dn wr)) (fun _ wr=>qP (wr.cell? ⟨p,8,none⟩))
 case atStart=>exact⟨h,r,[],hr,hl,hb,hp,rfl,rfl,hJ0⟩
 case round =>
  clear hb hp hJ0;obtain⟨h',q,dn,hql,hl',hb,hp,hG,hT,hJd⟩:=hrel;have c0:=hb.o.cell (k:=0) rfl;have c8:=hp.o.cell (cW h' q n hl'.o);have f8:=hp.o.free (k:=8) (by rw[bX _ _ _ hl'.o];omega)
  by_cases h64:64≤q.length
  ·have m1:(64:Int)≤(q.length:Int):=by omega
   have HS:=zH (gu q h64);have HT2:=zH (mE q h64);have HQ:=zH (show(q.take 64).length=64 by simp;omega);go_wp2;go_region;go_upto_region 3 with(fail);obtain⟨W6,hW6⟩:=ex_ ((wr.setCell ⟨p,8,none⟩ (.string (bs (q.drop 64)))).drew);rw[←hW6];have h6:=AX hb.o hp.o HN.o hl'.o (q.drop 64);rw[←hW6]at h6;clear hW6;obtain⟨hx6,hb6,hp6⟩:=h6;have hJ6:=HJ.o _ _ _ hJd.o hx6;have hG6:=hG.o;rw[HS.o]at hG6;obtain⟨fn,tm,asg,bod,hy,hRd⟩:=HY.o dn (q.take 64) #[.string (bs (q.take 64))] W6 hJ6 ⟨rfl,HQ.o⟩ ⟨cj (q.drop 64),by rw[hG6];simp⟩;have HB6:=zH hb6;have HP6:=zH hp6;have HG6:=zH hG6;clear hb6 hp6 hG6 hx6 hJ6 c0 c8 f8;refine(wpIn_wide (n:=k)).1 ?_;gi_wp2;refine⟨fun h=>(by cases h),?_⟩;refine hRd.mono ?_;rintro e W7 (⟨rfl,hJ7,hc7⟩|⟨rfl,hJx7⟩)
   ·gi_wp2
    go_wp2;obtain⟨hb7,hp7⟩:=hc7;obtain⟨h7,hl7,hP7⟩:=hp7 h' (q.drop 64) n hl'.o HP6.o;have hql7:(q.drop 64).length=q.length-64:=by simp
    refine⟨⟨h7,q.drop 64,dn++[q.take 64],by omega,hl7,hb7 _ HB6.o,hP7,?_,?_,hJ7⟩,?_⟩
    ·show cj r=dn++[q.take 64]++cj (q.drop 64)
     rw[HG6.o];simp
    ·show bR r=bR (q.drop 64)
     rw[hT.o,HT2.o]
    ·have c1:=hP7.cell (cW h7 (q.drop 64) n hl7)
     have c2:=hp.o.cell (cW h' q n hl'.o);rw[c1,c2];show(bs (q.drop 64)).size<(bs q).size;rw[bA,bA];omega
   ·gi_wp2
    go_wp2;refine bodyPost_ret (results_none rfl _ _ _) rfl ?_;exact⟨⟨_,rfl⟩,.inr ⟨_,⟨cj (q.drop 64),by rw[HG6.o];simp⟩,hJx7⟩⟩
  ·have m1:¬(64:Int)≤(q.length:Int):=by omega
   have hfin:cj r=dn:=by have:=hG.o;rw[kN q (by omega),DR]at this;exact this
   have hft:bR r=q:=by have:=hT.o;rw[qH q (by omega)]at this;exact this
   have HF:=zH hfin;have HT2:=zH hft;clear hfin hft;go_wp2;go_end0;refine⟨⟨_,rfl⟩,.inl ⟨by rw[HF.o];exact hJd.o,h',hl'.o,by rw[HT2.o];exact hp.o⟩⟩
theorem po {U:World}{p:Nat}{h h':List UInt32}{r r':LU_}{n n':Int}(hl:h.length=8)(hl':h'.length=8)(hB:Blk U p 209 (aG h r n))(hB':Blk U p 209 (aG h' r' n')):r'=r∧n'=n:=by
 have a1:=hB.cell (cW h r n hl);have a2:=hB'.cell (cW h' r' n' hl');have b1:=hB.cell (iW h r n hl);have b2:=hB'.cell (iW h' r' n' hl');rw[a1]at a2;rw[b1]at b2;injection a2 with a2
 injection a2 with a2
 injection b2 with b2
 injection b2 with _ b2
 refine⟨?_,b2.symm⟩;have:=congrArg ByteArray.toList a2;simpa[xC] using this.symm
def WrI (p D0 S:Nat)(v:Value)(t:TypeId)(h:List UInt32)(N:Int)(w:World)(pre:LL_)(U:World):Prop :=
 (∃ rest,Blk U p 209 (aG (pre.foldl gG h) rest N))∧Blk U S t [v]∧Chg (fun k=>k=p∨D0≤k) w U
theorem WrI.x {p D0 S:Nat}{v:Value}{t:TypeId}{h:List UInt32}{N:Int}{w U U':World}{pre:LL_}(hl:h.length=8)(hS:S≠p)(hI:WrI p D0 S v t h N w pre U)(hx:XrP p U U'):WrI p D0 S v t h N w pre U':=by
 obtain⟨⟨rest,h1⟩,h2,h3⟩:=hI;exact⟨hx.2 _ _ _ (cD h pre hl) h1,h2.chg hx.1 hS,h3.trans (hx.1.mono fun k hk=>.inl hk)⟩
theorem WrI.d {p D0 S D:Nat}{v:Value}{t:TypeId}{h:List UInt32}{N:Int}{w U U':World}{pre:LL_}(hS:S<D)(hp:p<D)(hD:D0≤D)(hI:WrI p D0 S v t h N w pre U)(hx:Chg (fun k=>k=D∨k=D+1) U U'):WrI p D0 S v t h N w pre U':=by
 obtain⟨⟨rest,h1⟩,h2,h3⟩:=hI;exact⟨⟨rest,h1.chg hx (by omega)⟩,h2.chg hx (by omega),h3.trans (hx.mono fun k hk=>.inr (by omega))⟩
theorem WrI.step {p D0 S:Nat}{v:Value}{t:TypeId}{h:List UInt32}{N:Int}{w U U':World}{pre:LL_}{rest x:LU_}(hS:S≠p)(h2:Blk U S t [v])(h3:Chg (fun k=>k=p∨D0≤k) w U)(hB:Blk U' p 209 (aG (gG (pre.foldl gG h) x) rest N))(hc:Chg (·=p) U U'):WrI p D0 S v t h N w (pre++[x]) U' :=
 ⟨⟨rest,by rw[List.foldl_append];exact hB⟩,h2.chg hc hS,h3.trans (hc.mono fun k hk=>.inl hk)⟩
theorem XrP.keep {p D:Nat}(hp:p<D)(U U':World)(h:XrP p U U'):dK D U U':=Df h.1 fun k hk e=>by subst e;omega
theorem YrP.comp {p b D:Nat}(hp:p<D)(hb:b<D)(u v x y:World)(h1:Chg (fun k=>k=D∨k=D+1) u v)(h2:YrP p b v x)(h3:Chg (fun k=>k=D∨k=D+1) x y):YrP p b u y :=
 ⟨fun o ho=>h3.at (h2.1 o (h1.at ho (by omega))) (by omega),fun h r n hl hB=>by
  obtain⟨h',hl',hB'⟩:=h2.2 h r n hl (hB.chg h1 (by omega));exact⟨h',hl',hB'.chg h3 (by omega)⟩⟩
theorem Dr {p b:Nat}{h h':List UInt32}{r:LU_}{n:Int}{U U':World}(hne:b≠p)(hl:h.length=8)(hl':h'.length=8)(hB:Blk U p 209 (aG h r n))(hB':Blk U' p 209 (aG h' r n))(hc:Chg (·=p) U U'):YrP p b U U' :=
 ⟨fun o ho=>hc.at ho hne,fun h2 r2 n2 hl2 hB2=>by
  obtain⟨rfl,rfl⟩:=po hl hl2 hB hB2;exact⟨h',hl',hB'⟩⟩
theorem Bh {p D:Nat}(hp:p<D)(r:LU_)(n:Int)(U U':World)(h:∃ h',h'.length=8∧Blk U p 209 (aG h' r n))(hc:Chg (fun k=>k=D∨k=D+1) U U'):∃ h',h'.length=8∧Blk U' p 209 (aG h' r n):=by
 obtain⟨h',hl',hB⟩:=h;exact⟨h',hl',hB.chg hc (by omega)⟩
theorem WrI.fin {p D0 S:Nat}{v:Value}{t:TypeId}{h:List UInt32}{N:Int}{w U:World}{l:LU_}(hl:h.length=8)(hI:WrI p D0 S v t h N w (cj l) U)(hf:∃ h',h'.length=8∧Blk U p 209 (aG h' (bR l) N)):Blk U p 209 (aG (b7 h l) (bR l) N):=by
 obtain⟨⟨rest,h1⟩,_,_⟩:=hI;obtain⟨h',hl',hB⟩:=hf;obtain⟨rfl,_⟩:=po hl' (cD h _ hl) hB h1;exact h1
theorem Gv {T:Prop} (h:T:=by
 rintro e U3 ⟨rfl,hB3,hC3⟩;gi_wp2;refine⟨Df hC3 fun k hk e=>by subst e;omega,Dr hbp (cD h pre HL.o) (dQ _ _ (cD h pre HL.o)) HBp.o hB3 hC3,WrI.step (by omega) HBx.o HCw.o hB3 hC3⟩
):T:=h
theorem xF (p:Nat)(h:List UInt32)(hl:h.length=8)(r s:LU_)(n:Nat)(w:World)(hp:Blk w p 209 (aG h r n))(hn:n+s.length≤140737488355328)(hr:r.length+s.length≤140737488355328):Calls Tryz.prog 87 #[.pointer (some ⟨p,0,none⟩),.string (bs s)] w fun e w'=>e=.returned (.int .i64 0)∧Blk w' p 209 (aG (b7 h (r++s)) (bR (r++s)) ((n+s.length:Nat):Int))∧Chg (·=p) w w':=by
 have c8:=hp.cell (cW h r n hl);have c9:=hp.cell (iW h r n hl);have f8:=hp.free (k:=8) (by rw[bX _ _ _ hl];omega);have f9:=hp.free (k:=9) (by rw[bX _ _ _ hl];omega);have hlt:=hp.lt;have HP:=zH hp;have HL:=zH hl;clear hp hl;refine cE Tryz.func87 rfl ?_;simp only[Tryz.ntmps87,List.size_toArray,Du,Eb,Nat.reduceAdd,Nat.reduceSub,Array.replicate_succ,Array.replicate_zero,List.push_toArray,List.append_toArray,D5,Dx];go_wp2_with fail;obtain⟨w1,hw1⟩:=ex_ (((w.setCell ⟨p,9,none⟩ (.int .u64 (n+s.length))).setCell ⟨p,8,none⟩ (.string (bs (r++s)))).alloc (.cells #[.pointer (some ⟨p,0,none⟩)] 145));rw[←hw1];have hc0:Chg (·=p) w ((w.setCell ⟨p,9,none⟩ (.int .u64 (n+s.length))).setCell ⟨p,8,none⟩ (.string (bs (r++s)))):=(Chg.setCell (X:=(·=p)) w ⟨p,9,none⟩ _ rfl).trans (Chg.setCell _ ⟨p,8,none⟩ _ rfl);have hs0:((w.setCell ⟨p,9,none⟩ (.int .u64 (n+s.length))).setCell ⟨p,8,none⟩ (.string (bs (r++s)))).heap.size=w.heap.size:=by simp[World.setCell]
 have hc1:Chg (·=p) w w1:=by
  rw[hw1];exact hc0.trans (Chg.alloc _ _ _)
 have hs1:w1.heap.size=w.heap.size+1:=by rw[hw1];simp[World.setCell]
 have hb1:Blk w1 w.heap.size 145 [.pointer (some ⟨p,0,none⟩)]:=by
  rw[hw1];have:=Blk.new ((w.setCell ⟨p,9,none⟩ (.int .u64 (n+s.length))).setCell ⟨p,8,none⟩ (.string (bs (r++s)))) [.pointer (some ⟨p,0,none⟩)] 145;rw[hs0]at this;exact this
 have hp1:Blk w1 p 209 (aG h (r++s) ((n+s.length:Nat):Int)):=by
  rw[hw1];have h1:=HP.o.set 9 (.int .u64 (n+s.length));rw[se _ _ _ _ HL.o]at h1;have h2:=h1.set 8 (.string (bs (r++s)));rw[iV _ _ _ _ HL.o]at h2;exact h2.below (af _ _)
 clear hc0 hs0;obtain⟨N,hN⟩:∃ N:Int,N=((n+s.length:Nat):Int):=⟨_,rfl⟩
 rw[←hN]at hp1;have HN:=zH hN;clear hw1 hN c8 c9 f8 f9 hn;obtain⟨w0,hw0⟩:=ex_ w;subst hw0;refine(nR p w1).mono ?_;rintro e w2 ⟨b,rfl,hbs,hb2,hB2⟩;have hb1':=zH (hb1.below hB2);have hp1':=zH (hp1.below hB2);have hc2:=zH (hc1.trans (Da hB2));have hs2:=hB2.size;have hlt2:=hb2.lt;have HB2:=zH hb2;have hbp:b≠p:=by omega
 clear hb1 hp1 hc1 hb2 hB2;go_wp2_with fail
 refine oE (D:=w2.heap.size) rfl (gf:=176) (lb:=#[.pointer (some ⟨b,0,none⟩)]) rfl (enters_of Tryz.func176 (by kernel_rfl) rfl)
  (Xr:=XrP p) (Yr:=YrP p b) (Fin:=fun U=>∃ h',h'.length=8∧Blk U p 209 (aG h' (bR (r++s)) N)) (El:=ElS) (out:=cj (r++s)) (XrP.keep (by omega)) (YrP.comp (by omega) (by omega)) (fun U U' h hc=>Bh (by omega) _ _ U U' h hc)
  (fun W hW=>lU 2 p b h HL.o (r++s) N W (HB2.o.below hW) (hp1'.o.below hW) hbp (by simp;omega))
  (fun x vs U h=>by rw[h.1];rfl) (fun x vs U U' h _=>h)
  (WrI p w0.heap.size w0.heap.size (.pointer (some ⟨p,0,none⟩)) 145 h N w0) (fun _ _ _=>False) (fun pre U U' h hx=>h.x HL.o (by omega) hx) (fun pre U U' h hx=>h.d (by omega) (by omega) (by omega) hx) (fun _ _ _ _ h _=>h.elim) (fun _ _ _ _ h _=>h.elim)
  ⟨⟨_,hp1'.o⟩,hb1'.o,hc2.o.mono fun k hk=>.inl hk⟩ ?round ?done ?stop
 case round =>
  rintro l pre x vs U _ ⟨rfl,hx64⟩ hpre;gi_wp2;refine⟨DF _ _,?_⟩;rintro U2 h2 ⟨⟨rest,hB⟩,hbx,hcw⟩ _ hcU;have c0:=hbx.cell (k:=0) rfl;have HBx:=zH hbx;have HBp:=zH hB;have HCw:=zH hcw;clear hbx hB hcw hcU hpre;gi_wp2;refine⟨trivial,CallsIn.inRound _ (callsIn_wide.2 ((pz p _ (cD h pre HL.o) rest N x (by omega) U2 HBp.o).mono ?_))⟩;exact Gv
 case done =>
  rintro W h2 hI hF hK;have hE:=zH (hI.fin HL.o hF);have hC:=zH hI.2.2;clear hI hF;go_wp2;refine fD (D:=w2.heap.size) rfl hK (results_tmp rfl _ _ _) ⟨rfl,?_,?_⟩
  ·rw[←HN.o]
   exact hE.o.chg (Chg.putObj (X:=fun k=>k=w2.heap.size) _ _ _ rfl) (by omega)
  ·have hc:=hC.o.trans (Chg.putObj (X:=fun k=>k=p∨w0.heap.size≤k) W w2.heap.size (.deferred none) (.inr (by omega)))
   exact⟨hc.os,hc.tape,hc.output,hc.size,fun k hk hn=>hc.block k hk (by omega)⟩
 case stop=>exact fun _ _ _ _ _ h _=>h.elim
end
section
section
variable {P:Program}
theorem zM {ops:Array Oper}{rest:List Oper}{o:Oper}{a:Act}{Q:Exit→Act→World→Prop}(w:World)(news:List Value)(e:TypeId)(hgd:o.guard=none)(s x:Operand)(t:TypeId)(ho:o.op=.call { callee:=.builtin .append,args:=#[s,x],argTypes:=#[t,t] })(bZ:Nat)(z:Value)(size bytes:Nat)(ht:P.underlying t=some (.slice e))(hinfo:(P.info? e).map (fun i=>(i.zero,i.size,i.bytes))=some (some z,size,bytes))(hzs:z.cells.size=size)(hsz:0<size)(v:Value)(n:Nat)(xs:List Value)(hs:a.eval s=v)(hown:w.ownsRow bZ e size v n xs)(vx:Value)(m:Nat)(hx:a.eval x=vx)(hr:aJ w vx m news)(hl:news.length=m*size)(h1:∀ u∈news,u.oneCell'=true)(hbytes:(n+m)*bytes≤140737488355328)(hby:0<bytes)(hbase:bZ≤w.heap.size)(h:∀ v' w',w'.ownsRow bZ e size v' (n+m) (xs++news)→Below bZ w w'→(∀ k,k<w.heap.size→v.ownBlock≠some k→w'.heap[k]?=w.heap[k]?)→wpList P ops Q rest (a.put o.dst v') w'):wpList P ops Q (o::rest) a w:=by
 obtain⟨i,hi,hz,hi1,hi2⟩:=info_parts hinfo;have hn:n+m≤(n+m)*bytes:=Nat.le_mul_of_pos_right _ hby;obtain⟨ax,cap,rfl,hnone,hc⟩:=hr
 cases ax with
 | none =>
  obtain⟨rfl,rfl⟩:=hnone rfl;have hnil:news=[]:=DD (by simpa using hl);subst hnil;refine wpList_append_own_none hgd s x t ho bZ e i size ht hi v n xs hs hown hx ?_;exact h v w (by simpa using hown) (DF _ _) (fun _ _ _=>rfl)
 | some ad =>
  refine wpList_append_own _ hgd s x t ho bZ e i z size bytes ht hi hz hi1 hi2 hzs hsz v n xs hs hown ad m cap news hx hl ?_ h1 (by unfold maxLen;omega) hbytes hbase ?_
  ·exact Gn
  ·intro v' w' h2 h3 _
   refine h v' w' h2 ((DF bZ w).grown h3 hbase ?_) (fun k hk hne=>h3.block k hk (fun e=>hne e.symm));intro k hk;exact(hown.lt k hk).1
end
theorem ox (B b:Nat)(bs:List Value)(w:World)(h:Lib.IsBuilder 134 5 B b bs w):Calls Tryz.prog 128 #[.pointer (some ⟨b,0,none⟩)] w fun e w'=>e=.returned (.tuple #[])∧(Lib.BuilderAt 134 5 B b (.pointer (some ⟨b,0,none⟩)) bs w'∧Below B w w'∧Chg (·=b) w w'):=by
 rcases h with h|h
 ·refine(ft b w h.cell0 h.shape h.frozen0).mono ?_
  rintro e w' ⟨rfl,rfl⟩;exact⟨rfl,h.used _,(DF B w).setCell (p:=⟨b,0,none⟩) h.1 _,Chg.setCell _ _ _ rfl⟩
 ·refine(fW b w h.cell0).mono ?_
  rintro e w' ⟨rfl,rfl⟩;exact⟨rfl,h,DF B _,Chg.refl _ _⟩
theorem nU (l m:LU_):aM (l++m)=aM l++aM m:=by simp[aM]
theorem nT (m:LU_):∀ u∈aM m,u.oneCell'=true:=by
 intro u hu;simp only[aM,List.mem_map]at hu;obtain⟨x,_,rfl⟩:=hu;rfl
theorem sD {w:World}{B:Nat}{v:Value}{n:Nat}{xs:List Value}(hown:w.ownsRow B 5 1 v n xs){X:Nat}{cs:Array Value}{t:TypeId}{fz:Nat×Nat}(hx:w.heap[X]?=some (.cells cs t fz))(ht:t≠5):v.ownBlock≠some X:=fun e=>by
 rcases hown.2 with ⟨hv,_⟩|⟨g,cap,cur,hv,_,hg,_⟩
 ·rw[hv]at e;simp[Value.ownBlock]at e
 ·rw[hv]at e
  simp only[Value.ownBlock,Option.some.injEq]at e;subst e;rw[hg]at hx;injection hx with hx
  injection hx with _ hx _
  exact ht hx.symm
theorem uC (B b:Nat)(l m:LU_)(vm:Value)(w:World)(h:Bld B b l w)(hm:aJ w vm m.length (aM m))(hmb:∀ w1,Chg (·=b) w w1→aJ w1 vm m.length (aM m))(hlen:l.length+m.length≤140737488355328):Calls Tryz.prog 131 #[.pointer (some ⟨b,0,none⟩),vm] w fun e w'=>e=.returned (.tuple #[.int .i64 m.length,.nilIface])∧Bld B b (l++m) w'∧Below B w w'∧A6 b w w':=by
 obtain⟨hBw,h⟩:=h;have HL:=zH hlen;have HM:=zH hm;have HB:=zH hmb;clear hlen hm hmb;obtain⟨am,cm,rfl,_,_⟩:=HM.o;go_enter Tryz.func131,Tryz.ntmps131;go_wp2_with (go_at_call 128;refine(ox B b _ _ h).mono ?_);rintro e w1 ⟨rfl,h1,hb1,hk1⟩;obtain⟨hB,v,hbk,hown,hne⟩:=h1;rw[aV]at hown;have hm1:aJ w1 (.slice am m.length cm) m.length (aM m):=HB.o _ hk1;have c0:w1.cell? ⟨b,0,none⟩=some (.pointer (some ⟨b,0,none⟩)):=by rw[Lib.cell_of_heap hbk];rfl
 have c1:w1.cell? ⟨b,1,none⟩=some v:=by rw[Lib.cell_of_heap hbk];rfl
 go_wp2_with (at_builtin;refine zM w1 (aM m) 5 rfl _ _ 132 rfl B (.int .u8 0) 1 1 Tryz.underlying132 lj rfl (by decide) _ _ _ rfl hown _ _ rfl hm1 (by rw[aV,Nat.mul_one]) (nT m) (by have:=HL.o;omega) (by decide) (by have:=hb1.size;omega) ?_);intro v' w2 hown' hb2 hkeep
 have hlt:b<w1.heap.size:=by
  exact Gw
 have hbk2:w2.heap[b]?=some (.cells #[.pointer (some ⟨b,0,none⟩),v] 134 (0,0)):=by
  rw[hkeep b hlt (fun e=>hne e)];exact hbk
 have d0:w2.cell? ⟨b,0,none⟩=some (.pointer (some ⟨b,0,none⟩)):=by rw[Lib.cell_of_heap hbk2];rfl
 have d1:w2.cell? ⟨b,1,none⟩=some v:=by rw[Lib.cell_of_heap hbk2];rfl
 have f1:w2.frozen? ⟨b,1,none⟩=false:=Lib.frozen_of_heap hbk2 1;obtain⟨ao,cap,rfl⟩:=ap hown';go_wp2;go_ret2;have hB12:Below B w w2:=hb1.trans hb2;refine⟨rfl,⟨?_,.inr ?_⟩,?_,?_⟩
 ·have:=hB12.size;simp[World.setCell];omega
 ·rw[nU]
  exact Lib.BuilderAt.put (T:=134) (e:=5) hB hbk2 (bs':=aM l++aM m) (by simpa[aV] using hown') (by decide)
 ·exact hB12.setCell (p:=⟨b,1,none⟩) hB _
 ·intro X cs t fz hX ht hx
  have h1:=hk1.at hx hX
  have hlt1:X<w1.heap.size:=by
   exact GR
  have h2:=hkeep X hlt1 (sD hown h1 ht);exact GS
end
section
theorem FY {T:Prop} (h:T:=by
 have HRPw:=zH (HRP.o.below HXw.o);obtain⟨A1,C1,hrun1,hrp1⟩:=HRPw.o.headRun J (J:Int) rfl hJR;have HRP1:=zH hrp1;have hJ0:=nn_ J;have hJ1:(J:Int)≤(R.length:Int):=by omega
 clear hrp1;have hlT:(R.take J).length=J:=by rw[DU];omega
 have HLT2:=zH hlT;have HRP1':=zH (show RP wz (.slice A1 (R.take J).length C1) (R.take J) by rw[hlT];exact HRP1.o);have HBw:=zH (show Below w.heap.size w wz from bt HB.o HXw.o);clear hlT;go_wp2_with (at_builtin;go_must (refine df wz rfl _ _ 29 rfl Tryz.underlying29 wz.heap.size _ [] rfl (OP.nil _ _) _ (R.take J) rfl HRP1.o (by rw[HLT2.o];simp;omega) (DC _) ?_));intro v7 w7 hown7 hB7;obtain⟨a7,c7,rfl⟩:=ap hown7;have HO7:=zH (show OP w7 wz.heap.size _ (R.take J) from hown7);have HB7:=zH hB7;have hs7:=hB7.size;have e1:=C8 (bt HBw.o HB7.o) HD1.o;have e2:=C8 (bt HBw.o HB7.o) HD2.o;clear hown7 hB7 hrun1;go_wp2_with (at_builtin;go_must (refine kR w7 p rfl _ _ 29 rfl Tryz.underlying29 wz.heap.size _ (R.take J) rfl HO7.o _ rfl (by rw[HLT2.o];omega) hs7 ?_));intro v8 w8 hown8 hB8;obtain⟨a8,c8,rfl⟩:=ap hown8;have HO8:=zH hown8;have HB8:=zH (HB7.o.trans hB8);have hs8:=HB8.o.size;obtain⟨A2,C2,hrun2,hrp2⟩:=(HRPw.o.below HB8.o).cutRun J (J:Int) rfl hJR;have HRP2:=zH hrp2;clear hown8 hB8 e1 e2 hrp2;go_wp2_with (at_builtin;go_must (refine df w8 rfl _ _ 29 rfl Tryz.underlying29 wz.heap.size _ (R.take J++[p]) rfl HO8.o _ (R.drop J) rfl HRP2.o (by rw[DL,HLT2.o,D7];simp;omega) hs8 ?_));intro v9 w9 hown9 hB9
 have HO9:=zH (show OP w9 w.heap.size v9 (srt (l.take (k+1))) by
  rw[HINS.o];have:=OP.mono hown9 (show w.heap.size≤wz.heap.size from HBw.o.size);simpa[DK] using this)
 have HB9:=zH (show Below w.heap.size w w9 from bt HBw.o (HB8.o.trans hB9));clear hown9 hB9 hrun2;go_wp2;refine⟨?_,by simp[intOf];omega⟩
 first
  | exact⟨k+1,by omega,by go_num,HO9.o,HB9.o⟩
  | ((repeat apply Exists.intro);exact⟨⟨k+1,by omega,by go_num,HO9.o,HB9.o⟩,rfl⟩)
):T:=h
theorem tG (v:Value)(l:List PR)(w:World)(hr:RP w v l)(hl:l.length≤1000000):Calls Tryz.prog 201 #[v] w fun e w'=>∃ v',e=.returned v'∧OP w' w.heap.size v' (srt l)∧Bw_ w w':=by
 obtain⟨a,cap,rfl,_,hc⟩:=hr.open;have HC:=zH hc;clear hr hc;go_enter Tryz.func201,Tryz.ntmps201;go_wp2
 go_loopw [3,4] (fun o t wx=>∃ k:Nat,k≤l.length∧t=.int .i64 (k:Int)∧Hid (OP wx w.heap.size o (srt (l.take k)))∧Hid (Below w.heap.size w wx)) (fun _ t _=>l.length-(intOf t).toNat)
 case atStart=>exact⟨0,by omega,rfl,OP.nil _ _,dM _⟩
 case round =>
  obtain⟨k,hk,rfl,HO,HB⟩:=hrel;obtain⟨ao,co,rfl⟩:=ap HO.o
  by_cases hkl:k<l.length
  ·have k0:=nn_ k
   have k1:(k:Int)<(l.length:Int):=by omega
   obtain⟨bl,ol,rfl,d1,d2⟩:=HC.o k hkl;have HD1:=zH d1;have HD2:=zH d2;have HSN:=zH (show srt (l.take (k+1))=ins l[k] (srt (l.take k)) by rw[Dz hkl,iK]);have HSO:=zH (dT (l.take k));have HRL:=zH (show(srt (l.take k)).length≤1000000 by rw[bK,DU];omega);obtain⟨p,hp⟩:=ex_ (l[k]);rw[←hp]at HD1 HD2 HSN;obtain⟨R,hR⟩:=ex_ (srt (l.take k));rw[←hR]at HO HSN HSO HRL⊢;clear hp hR d1 d2;have hrp:=HO.o.reads;obtain⟨_,_,hv,_,hcr⟩:=hrp.open;injection hv with e1 _ e3
   subst e1 e3;have HCR:=zH hcr;have HRP:=zH hrp;have hRL:=HRL.o;clear hcr hrp;obtain⟨Wr,hWr⟩:=ex_ wr;subst hWr;go_wp2
   go_loopw [5] (fun t wx=>∃ j:Nat,j≤R.length∧t=.int .i64 (j:Int)∧Hid (∀ i (h:i<R.length),j≤i→lt p.1 R[i].1=true)∧Hid (Below Wr.heap.size Wr wx)) (fun t _=>(intOf t).toNat)
   case atStart=>exact⟨R.length,by omega,rfl,fun i h h'=>by omega,dM _⟩
   case round =>
    obtain⟨j,hj,rfl,HJ,HX⟩:=hrel;have e1:=C8 HX.o (C8 HB.o HD1.o)
    by_cases hj0:0<j
    ·obtain⟨i,rfl⟩:∃ i,j=i+1:=⟨j-1,by omega⟩
     have hiR:i<R.length:=by omega
     obtain⟨b,off,rfl,d3,_⟩:=HCR.o i hiR;replace d3:=C8 HX.o d3;have i0:=nn_ i;have i1:(i:Int)<(R.length:Int):=by omega
     have c0:(0:Int)<((i+1:Nat):Int):=by omega
     have ei:(((i+1:Nat):Int)-1)=(i:Int):=by omega
     cases hlt:lt p.1 R[i].1 with
     | true =>
      have h2:=jm hlt
      have h3:(R[i].1==p.1)=false:=by
       rw[beq_eq_false_iff_ne];intro e;rw[e,lh]at hlt;cases hlt
      have HJ2:=zH (show ∀ i' (h:i'<R.length),i≤i'→lt p.1 R[i'].1=true from fun i' h h'=>by
       rcases Nat.lt_or_ge i i' with h4|h4
       ·exact HJ.o i' h (by omega)
       ·obtain rfl:i'=i:=by omega
        exact hlt)
      have HLT:=zH hlt;clear hlt;unfold lt at h2;go_wp2;go_quiet (fail);go_wp2;refine⟨?_,by simp[intOf]⟩
      first
       | exact⟨i,by omega,rfl,HJ2.o,bt HX.o (C9 _ _)⟩
       | ((repeat apply Exists.intro);exact⟨⟨i,by omega,rfl,HJ2.o,bt HX.o (C9 _ _)⟩,rfl⟩)
     | false =>
      have HINS:=zH (show srt (l.take (k+1))=R.take (i+1)++p::R.drop (i+1) by
       rw[HSN.o];exact ug p R (i+1) (by omega) HSO.o HJ.o (fun _ h'=>hlt))
      have hJR:i+1≤R.length:=by omega
      clear HJ
      cases hgt:lt R[i].1 p.1 with
      | true =>
       clear hlt;unfold lt at hgt;go_wp2;go_quiet (fail);obtain⟨wz,hwz⟩:=ex_ (wr.drewN nq);have HXw:=zH (show Below Wr.heap.size Wr wz by rw[hwz];exact bt HX.o (C9 _ _));rw[←hwz];obtain⟨J,hJ⟩:=ex_ (i+1);have HJE:=zH hJ;rw[←hJ]at HINS hJR⊢;clear hwz hgt d3 e1 hJ;exact FY
      | false =>
       have heq:R[i].1=p.1:=by
        have:=Bg R[i].1 p.1;rw[hgt,hlt,Bool.false_or]at this;have h':(R[i].1==p.1)=true:=by simpa using this
        simpa using h'
       have h3:(R[i].1==p.1)=true:=by simpa using heq
       clear hlt heq;unfold lt at hgt;go_wp2;go_quiet (fail);obtain⟨wz,hwz⟩:=ex_ (wr.drewN nq);have HXw:=zH (show Below Wr.heap.size Wr wz by rw[hwz];exact bt HX.o (C9 _ _));rw[←hwz];obtain⟨J,hJ⟩:=ex_ (i+1);have HJE:=zH hJ;rw[←hJ]at HINS hJR⊢;clear hwz hgt h3 d3 e1 hJ;exact FY
    ·have HINS:=zH (show srt (l.take (k+1))=R.take j++p::R.drop j by
      rw[HSN.o];exact ug p R j hj HSO.o HJ.o (fun h _=>by omega))
     have hJR:j≤R.length:=hj;have c0:¬(0:Int)<(j:Int):=by omega
     go_wp2;go_quiet (fail);obtain⟨wz,hwz⟩:=ex_ (wr.drewN nq);have HXw:=zH (show Below Wr.heap.size Wr wz by rw[hwz];exact bt HX.o (C9 _ _));rw[←hwz];obtain⟨J,hJ⟩:=ex_ j;have HJE:=zH hJ;rw[←hJ]at HINS hJR⊢;clear hwz e1 hj hj0 HJ c0 hJ;exact FY
  ·obtain rfl:k=l.length:=by omega
   have HF:=zH (List.take_length (l:=l));go_wp2;go_ret
   have hx:OP wr w.heap.size (.slice ao (srt (l.take l.length)).length co) (srt l):=by
    have:=HO.o;simp only[HF.o]at this⊢;exact this
   exact⟨_,rfl,hx,HB.o⟩
end
