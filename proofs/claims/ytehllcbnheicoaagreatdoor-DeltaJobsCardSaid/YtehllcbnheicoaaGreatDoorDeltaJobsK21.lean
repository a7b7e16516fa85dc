/- Lemmas for DeltaJobs: walks, plain laws. -/
import Derived.Deep.DeepCutAuto
import Derived.Test.YtehllcbnheicoaaGreatDoorDeltaJobsK7
set_option linter.unusedSimpArgs false
set_option linter.unusedVariables false
set_option maxRecDepth 100000
set_option maxHeartbeats 16000000
namespace Go.Proofs.YtehllcbnheicoaaGreatDoor
open Go.RowKit Oct
section
theorem Bk (x:UInt32):(0xFFFFFFFF:UInt32) ^^^ x = ~~~x:=by
 apply UInt32.toBitVec_inj.1;simp only[UInt32.toBitVec_xor,UInt32.toBitVec_not];exact BitVec.allOnes_xor
theorem B8 (x:UInt32):bits .xor .u32 (if IntKind.u32.signed=true then -1 else IntKind.u32.max) (U x)=U (~~~x):=by
 have e:(if IntKind.u32.signed=true then -1 else IntKind.u32.max:Int)=U 0xFFFFFFFF:=rfl;rw[e,gI,Bk]
def gB:List UInt32:=[
  0x428a2f98,0x71374491,0xb5c0fbcf,0xe9b5dba5,0x3956c25b,0x59f111f1,0x923f82a4,0xab1c5ed5,
  0xd807aa98,0x12835b01,0x243185be,0x550c7dc3,0x72be5d74,0x80deb1fe,0x9bdc06a7,0xc19bf174,
  0xe49b69c1,0xefbe4786,0x0fc19dc6,0x240ca1cc,0x2de92c6f,0x4a7484aa,0x5cb0a9dc,0x76f988da,
  0x983e5152,0xa831c66d,0xb00327c8,0xbf597fc7,0xc6e00bf3,0xd5a79147,0x06ca6351,0x14292967,
  0x27b70a85,0x2e1b2138,0x4d2c6dfc,0x53380d13,0x650a7354,0x766a0abb,0x81c2c92e,0x92722c85,
  0xa2bfe8a1,0xa81a664b,0xc24b8b70,0xc76c51a3,0xd192e819,0xd6990624,0xf40e3585,0x106aa070,
  0x19a4c116,0x1e376c08,0x2748774c,0x34b0bcb5,0x391c0cb3,0x4ed8aa4a,0x5b9cca4f,0x682e6ff3,
  0x748f82ee,0x78a5636f,0x84c87814,0x8cc70208,0x90befffa,0xa4506ceb,0xbef9a3f7,0xc67178f2]
theorem sH:gB.length=64:=rfl
def h0:List UInt32:=[0x6a09e667,0xbb67ae85,0x3c6ef372,0xa54ff53a,0x510e527f,0x9b05688c,0x1f83d9ab,0x5be0cd19]
def gK (n:Nat):List UInt32:=List.replicate n 0
def qk (e f g h k w:UInt32):UInt32:=h+(dj e 6 ^^^ dj e 11 ^^^ dj e 25)+((e &&& f) ^^^ (~~~e &&& g))+k+w
def zd (a b c:UInt32):UInt32:=(dj a 2 ^^^ dj a 13 ^^^ dj a 22)+((a &&& b) ^^^ (a &&& c) ^^^ (b &&& c))
def step (k w:UInt32):List UInt32→List UInt32
 | [a,b,c,d,e,f,g,h]=>[qk e f g h k w+zd a b c,a,b,c,d+qk e f g h k w,e,f,g]
 | v=>v
def eS (w h:List UInt32):Nat→List UInt32
 | 0=>h
 | t+1=>step (gB.getD t 0) (w.getD t 0) (eS w h t)
def g9 (h:List UInt32)(b:LU_):List UInt32:=List.zipWith (·+·) h (eS (wl b 64) h 64)
theorem rD (k w:UInt32)(v:List UInt32)(h:v.length=8):(step k w v).length=8:=by
 match v,h with
 | [a,b,c,d,e,f,g,h],_=>rfl
theorem dJ (w h:List UInt32)(hl:h.length=8)(t:Nat):(eS w h t).length=8:=by
 induction t with
 | zero=>exact hl
 | succ t ih=>exact rD _ _ _ ih
theorem eo (h:List UInt32)(b:LU_)(hl:h.length=8):(g9 h b).length=8:=by simp[g9,dJ _ h hl,hl]
theorem oq (v:List UInt32)(h:v.length=8):∃ a b c d e f g k,v=[a,b,c,d,e,f,g,k]:=by
 match v,h with
 | [a,b,c,d,e,f,g,h],_=>exact⟨a,b,c,d,e,f,g,h,rfl⟩
theorem y8 (l:List UInt32)(k n:Nat)(hn:l.length=n)(h:k<n):(az l)[k]?=some (.int .u32 (U (l.getD k 0))):=by
 subst hn;rw[o7 l k h,List.getD_eq_getElem?_getD,List.getElem?_eq_getElem h,Option.getD_some]
def aG (h:List UInt32)(rest:LU_)(n:Int):List Value:=az h++[.string (bs rest),.int .u64 n]
theorem pS (h:List UInt32)(rest:LU_)(n:Int)(k:Nat)(hl:h.length=8)(hk:k<8):(aG h rest n)[k]?=some (.int .u32 (U (h.getD k 0))):=by
 rw[aG,List.getElem?_append_left (by rw[aE];omega)];exact y8 h k 8 hl hk
theorem cF (h:List UInt32)(rest:LU_)(n:Int)(hl:h.length=8):(aG h rest n).length=10:=by simp[aG,aE,hl]
theorem du (h:List UInt32)(rest:LU_)(n:Int)(hl:h.length=8):(aG h rest n)[8]?=some (.string (bs rest)):=by
 rw[aG,List.getElem?_append_right (by rw[aE];omega),aE,hl];rfl
theorem jI (h:List UInt32)(rest:LU_)(n:Int)(hl:h.length=8):(aG h rest n)[9]?=some (.int .u64 n):=by
 rw[aG,List.getElem?_append_right (by rw[aE];omega),aE,hl];rfl
theorem uX (h:List UInt32)(rest:LU_)(n:Int)(k:Nat)(x:UInt32)(hl:h.length=8)(hk:k<8):(aG h rest n).set k (.int .u32 (U x))=aG (h.set k x) rest n:=by
 rw[aG,List.set_append_left _ _ (by rw[aE];omega),gq];rfl
theorem jH (h:List UInt32)(rest r':LU_)(n:Int)(hl:h.length=8):(aG h rest n).set 8 (.string (bs r'))=aG h r' n:=by
 rw[aG,List.set_append_right _ _ (by rw[aE];omega),aE,hl];rfl
theorem sQ (h:List UInt32)(rest:LU_)(n n':Int)(hl:h.length=8):(aG h rest n).set 9 (.int .u64 n')=aG h rest n':=by
 rw[aG,List.set_append_right _ _ (by rw[aE];omega),aE,hl];rfl
def i8 (h v:List UInt32)(k:Nat):List UInt32:=List.zipWith (·+·) (h.take k) (v.take k)++h.drop k
theorem vF (h v:List UInt32):i8 h v 0=h:=by simp[i8]
theorem yx (h v:List UInt32)(hl:h.length=8)(hv:v.length=8):i8 h v 8=List.zipWith (·+·) h v:=by
 simp[i8,Eh (Nat.le_of_eq hl),Eh (Nat.le_of_eq hv),List.drop_of_length_le (Nat.le_of_eq hl)]
theorem eW (h v:List UInt32)(hl:h.length=8)(hv:v.length=8)(k:Nat)(hk:k≤8):(i8 h v k).length=8:=by
 simp[i8,hl,hv];omega
theorem vG (h v:List UInt32)(hl:h.length=8)(hv:v.length=8)(k:Nat)(hk:k<8):(i8 h v k).getD k 0=h.getD k 0∧(i8 h v k).set k (h.getD k 0+v.getD k 0)=i8 h v (k+1):=by
 obtain⟨a,b,c,d,e,f,g,i,rfl⟩:=oq h hl;obtain⟨a',b',c',d',e',f',g',i',rfl⟩:=oq v hv
 match k,hk with
 | 0,_|1,_|2,_|3,_|4,_|5,_|6,_|7,_=>exact⟨rfl,rfl⟩
theorem xg (w:World):Calls Tryz.prog 187 #[] w fun e w'=>e=.returned (.agg (az gB).toArray)∧Bw_ w w':=by
 have hz:=(zero_of_info (P:=Tryz.prog) (t:=270) (v:=.agg (az (gK 64)).toArray) (n:=64) (by kernel_rfl)).1;go_enter Tryz.func187,Tryz.ntmps187;have HN:=zH (Blk.new w (az (gK 64)) 270);have HI:=zH (show(Tryz.prog.info? 270).map (·.size)=some (az gB).length by kernel_rfl);go_wp2_with first|(refine j8 (az gB) rfl _ _ rfl (by kernel_rfl) ?_)|(refine gp w.heap.size (az (gK 64)) (az gB) HN.o rfl _ _ _ rfl rfl rfl HI.o rfl (fj _) ?_)
 refine bodyPost_ret (kE rfl rfl (HN.o.row _) (.array 64 241) (by kernel_rfl) rfl HI.o) rfl ⟨rfl,aI (af w _) (Ei _) _⟩
theorem Ak (V:List UInt32)(hV:V.length=8)(k:Nat)(hk:k<8)(w:World):(Instr.index 242 (.agg (az V).toArray) (.int .i64 (k:Int))).run Tryz.prog w=.ok (.int .u32 (U (V.getD k 0))) w:=by
 obtain⟨a,b,c,d,e,f,g,i,rfl⟩:=oq V hV;rcases(by omega:k=0∨k=1∨k=2∨k=3∨k=4∨k=5∨k=6∨k=7) with rfl|rfl|rfl|rfl|rfl|rfl|rfl|rfl
 all_goals clear hk hV
 all_goals kernel_rfl
end
section
def sc (d:Bool)(v:Value):Value:=bif d then v else undef
@[go_sem] theorem A8 (v:Value):sc true v=v:=rfl
@[go_sem] theorem C9 (v:Value):sc false v=undef:=rfl
def BI (w0 w:World)(t64 t8:TypeId)(W H:List UInt32)(d7 d8 d9 d10 d11 d12:Bool)(b4 b5 b6:Nat):Prop :=
 Below w0.heap.size w0 w∧(d7=true→w0.heap.size≤b4∧Blk w b4 t64 (az (bif d10 then W else gK 64)))∧(d8=true→w0.heap.size≤b5∧Blk w b5 t64 (az (bif d11 then gB else gK 64))) ∧
  (d9=true→w0.heap.size≤b6∧Blk w b6 t8 (az (bif d12 then H else gK 8)))∧(d7=true→d8=true→b4≠b5)∧(d7=true→d9=true→b4≠b6)∧(d8=true→d9=true→b5≠b6) ∧
  (d10=true→d7=true)∧(d11=true→d8=true)∧(d12=true→d9=true)
section
variable {w0 w:World}{t64 t8:TypeId}{W H:List UInt32}{d7 d8 d9 d10 d11 d12:Bool}{b4 b5 b6:Nat}
theorem BI.below {w':World}(h:BI w0 w t64 t8 W H d7 d8 d9 d10 d11 d12 b4 b5 b6)(hB:Below w.heap.size w w'):BI w0 w' t64 t8 W H d7 d8 d9 d10 d11 d12 b4 b5 b6:=by
 obtain⟨h0,h1,h2,h3,h4⟩:=h;exact⟨bt h0 hB,fun e=>⟨(h1 e).1,(h1 e).2.below hB⟩,fun e=>⟨(h2 e).1,(h2 e).2.below hB⟩,fun e=>⟨(h3 e).1,(h3 e).2.below hB⟩,h4⟩
theorem ff {d:Bool}(h:d=true→false=true):d=false:=by cases d<;>simp_all
theorem BI.alloc4 (h:BI w0 w t64 t8 W H false d8 d9 d10 d11 d12 b4 b5 b6):BI w0 (w.alloc (.cells (az (gK 64)).toArray t64)) t64 t8 W H true d8 d9 d10 d11 d12 w.heap.size b5 b6:=by
 have hb:=BI.below h (af w (.cells (az (gK 64)).toArray t64));obtain⟨h0,h1,h2,h3,h4,h5,h6,h7,h8,h9⟩:=h;obtain rfl:=ff h7;exact⟨hb.1,fun _=>⟨h0.size,Blk.new _ _ _⟩,hb.2.2.1,hb.2.2.2.1,fun _ e=>Nat.ne_of_gt (h2 e).2.lt,fun _ e=>Nat.ne_of_gt (h3 e).2.lt,h6,fun e=>(by cases e),h8,h9⟩
theorem BI.alloc5 (h:BI w0 w t64 t8 W H d7 false d9 d10 d11 d12 b4 b5 b6):BI w0 (w.alloc (.cells (az (gK 64)).toArray t64)) t64 t8 W H d7 true d9 d10 d11 d12 b4 w.heap.size b6:=by
 have hb:=BI.below h (af w (.cells (az (gK 64)).toArray t64));obtain⟨h0,h1,h2,h3,h4,h5,h6,h7,h8,h9⟩:=h;obtain rfl:=ff h8;exact⟨hb.1,hb.2.1,fun _=>⟨h0.size,Blk.new _ _ _⟩,hb.2.2.2.1,fun e _=>Nat.ne_of_lt (h1 e).2.lt,h5,fun _ e=>Nat.ne_of_gt (h3 e).2.lt,h7,fun e=>(by cases e),h9⟩
theorem BI.alloc6 (h:BI w0 w t64 t8 W H d7 d8 false d10 d11 d12 b4 b5 b6):BI w0 (w.alloc (.cells (az (gK 8)).toArray t8)) t64 t8 W H d7 d8 true d10 d11 d12 b4 b5 w.heap.size:=by
 have hb:=BI.below h (af w (.cells (az (gK 8)).toArray t8));obtain⟨h0,h1,h2,h3,h4,h5,h6,h7,h8,h9⟩:=h;obtain rfl:=ff h9;exact⟨hb.1,hb.2.1,hb.2.2.1,fun _=>⟨h0.size,Blk.new _ _ _⟩,h4,fun e _=>Nat.ne_of_lt (h1 e).2.lt,fun e _=>Nat.ne_of_lt (h2 e).2.lt,h7,h8,fun e=>(by cases e)⟩
theorem Blk.other {w:World}{b b':Nat}{t:TypeId}{cs:List Value}(h:Blk w b t cs)(hne:b'≠b)(cs':Array Value):Blk (w.setRow b' cs') b t cs:=by
 unfold Blk;rw[gF w b' cs' b (Ne.symm hne)];exact h
theorem BI.store4 (h:BI w0 w t64 t8 W H true d8 d9 d10 d11 d12 b4 b5 b6):BI w0 (w.setRow b4 (az W).toArray) t64 t8 W H true d8 d9 true d11 d12 b4 b5 b6:=by
 obtain⟨h0,h1,h2,h3,h4,h5,h6,h7,h8,h9⟩:=h;exact⟨aI h0 (h1 rfl).1 _,fun _=>⟨(h1 rfl).1,(h1 rfl).2.row _⟩,fun e=>⟨(h2 e).1,(h2 e).2.other (h4 rfl e) _⟩,fun e=>⟨(h3 e).1,(h3 e).2.other (h5 rfl e) _⟩,h4,h5,h6,fun _=>rfl,h8,h9⟩
theorem BI.store5 (h:BI w0 w t64 t8 W H d7 true d9 d10 d11 d12 b4 b5 b6):BI w0 (w.setRow b5 (az gB).toArray) t64 t8 W H d7 true d9 d10 true d12 b4 b5 b6:=by
 obtain⟨h0,h1,h2,h3,h4,h5,h6,h7,h8,h9⟩:=h;exact⟨aI h0 (h2 rfl).1 _,fun e=>⟨(h1 e).1,(h1 e).2.other (Ne.symm (h4 e rfl)) _⟩,fun _=>⟨(h2 rfl).1,(h2 rfl).2.row _⟩,fun e=>⟨(h3 e).1,(h3 e).2.other (h6 rfl e) _⟩,h4,h5,h6,h7,fun _=>rfl,h9⟩
theorem BI.store6 (h:BI w0 w t64 t8 W H d7 d8 true d10 d11 d12 b4 b5 b6):BI w0 (w.setRow b6 (az H).toArray) t64 t8 W H d7 d8 true d10 d11 true b4 b5 b6:=by
 obtain⟨h0,h1,h2,h3,h4,h5,h6,h7,h8,h9⟩:=h;exact⟨aI h0 (h3 rfl).1 _,fun e=>⟨(h1 e).1,(h1 e).2.other (Ne.symm (h5 e rfl)) _⟩,fun e=>⟨(h2 e).1,(h2 e).2.other (Ne.symm (h6 e rfl)) _⟩,fun _=>⟨(h3 rfl).1,(h3 rfl).2.row _⟩,h4,h5,h6,h7,h8,fun _=>rfl⟩
end
def DH (w0:World)(p:Nat)(l:LU_)(h:List UInt32)(listed:Array Bool)(a:Act)(w:World):Prop :=
 ∃ d0 d1 d2 d3 d4 d5 d6 d7 d8 d9 d10 d11 d12:Bool,∃ b4 b5 b6:Nat,listed=#[d0,d1,d2,d3,d4,d5,d6,d7,d8,d9,d10,d11,d12] ∧
  a={ tmps:=List.toArray ((.pointer (some ⟨p,0,none⟩))::(.string (bs l))::undef::undef::(sc d7 (.pointer (some ⟨b4,0,none⟩)))::(sc d8 (.pointer (some ⟨b5,0,none⟩)))::(sc d9 (.pointer (some ⟨b6,0,none⟩)))::undef::undef::undef::undef::undef::undef::undef::undef::undef::undef::undef::(sc d0 (.string (bs l)))::(sc d1 (.agg (az (wl l 64)).toArray))::(sc d2 (.agg (az gB).toArray))::(sc d3 (.pointer (some ⟨p,0,none⟩)))::(sc d4 (.pointer (some ⟨p,0,none⟩)))::(sc d5 (.pointer (some ⟨p,0,none⟩)))::(sc d6 (.agg (az h).toArray))::undef::undef::undef::undef::undef::undef::undef::undef::undef::undef::undef::undef::undef::undef::undef::undef::undef::undef::undef::undef::undef::undef::undef::undef::undef::undef::undef::undef::undef::undef::undef::undef::undef::undef::undef::undef::undef::undef::undef::undef::undef::undef::undef::undef::undef::undef::undef::undef::undef::undef::undef::undef::undef::undef::undef::undef::undef::undef::undef::undef::undef::undef::undef::undef::undef::undef::undef::undef::undef::undef::undef::undef::undef::undef::undef::undef::undef::undef::undef::undef::undef::undef::undef::undef::undef::undef::undef::undef::undef::undef::undef::undef::undef::undef::undef::[]),defers:=[] }∧Hid (BI w0 w 270 242 (wl l 64) h d7 d8 d9 d10 d11 d12 b4 b5 b6)
theorem p7 (p:Nat)(h:List UInt32)(hl:h.length=8)(rest:LU_)(n:Int)(l:LU_)(h64:64≤l.length)(w:World)(hB:Blk w p 244 (aG h rest n)):Calls Tryz.prog 161 #[.pointer (some ⟨p,0,none⟩),.string (bs l)] w fun e w'=>e=.returned (.tuple #[])∧Blk w' p 244 (aG (g9 h l) rest n)∧Chg (·=p) w w':=by
 have hz1:=(zero_of_info (P:=Tryz.prog) (t:=270) (v:=.agg (az (gK 64)).toArray) (n:=64) (by kernel_rfl)).1;have hz2:=(zero_of_info (P:=Tryz.prog) (t:=242) (v:=.agg (az (gK 8)).toArray) (n:=8) (by kernel_rfl)).1;have HB:=zH hB;have H64:=zH h64;have HL:=zH hl;have H8:=zH (show(Tryz.prog.info? 242).map (·.size)=some (az h).length by rw[aE,hl];kernel_rfl);have I64:=zH (show(Tryz.prog.info? 270).map (·.size)=some (az (wl l 64)).length by rw[aE,dq];kernel_rfl);have IK:=zH (show(Tryz.prog.info? 270).map (·.size)=some (az gB).length by kernel_rfl);clear hB;go_enter Tryz.func161,Tryz.ntmps161;go_wp2;refine ny (DH w p l h) (by kernel_rfl) (by kernel_rfl) ⟨false,false,false,false,false,false,false,false,false,false,false,false,false,0,0,0,rfl,rfl,?_⟩ ?_ ?_
 ·exact⟨b_drew w,fun e=>(by cases e),fun e=>(by cases e),fun e=>(by cases e),fun e=>(by cases e),fun e=>(by cases e),fun e=>(by cases e),fun e=>(by cases e),fun e=>(by cases e),fun e=>(by cases e)⟩
 ·intro listed a wx hI hs hall
  obtain⟨d0,d1,d2,d3,d4,d5,d6,d7,d8,d9,d10,d11,d12,b4,b5,b6,rfl,rfl,hBI⟩:=hI;have e0:d0=true:=by simpa using hall 0 (by decide)
  have e1:d1=true:=by simpa using hall 1 (by decide)
  have e2:d2=true:=by simpa using hall 2 (by decide)
  have e3:d3=true:=by simpa using hall 3 (by decide)
  have e4:d4=true:=by simpa using hall 4 (by decide)
  have e5:d5=true:=by simpa using hall 5 (by decide)
  have e6:d6=true:=by simpa using hall 6 (by decide)
  have e7:d7=true:=by simpa using hall 7 (by decide)
  have e8:d8=true:=by simpa using hall 8 (by decide)
  have e9:d9=true:=by simpa using hall 9 (by decide)
  have e10:d10=true:=by simpa using hall 10 (by decide)
  have e11:d11=true:=by simpa using hall 11 (by decide)
  have e12:d12=true:=by simpa using hall 12 (by decide)
  simp only[e0,e1,e2,e3,e4,e5,e6,e7,e8,e9,e10,e11,e12,A8]at hBI⊢;clear e0 e1 e2 e3 e4 e5 e6 e7 e8 e9 e10 e11 e12 hall hs;obtain⟨hw,h4,h5,h6,n45,n46,n56,-⟩:=hBI.o;have B4:Hid (Blk wx b4 270 (az (wl l 64))):=(h4 rfl).2;have B5:Hid (Blk wx b5 270 (az gB)):=(h5 rfl).2;have B6:Hid (Blk wx b6 242 (az h)):=(h6 rfl).2;have BP:=zH (HB.o.below hw);have N46:Hid (b4≠b6):=n46 rfl rfl;have N56:Hid (b5≠b6):=n56 rfl rfl;have NP:Hid (p≠b6):=(by have:=HB.o.lt;have:=(h6 rfl).1;show p≠b6;omega)
  have HW:=zH hw;have HG6:=zH (h6 rfl).1;clear hw h4 h5 h6 n45 n46 n56 hBI hz1 hz2 d0 d1 d2 d3 d4 d5 d6 d7 d8 d9 d10 d11 d12;go_wp2
  go_loopw [25] (fun t ux=>∃ k:Nat,k≤64∧t=.int .i64 k∧Hid (Blk ux b6 242 (az (eS (wl l 64) h k)))∧Hid (Chg (·=b6) wx ux)) (fun t _=>64-(intOf t).toNat)
  case atStart=>exact⟨0,by omega,rfl,B6,Chg.refl _ _⟩
  case round =>
   obtain⟨k,hk,rfl,HB6,HC6⟩:=hrel
   by_cases hk64:k<64
   ·have k1:(k:Int)<64:=by omega
    have k0:=nn_ k;have hst:eS (wl l 64) h (k+1)=step (gB.getD k 0) ((wl l 64).getD k 0) (eS (wl l 64) h k):=rfl;obtain⟨v0,v1,v2,v3,v4,v5,v6,v7,hv⟩:=oq _ (dJ (wl l 64) h HL.o k);rw[hv]at HB6 hst;obtain⟨c0,c1,c2,c3,c4,c5,c6,c7⟩:=cl8 HB6.o;have cw:=(B4.o.chg HC6.o N46.o).cell (y8 (wl l 64) k 64 (dq l 64) hk64);have ck:=(B5.o.chg HC6.o N56.o).cell (y8 gB k 64 rfl hk64);generalize (wl l 64).getD k 0=ww at *;generalize gB.getD k 0=kk at *;have HST:=zH hst;clear hst hv;go_wp2;go_quiet (fail);go_wp2;refine rk_ [(1,.exact Bel (.int .u32 (U v7))),(3,.exact Bel (.int .u32 (U (dj v4 6)))),(5,.exact Bel (.int .u32 (U (dj v4 11)))),(8,.exact Bel (.int .u32 (U (dj v4 25)))),(22,.exact Bel (.int .u32 (U kk))),(26,.exact Bel (.int .u32 (U ww)))] ?_;refine cG ?_;refine gE_ (fun w' G hB hS hG=>?_) (fun K hK=>?_)
    ·have cc:=DK (bt (DL wr nq) hB) c7
     go_simp;exact hG _ (Bel.refl _)
    refine cO ?_;clear hK K;refine gE_ (fun w' G hB hS hG=>?_) (fun K hK=>?_)
    ·go_simp
     exact aH hG (fy v4 6 _ (by omega) (by omega))
    refine cO ?_;clear hK K;refine gE_ (fun w' G hB hS hG=>?_) (fun K hK=>?_)
    ·go_simp
     exact aH hG (fy v4 11 _ (by omega) (by omega))
    refine cO ?_;clear hK K;refine gE_ (fun w' G hB hS hG=>?_) (fun K hK=>?_)
    ·go_simp
     exact aH hG (fy v4 25 _ (by omega) (by omega))
    refine cO ?_;clear hK K;refine gE_ (fun w' G hB hS hG=>?_) (fun K hK=>?_)
    ·have cc:=DK (bt (DL wr nq) hB) ck
     go_simp;exact hG _ (Bel.refl _)
    refine cO ?_;clear hK K;refine gE_ (fun w' G hB hS hG=>?_) (fun K hK=>?_)
    ·have cc:=DK (bt (DL wr nq) hB) cw
     go_simp;exact hG _ (Bel.refl _)
    refine cO ?_;clear hK K;simp only[B8]
    (try simp only[eZ,dQ,dR,eY,eX,dP,ke,gI,gV,gJ,fd,fc,fb,fa])
    have ht1:v7+(dj v4 6 ^^^ dj v4 11 ^^^ dj v4 25)+(v4 &&& v5 ^^^ ~~~v4 &&& v6)+kk+ww=qk v4 v5 v6 v7 kk ww:=rfl;rw[ht1];clear ht1
    (intro w' hB hA;simp only[au.all_some,DP,and_true]at hA)
    have hBx:=zH (bt (DL wr nq) hB);clear hB c0 c1 c2 c4 c5 c6 c7 cw ck hA;go_wp2_with fail;refine(fy v0 2 _ (by omega) (by omega)).mono ?_;rintro e w2 ⟨rfl,hB2⟩;go_wp2_with fail;refine(fy v0 13 _ (by omega) (by omega)).mono ?_;rintro e w3 ⟨rfl,hB3⟩;go_wp2_with fail;refine(fy v0 22 _ (by omega) (by omega)).mono ?_;rintro e w4 ⟨rfl,hB4⟩;have hB0:=bt (bt (bt hBx.o hB2) hB3) hB4;replace c3:=DK hB0 c3;have B6':=zH (HB6.o.below hB0);have HC6':=zH (HC6.o.trans (DM hB0));clear hB0 hBx hB2 hB3 hB4;obtain⟨NL,hNL⟩:∃ NL:List UInt32,NL=[qk v4 v5 v6 v7 kk ww+zd v0 v1 v2,v0,v1,v2,v3+qk v4 v5 v6 v7 kk ww,v4,v5,v6]:=⟨_,rfl⟩
    have I8:=zH (show(Tryz.prog.info? 242).map (·.size)=some (az NL).length by rw[hNL];kernel_rfl);have L8:=zH (show(az [v0,v1,v2,v3,v4,v5,v6,v7]).length=(az NL).length by rw[hNL];rfl);have HST':=zH (show eS (wl l 64) h (k+1)=NL by rw[HST.o,hNL];rfl);have HNL:=zH hNL;clear hNL;go_wp2_with first|(refine j8 (az NL) rfl _ _ rfl (by rw[HNL.o];kernel_rfl) ?_;refine gp b6 (az [v0,v1,v2,v3,v4,v5,v6,v7]) (az NL) B6'.o rfl 242 (.tmp 6) (.tmp 101) rfl rfl rfl I8.o L8.o (fj _) ?_)
    refine⟨⟨k+1,by omega,by go_num,?_,HC6'.o.trans (iT _ _ _ rfl)⟩,by simp[intOf];omega⟩;rw[HST'.o];exact B6'.o.row _
   ·have hk:k=64:=by omega
    subst hk;have HI8:=zH (show(Tryz.prog.info? 242).map (·.size)=some (az (eS (wl l 64) h 64)).length by rw[aE,dJ _ _ HL.o];kernel_rfl);have HBP:Hid (Blk wr p 244 (aG h rest n)):=BP.o.chg HC6.o NP.o;have HVL:=zH (dJ (wl l 64) h HL.o 64);obtain⟨V,hV⟩:=ex_ (eS (wl l 64) h 64);rw[←hV]at HB6 HI8 HVL;have HV:=zH hV;clear hV;go_wp2_with (refine lr b6 (az V) HB6.o (.array 8 241) rfl _ _ rfl rfl (by kernel_rfl) rfl HI8.o ?_)
    go_loopw [104] (fun t ux=>∃ k:Nat,k≤8∧t=.int .i64 k∧Hid (Blk ux p 244 (aG (i8 h V k) rest n))∧Hid (Chg (·=p) wr ux)) (fun t _=>8-(intOf t).toNat)
    case atStart=>exact⟨0,by omega,rfl,(by rw[vF];exact HBP),Chg.refl _ _⟩
    case round =>
     obtain⟨k,hk,rfl,HBp,HCp⟩:=hrel
     by_cases hk8:k<8
     ·have k1:(k:Int)<8:=by omega
      have k0:=nn_ k;obtain⟨ha1,ha2⟩:=vG h V HL.o HVL.o k hk8;have cp:=HBp.o.cell (pS (i8 h V k) rest n k (eW h V HL.o HVL.o k hk) hk8);have fp:=HBp.o.free (k:=k) (by rw[cF _ _ _ (eW h V HL.o HVL.o k hk)];omega);have hix:=Ak V HVL.o k hk8;rw[ha1]at cp;generalize h.getD k 0=hh at *;generalize V.getD k 0=vk at *;have HA:=zH ha2;clear ha2 ha1;go_wp2;refine bp 11 [(2,.exact Bel (.pointer (some ⟨p,0,none⟩))),(5,.exact Bel (.int .u32 (U hh))),(8,.exact Bel (.pointer (some ⟨p,0,none⟩)))] (by kernel_rfl) (by kernel_rfl) ?_;simp only[ED,EF,EA,EL];refine cG ?_;refine gE_ (fun w' G hB hS hG=>?_) (fun K hK=>?_)
      ·go_simp
       exact hG _ (Bel.refl _)
      refine cO ?_;clear hK K;refine gE_ (fun w' G hB hS hG=>?_) (fun K hK=>?_)
      ·have cc:=DK hB cp
       go_simp;exact hG _ (Bel.refl _)
      refine cO ?_;clear hK K;refine gE_ (fun w' G hB hS hG=>?_) (fun K hK=>?_)
      ·go_simp
       exact hG _ (Bel.refl _)
      refine cO ?_;clear hK K
      (try simp only[eZ,dQ,dR,eY,eX,dP,ke,gI,gV,gJ,fd,fc,fb,fa])
      (intro w' hB hA;simp only[au.all_some,DP,and_true]at hA)
      have B':=HBp.o.below hB;replace cp:=B'.cell (pS (i8 h V k) rest n k (eW h V HL.o HVL.o k hk) hk8);replace fp:=B'.free (k:=k) (by rw[cF _ _ _ (eW h V HL.o HVL.o k hk)];omega);have HS:=zH (B'.set k (.int .u32 (U (hh+vk))));have HCn:=zH (HCp.o.trans (DM hB));clear B' hB hA hix;go_wp2;refine⟨⟨k+1,by omega,by go_num,?_,HCn.o.trans (Chg.setCell _ _ _ rfl)⟩,by simp[intOf];omega⟩;have:=HS.o;rw[uX _ _ _ _ _ (eW h V HL.o HVL.o k hk) hk8,HA.o]at this;exact this
     ·have hk:k=8:=by omega
      subst hk;have HF:Hid (Blk wr p 244 (aG (g9 h l) rest n)):=(by have:=HBp.o;rw[yx h V HL.o HVL.o,HV.o]at this;exact this)
      go_wp2;refine bodyPost_end (results_none rfl _ _ _) rfl ?_;exact⟨rfl,HF.o,(DM (HW.o.trans (HC6.o.below (fun k e=>e▸HG6.o) HW.o.size))).trans HCp.o⟩
 refine⟨fun listed a wx hI hd hdep=>?_,fun listed a wx hI hd hdep=>?_,fun listed a wx hI hd hdep=>?_,fun listed a wx hI hd hdep=>?_,fun listed a wx hI hd hdep=>?_,fun listed a wx hI hd hdep=>?_,fun listed a wx hI hd hdep=>?_,fun listed a wx hI hd hdep=>?_,fun listed a wx hI hd hdep=>?_,fun listed a wx hI hd hdep=>?_,fun listed a wx hI hd hdep=>?_,fun listed a wx hI hd hdep=>?_,fun listed a wx hI hd hdep=>?_,trivial⟩
 ·obtain⟨d0,d1,d2,d3,d4,d5,d6,d7,d8,d9,d10,d11,d12,b4,b5,b6,rfl,rfl,hBI⟩:=hI
  obtain rfl:d0=false:=by simpa using hd
  rw[if_pos (by rfl)];unfold Oper.wp;go_simp;exact⟨true,d1,d2,d3,d4,d5,d6,d7,d8,d9,d10,d11,d12,b4,b5,b6,rfl,rfl,hBI⟩
 ·obtain⟨d0,d1,d2,d3,d4,d5,d6,d7,d8,d9,d10,d11,d12,b4,b5,b6,rfl,rfl,hBI⟩:=hI
  obtain rfl:d1=false:=by simpa using hd
  simp[Region.binds]at hdep;have e0:d0=true:=by simp[hdep]
  clear hdep;simp only[e0]at hBI⊢;rw[if_pos (by rfl)];unfold Oper.wp;go_simp;refine(wG l wx H64.o).mono ?_;rintro e w2 ⟨rfl,hB2⟩;exact⟨true,true,d2,d3,d4,d5,d6,d7,d8,d9,d10,d11,d12,b4,b5,b6,rfl,rfl,hBI.o.below hB2⟩
 ·obtain⟨d0,d1,d2,d3,d4,d5,d6,d7,d8,d9,d10,d11,d12,b4,b5,b6,rfl,rfl,hBI⟩:=hI
  obtain rfl:d2=false:=by simpa using hd
  simp[Region.binds]at hdep;have e1:d1=true:=by simp[hdep]
  clear hdep;simp only[e1]at hBI⊢;rw[if_pos (by rfl)];unfold Oper.wp;go_simp;refine(xg wx).mono ?_;rintro e w2 ⟨rfl,hB2⟩;exact⟨d0,true,true,d3,d4,d5,d6,d7,d8,d9,d10,d11,d12,b4,b5,b6,rfl,rfl,hBI.o.below hB2⟩
 ·obtain⟨d0,d1,d2,d3,d4,d5,d6,d7,d8,d9,d10,d11,d12,b4,b5,b6,rfl,rfl,hBI⟩:=hI
  obtain rfl:d3=false:=by simpa using hd
  rw[if_pos (by rfl)];unfold Oper.wp;go_simp;exact⟨d0,d1,d2,true,d4,d5,d6,d7,d8,d9,d10,d11,d12,b4,b5,b6,rfl,rfl,hBI⟩
 ·obtain⟨d0,d1,d2,d3,d4,d5,d6,d7,d8,d9,d10,d11,d12,b4,b5,b6,rfl,rfl,hBI⟩:=hI
  obtain rfl:d4=false:=by simpa using hd
  simp[Region.binds]at hdep;have e3:d3=true:=by simp[hdep]
  clear hdep;simp only[e3]at hBI⊢;rw[if_pos (by rfl)];unfold Oper.wp;go_simp;exact⟨d0,d1,d2,true,true,d5,d6,d7,d8,d9,d10,d11,d12,b4,b5,b6,rfl,rfl,hBI⟩
 ·obtain⟨d0,d1,d2,d3,d4,d5,d6,d7,d8,d9,d10,d11,d12,b4,b5,b6,rfl,rfl,hBI⟩:=hI
  obtain rfl:d5=false:=by simpa using hd
  simp[Region.binds]at hdep;have e4:d4=true:=by simp[hdep]
  clear hdep;simp only[e4]at hBI⊢;rw[if_pos (by rfl)];unfold Oper.wp;go_simp;exact⟨d0,d1,d2,d3,true,true,d6,d7,d8,d9,d10,d11,d12,b4,b5,b6,rfl,rfl,hBI⟩
 ·obtain⟨d0,d1,d2,d3,d4,d5,d6,d7,d8,d9,d10,d11,d12,b4,b5,b6,rfl,rfl,hBI⟩:=hI
  obtain rfl:d6=false:=by simpa using hd
  simp[Region.binds]at hdep;have e5:d5=true:=by simp[hdep]
  clear hdep;simp only[e5]at hBI⊢;rw[if_pos (by rfl)]
  have hr:wx.rangeAt p 0 (az h):=fun j v hv=>by
   have hj:j<8:=by have:=(List.getElem?_eq_some_iff.1 hv).1;rwa [aE,HL.o]at this
   rw[Ek];refine(HB.o.below hBI.o.1).cell ?_;rw[aG,List.getElem?_append_left (by rw[aE,HL.o];exact hj)];exact hv
  refine wp_load_mid 242 _ rfl p 0 rfl (az h) (.array 8 241) hr (by kernel_rfl) rfl H8.o ?_;exact⟨d0,d1,d2,d3,d4,true,true,d7,d8,d9,d10,d11,d12,b4,b5,b6,rfl,rfl,hBI⟩
 ·obtain⟨d0,d1,d2,d3,d4,d5,d6,d7,d8,d9,d10,d11,d12,b4,b5,b6,rfl,rfl,hBI⟩:=hI
  obtain rfl:d7=false:=by simpa using hd
  rw[if_pos (by rfl)];unfold Oper.wp;go_simp;exact⟨d0,d1,d2,d3,d4,d5,d6,true,d8,d9,d10,d11,d12,wx.heap.size,b5,b6,rfl,rfl,hBI.o.alloc4⟩
 ·obtain⟨d0,d1,d2,d3,d4,d5,d6,d7,d8,d9,d10,d11,d12,b4,b5,b6,rfl,rfl,hBI⟩:=hI
  obtain rfl:d8=false:=by simpa using hd
  rw[if_pos (by rfl)];unfold Oper.wp;go_simp;exact⟨d0,d1,d2,d3,d4,d5,d6,d7,true,d9,d10,d11,d12,b4,wx.heap.size,b6,rfl,rfl,hBI.o.alloc5⟩
 ·obtain⟨d0,d1,d2,d3,d4,d5,d6,d7,d8,d9,d10,d11,d12,b4,b5,b6,rfl,rfl,hBI⟩:=hI
  obtain rfl:d9=false:=by simpa using hd
  rw[if_pos (by rfl)];unfold Oper.wp;go_simp;exact⟨d0,d1,d2,d3,d4,d5,d6,d7,d8,true,d10,d11,d12,b4,b5,wx.heap.size,rfl,rfl,hBI.o.alloc6⟩
 ·obtain⟨d0,d1,d2,d3,d4,d5,d6,d7,d8,d9,d10,d11,d12,b4,b5,b6,rfl,rfl,hBI⟩:=hI
  obtain rfl:d10=false:=by simpa using hd
  simp[Region.binds]at hdep;have e7:d7=true:=by simp[hdep]
  have e1:d1=true:=by simp[hdep]
  have e2:d2=true:=by simp[hdep]
  have e0:d0=true:=by simp[hdep]
  have e8:d8=true:=by simp[hdep]
  have e9:d9=true:=by simp[hdep]
  clear hdep;simp only[e7,e1,e2,e0,e8,e9]at hBI⊢;rw[if_pos (by rfl)];have hz4:Blk wx b4 270 (az (gK 64)):=(hBI.o.2.1 rfl).2;have hs4:(az (gK 64)).toArray.size=(az (wl l 64)).toArray.size:=by rw[List.size_toArray,List.size_toArray,aE,aE,dq];rfl
  have hi4:(Tryz.prog.info? 270).map (·.size)=some (az (wl l 64)).toArray.size:=by rw[List.size_toArray];exact I64.o
  generalize hWL:wl l 64=WL at *;refine wp_store_row 270 (.tmp 4) (.tmp 19) rfl b4 (az WL).toArray rfl rfl 270 _ hz4 hi4 hs4 (fj _) ?_;subst hWL;exact⟨true,true,true,d3,d4,d5,d6,true,true,true,true,d11,d12,b4,b5,b6,rfl,rfl,hBI.o.store4⟩
 ·obtain⟨d0,d1,d2,d3,d4,d5,d6,d7,d8,d9,d10,d11,d12,b4,b5,b6,rfl,rfl,hBI⟩:=hI
  obtain rfl:d11=false:=by simpa using hd
  simp[Region.binds]at hdep;have e8:d8=true:=by simp[hdep]
  have e2:d2=true:=by simp[hdep]
  have e10:d10=true:=by simp[hdep]
  have e0:d0=true:=by simp[hdep]
  have e1:d1=true:=by simp[hdep]
  have e7:d7=true:=by simp[hdep]
  have e9:d9=true:=by simp[hdep]
  clear hdep;simp only[e8,e2,e10,e0,e1,e7,e9]at hBI⊢;rw[if_pos (by rfl)];refine wp_store_row 270 _ _ rfl b5 (az gB).toArray rfl rfl 270 _ (hBI.o.2.2.1 rfl).2 (by rw[List.size_toArray];exact IK.o) rfl (fj _) ?_;exact⟨true,true,true,d3,d4,d5,d6,true,true,true,true,true,d12,b4,b5,b6,rfl,rfl,hBI.o.store5⟩
 ·obtain⟨d0,d1,d2,d3,d4,d5,d6,d7,d8,d9,d10,d11,d12,b4,b5,b6,rfl,rfl,hBI⟩:=hI
  obtain rfl:d12=false:=by simpa using hd
  simp[Region.binds]at hdep;have e0:d0=true:=by simp[hdep]
  have e1:d1=true:=by simp[hdep]
  have e2:d2=true:=by simp[hdep]
  have e3:d3=true:=by simp[hdep]
  have e4:d4=true:=by simp[hdep]
  have e5:d5=true:=by simp[hdep]
  have e6:d6=true:=by simp[hdep]
  have e7:d7=true:=by simp[hdep]
  have e8:d8=true:=by simp[hdep]
  have e9:d9=true:=by simp[hdep]
  have e10:d10=true:=by simp[hdep]
  have e11:d11=true:=by simp[hdep]
  clear hdep;simp only[e0,e1,e2,e3,e4,e5,e6,e7,e8,e9,e10,e11]at hBI⊢;rw[if_pos (by rfl)];refine wp_store_row 242 _ _ rfl b6 (az h).toArray rfl rfl 242 _ (hBI.o.2.2.2.1 rfl).2 (by rw[List.size_toArray];exact H8.o) (by rw[List.size_toArray,List.size_toArray,aE,aE,HL.o];rfl) (fj _) ?_;exact⟨true,true,true,true,true,true,true,true,true,true,true,true,true,b4,b5,b6,rfl,rfl,hBI.o.store6⟩
end
section
theorem BN (w:World):Calls Tryz.prog 133 #[] w fun e w'=>∃ b,e=.returned (.pointer (some ⟨b,0,none⟩))∧w.heap.size≤b∧Blk w' b 244 (aG h0 [] 0)∧Bw_ w w':=by
 go_enter Tryz.func133,Tryz.ntmps133;go_wp2_with (refine j8 (az h0) rfl _ _ rfl (by kernel_rfl) ?_;refine j8 (aG h0 [] 0) rfl _ _ rfl (by kernel_rfl) ?_);go_ret;exact⟨_,rfl,Ei _,Blk.new _ _ _,af _ _⟩
theorem oB (p:Nat)(w:World):Calls Tryz.prog 160 #[.pointer (some ⟨p,0,none⟩)] w fun e w'=>∃ b,e=.returned (.func (.func 185) #[] #[.pointer (some ⟨b,0,none⟩)])∧w.heap.size≤b∧Blk w' b 195 [.pointer (some ⟨p,0,none⟩)]∧Bw_ w w':=by
 have hmf:∀ (fn:Fn) (first cap:Array Value) (w:World),(Instr.makeFunc fn first cap).run Tryz.prog w=.ok (.func fn first cap) w:=fun _ _ _ _=>rfl;go_enter Tryz.func160,Tryz.ntmps160;go_wp2;go_ret;exact⟨_,rfl,Ei _,Blk.new _ _ _,af _ _⟩
def wn:Nat→LU_→LL_
 | 0,_=>[]
 | n+1,l=>l.take 64::wn n (l.drop 64)
def cT (l:LU_):LL_:=wn (l.length / 64) l
def bW (l:LU_):LU_:=l.drop (64*(l.length / 64))
def cL (h:List UInt32)(l:LU_):List UInt32:=(cT l).foldl g9 h
theorem gU (l:LU_)(h:64≤l.length):cT l=l.take 64::cT (l.drop 64):=by
 unfold cT;rw[Ew,show l.length / 64=(l.length-64) / 64+1 by omega];rfl
theorem lq (l:LU_)(h:l.length<64):cT l=[]:=by
 unfold cT;rw[show l.length / 64=0 by omega];rfl
theorem ni (l:LU_)(h:64≤l.length):bW l=bW (l.drop 64):=by
 unfold bW;rw[Ew,EC];congr 1;omega
theorem rt (l:LU_)(h:l.length<64):bW l=l:=by
 unfold bW;rw[show l.length / 64=0 by omega];rfl
theorem fV (l:LU_):(bW l).length=l.length%64:=by
 unfold bW;rw[Ew];omega
theorem kj (b:LU_):∀ (n:Nat) (a:LU_),a.length=64*n→cT (a++b)=cT a++cT b∧bW (a++b)=bW b:=by
 intro n
 induction n with
 | zero =>
  intro a ha;obtain rfl:a=[]:=Ej (by omega);exact⟨rfl,rfl⟩
 | succ n ih =>
  intro a ha;obtain⟨h1,h2⟩:=ih (a.drop 64) (by rw[Ew];omega);rw[gU (a++b) (by rw[Ev];omega),gU a (by omega),ni (a++b) (by rw[Ev];omega)];rw[List.drop_append_of_le_length (by omega),List.take_append_of_le_length (by omega),h1,h2];exact⟨rfl,rfl⟩
theorem rF (t:LU_):∃ a,t=a++bW t∧a.length=64*(t.length / 64):=by
 refine⟨t.take (64*(t.length / 64)),?_,?_⟩
 ·unfold bW;rw[List.take_append_drop]
 ·rw[EJ];omega
theorem mH (h:List UInt32)(t s:LU_):cL (cL h t) (bW t++s)=cL h (t++s)∧bW (bW t++s)=bW (t++s):=by
 obtain⟨a,h1,h2⟩:=rF t;have e1:=kj (bW t++s) _ a h2;have e2:=kj (bW t) _ a h2;rw[←Et,←h1]at e1;rw[←h1]at e2;have hs:cT (bW t)=[]:=lq _ (by rw[fV];omega);unfold cL;rw[e1.1,e2.1,hs,Ep,List.foldl_append];exact⟨rfl,e1.2.symm⟩
theorem fC (h:List UInt32)(l:LU_)(hl:h.length=8):(cL h l).length=8:=by
 unfold cL;generalize cT l=c
 induction c generalizing h with
 | nil=>exact hl
 | cons x c ih=>exact ih _ (eo h x hl)
theorem cZ (h:List UInt32)(c:LL_)(hl:h.length=8):(c.foldl g9 h).length=8:=by
 induction c generalizing h with
 | nil=>exact hl
 | cons x c ih=>exact ih _ (eo h x hl)
def zc (n:Nat):Nat:=(119-n%64)%64
def be8 (n:Nat):LU_:=[UInt8.ofNat (n / 72057594037927936),UInt8.ofNat (n / 281474976710656),UInt8.ofNat (n / 1099511627776),UInt8.ofNat (n / 4294967296),UInt8.ofNat (n / 16777216),UInt8.ofNat (n / 65536),UInt8.ofNat (n / 256),UInt8.ofNat n]
def dO (r:LU_)(n:Nat):LU_:=r++[0x80]++List.replicate (zc r.length) 0++be8 (8*n)
theorem js (r:LU_)(n:Nat):(dO r n).length=r.length+9+zc r.length:=by
 simp[dO,be8];omega
theorem ms (r:LU_)(n:Nat):(dO r n).length%64=0:=by
 rw[js];unfold zc;omega
def wb (x:UInt32):LU_:=[UInt8.ofNat (x.toNat / 16777216),UInt8.ofNat (x.toNat / 65536),UInt8.ofNat (x.toNat / 256),UInt8.ofNat x.toNat]
def jd (v:List UInt32):LU_:=v.flatMap wb
def kM (t:LU_):LU_:=jd (cL h0 (dO t t.length))
theorem rK (t:LU_):jd (cL (cL h0 t) (dO (bW t) t.length))=kM t:=by
 have h:=mH h0 t ([0x80]++List.replicate (zc t.length) 0++be8 (8*t.length))
 have e:dO (bW t) t.length=bW t++([0x80]++List.replicate (zc t.length) 0++be8 (8*t.length)):=by
  have hz:zc (bW t).length=zc t.length:=by rw[fV];unfold zc;omega
  simp only[dO,hz,Et]
 rw[e,h.1];simp only[kM,dO,Et]
theorem mw (v:List UInt32):(jd v).length=4*v.length:=by
 induction v with
 | nil=>rfl
 | cons x v ih=>simp[jd,wb]at ih⊢;omega
theorem mf (t:LU_):(kM t).length=32:=by
 rw[kM,mw,fC _ _ rfl]
theorem pE (v:List UInt32)(k:Nat)(h:k<v.length):jd (v.take (k+1))=jd (v.take k)++wb (v.getD k 0):=by
 rw[Ef h,jd,List.flatMap_append,List.getD_eq_getElem?_getD,List.getElem?_eq_getElem h];simp[jd]
end
section
attribute [local go_sem] Oper.semAt_some
def XrP (p:Nat)(U U':World):Prop:=Chg (·=p) U U'∧∀ (h:List UInt32) (r:LU_) (n:Int),h.length=8→Blk U p 244 (aG h r n)→∃ r',Blk U' p 244 (aG h r' n)
def YrP (p b:Nat)(U U':World):Prop:=(∀ o,U.heap[b]?=some o→U'.heap[b]?=some o)∧∀ (h:List UInt32) (r:LU_) (n:Int),h.length=8→Blk U p 244 (aG h r n)→∃ h',h'.length=8∧Blk U' p 244 (aG h' r n)
def ElS (x:LU_)(vs:Array Value)(_:World):Prop:=vs=#[.string (bs x)]∧x.length=64
def rJ:Option Value→Nat
 | some (.string s)=>s.size
 | _=>0
theorem BJ {wr:World}{p b:Nat}{h':List UInt32}{q:LU_}{n:Int}(hb:Blk wr b 195 [.pointer (some ⟨p,0,none⟩)])(hp:Blk wr p 244 (aG h' q n))(hne:b≠p)(hl:h'.length=8)(q':LU_):XrP p wr (wr.setCell ⟨p,8,none⟩ (.string (bs q'))).drew∧Blk (wr.setCell ⟨p,8,none⟩ (.string (bs q'))).drew b 195 [.pointer (some ⟨p,0,none⟩)]∧Blk (wr.setCell ⟨p,8,none⟩ (.string (bs q'))).drew p 244 (aG h' q' n):=by
 have hc:Chg (·=p) wr (wr.setCell ⟨p,8,none⟩ (.string (bs q'))).drew:=(Chg.setCell (X:=(·=p)) wr ⟨p,8,none⟩ _ rfl).trans (Chg.drew _ _)
 have hx:∀ (h:List UInt32) (r:LU_) (n:Int),h.length=8→Blk wr p 244 (aG h r n)→Blk (wr.setCell ⟨p,8,none⟩ (.string (bs q'))).drew p 244 (aG h q' n):=fun h r n hl hB=>by
  have:=hB.set 8 (.string (bs q'));rw[jH _ _ _ _ hl]at this;exact this
 exact⟨⟨hc,fun h r n hl hB=>⟨q',hx h r n hl hB⟩⟩,hb.chg hc hne,hx _ _ _ hl hp⟩
theorem mF (k p b:Nat)(h:List UInt32)(hl:h.length=8)(r:LU_)(n:Int)(W:World)(hb:Blk W b 195 [.pointer (some ⟨p,0,none⟩)])(hp:Blk W p 244 (aG h r n))(hne:b≠p)(hr:r.length≤140737488355328):qe Fence.wide k Tryz.prog 185 #[.pointer (some ⟨b,0,none⟩)] (XrP p) (YrP p b) (fun U=>∃ h',h'.length=8∧Blk U p 244 (aG h' (bW r) n)) ElS (cT r) W:=by
 intro l J Jx hJ hJx hY hJ0;refine callsIn_wide.2 ?_;have HJ:=zH hJ;have HJx:=zH hJx;have HY:=zH hY;have HN:=zH hne;clear hJ hJx hY hne;go_enter Tryz.func185,Tryz.ntmps185;go_wp2
 go_loopw [3] (fun _ wr=>∃ (h:List UInt32) (q:LU_) (dn:LL_),q.length≤140737488355328∧Hid (h.length=8)∧Hid (Blk wr b 195 [.pointer (some ⟨p,0,none⟩)])∧Hid (Blk wr p 244 (aG h q n))∧Hid (cT r=dn++cT q)∧Hid (bW r=bW q)∧Hid (J dn wr)) (fun _ wr=>rJ (wr.cell? ⟨p,8,none⟩))
 case atStart=>exact⟨h,r,[],hr,hl,hb,hp,rfl,rfl,hJ0⟩
 case round =>
  clear hb hp hJ0;obtain⟨h',q,dn,hql,hl',hb,hp,hG,hT,hJd⟩:=hrel;have c0:=hb.o.cell (k:=0) rfl;have c8:=hp.o.cell (du h' q n hl'.o);have f8:=hp.o.free (k:=8) (by rw[cF _ _ _ hl'.o];omega)
  by_cases h64:64≤q.length
  ·have m1:(64:Int)≤(q.length:Int):=by omega
   have HS:=zH (gU q h64);have HT2:=zH (ni q h64);have HQ:=zH (show(q.take 64).length=64 by simp;omega);go_wp2;go_region;go_upto_region 3 with(fail);obtain⟨W6,hW6⟩:=ex_ ((wr.setCell ⟨p,8,none⟩ (.string (bs (q.drop 64)))).drew);rw[←hW6];have h6:=BJ hb.o hp.o HN.o hl'.o (q.drop 64);rw[←hW6]at h6;clear hW6;obtain⟨hx6,hb6,hp6⟩:=h6;have hJ6:=HJ.o _ _ _ hJd.o hx6;have hG6:=hG.o;rw[HS.o]at hG6;obtain⟨fn,tm,asg,bod,hy,hRd⟩:=HY.o dn (q.take 64) #[.string (bs (q.take 64))] W6 hJ6 ⟨rfl,HQ.o⟩ ⟨cT (q.drop 64),by rw[hG6];simp⟩;have HB6:=zH hb6;have HP6:=zH hp6;have HG6:=zH hG6;clear hb6 hp6 hG6 hx6 hJ6 c0 c8 f8;refine(wpIn_wide (n:=k)).1 ?_;gi_wp2;refine⟨fun h=>(by cases h),?_⟩;refine hRd.mono ?_;rintro e W7 (⟨rfl,hJ7,hc7⟩|⟨rfl,hJx7⟩)
   ·gi_wp2
    go_wp2;obtain⟨hb7,hp7⟩:=hc7;obtain⟨h7,hl7,hP7⟩:=hp7 h' (q.drop 64) n hl'.o HP6.o;have hql7:(q.drop 64).length=q.length-64:=by simp
    refine⟨⟨h7,q.drop 64,dn++[q.take 64],by omega,hl7,hb7 _ HB6.o,hP7,?_,?_,hJ7⟩,?_⟩
    ·show cT r=dn++[q.take 64]++cT (q.drop 64)
     rw[HG6.o];simp
    ·show bW r=bW (q.drop 64)
     rw[hT.o,HT2.o]
    ·have c1:=hP7.cell (du h7 (q.drop 64) n hl7)
     have c2:=hp.o.cell (du h' q n hl'.o);rw[c1,c2];show(bs (q.drop 64)).size<(bs q).size;rw[bY,bY];omega
   ·gi_wp2
    go_wp2;refine bodyPost_ret (results_none rfl _ _ _) rfl ?_;exact⟨⟨_,rfl⟩,.inr ⟨_,⟨cT (q.drop 64),by rw[HG6.o];simp⟩,hJx7⟩⟩
  ·have m1:¬(64:Int)≤(q.length:Int):=by omega
   have hfin:cT r=dn:=by have:=hG.o;rw[lq q (by omega),Ep]at this;exact this
   have hft:bW r=q:=by have:=hT.o;rw[rt q (by omega)]at this;exact this
   have HF:=zH hfin;have HT2:=zH hft;clear hfin hft;go_wp2;go_end0;refine⟨⟨_,rfl⟩,.inl ⟨by rw[HF.o];exact hJd.o,h',hl'.o,by rw[HT2.o];exact hp.o⟩⟩
theorem pT {U:World}{p:Nat}{h h':List UInt32}{r r':LU_}{n n':Int}(hl:h.length=8)(hl':h'.length=8)(hB:Blk U p 244 (aG h r n))(hB':Blk U p 244 (aG h' r' n')):r'=r∧n'=n:=by
 have a1:=hB.cell (du h r n hl);have a2:=hB'.cell (du h' r' n' hl');have b1:=hB.cell (jI h r n hl);have b2:=hB'.cell (jI h' r' n' hl');rw[a1]at a2;rw[b1]at b2;injection a2 with a2
 injection a2 with a2
 injection b2 with b2
 injection b2 with _ b2
 refine⟨?_,b2.symm⟩;have:=congrArg ByteArray.toList a2;simpa[yw] using this.symm
def WrI (p D0 S:Nat)(v:Value)(t:TypeId)(h:List UInt32)(N:Int)(w:World)(pre:LL_)(U:World):Prop :=
 (∃ rest,Blk U p 244 (aG (pre.foldl g9 h) rest N))∧Blk U S t [v]∧Chg (fun k=>k=p∨D0≤k) w U
theorem WrI.x {p D0 S:Nat}{v:Value}{t:TypeId}{h:List UInt32}{N:Int}{w U U':World}{pre:LL_}(hl:h.length=8)(hS:S≠p)(hI:WrI p D0 S v t h N w pre U)(hx:XrP p U U'):WrI p D0 S v t h N w pre U':=by
 obtain⟨⟨rest,h1⟩,h2,h3⟩:=hI;exact⟨hx.2 _ _ _ (cZ h pre hl) h1,h2.chg hx.1 hS,h3.trans (hx.1.mono fun k hk=>.inl hk)⟩
theorem WrI.d {p D0 S D:Nat}{v:Value}{t:TypeId}{h:List UInt32}{N:Int}{w U U':World}{pre:LL_}(hS:S<D)(hp:p<D)(hD:D0≤D)(hI:WrI p D0 S v t h N w pre U)(hx:Chg (fun k=>k=D∨k=D+1) U U'):WrI p D0 S v t h N w pre U':=by
 obtain⟨⟨rest,h1⟩,h2,h3⟩:=hI;exact⟨⟨rest,h1.chg hx (by omega)⟩,h2.chg hx (by omega),h3.trans (hx.mono fun k hk=>.inr (by omega))⟩
theorem WrI.step {p D0 S:Nat}{v:Value}{t:TypeId}{h:List UInt32}{N:Int}{w U U':World}{pre:LL_}{rest x:LU_}(hS:S≠p)(h2:Blk U S t [v])(h3:Chg (fun k=>k=p∨D0≤k) w U)(hB:Blk U' p 244 (aG (g9 (pre.foldl g9 h) x) rest N))(hc:Chg (·=p) U U'):WrI p D0 S v t h N w (pre++[x]) U' :=
 ⟨⟨rest,by rw[List.foldl_append];exact hB⟩,h2.chg hc hS,h3.trans (hc.mono fun k hk=>.inl hk)⟩
theorem XrP.keep {p D:Nat}(hp:p<D)(U U':World)(h:XrP p U U'):ee D U U':=DS h.1 fun k hk e=>by subst e;omega
theorem YrP.comp {p b D:Nat}(hp:p<D)(hb:b<D)(u v x y:World)(h1:Chg (fun k=>k=D∨k=D+1) u v)(h2:YrP p b v x)(h3:Chg (fun k=>k=D∨k=D+1) x y):YrP p b u y :=
 ⟨fun o ho=>h3.at (h2.1 o (h1.at ho (by omega))) (by omega),fun h r n hl hB=>by
  obtain⟨h',hl',hB'⟩:=h2.2 h r n hl (hB.chg h1 (by omega));exact⟨h',hl',hB'.chg h3 (by omega)⟩⟩
theorem D7 {p b:Nat}{h h':List UInt32}{r:LU_}{n:Int}{U U':World}(hne:b≠p)(hl:h.length=8)(hl':h'.length=8)(hB:Blk U p 244 (aG h r n))(hB':Blk U' p 244 (aG h' r n))(hc:Chg (·=p) U U'):YrP p b U U' :=
 ⟨fun o ho=>hc.at ho hne,fun h2 r2 n2 hl2 hB2=>by
  obtain⟨rfl,rfl⟩:=pT hl hl2 hB hB2;exact⟨h',hl',hB'⟩⟩
theorem B1 {p D:Nat}(hp:p<D)(r:LU_)(n:Int)(U U':World)(h:∃ h',h'.length=8∧Blk U p 244 (aG h' r n))(hc:Chg (fun k=>k=D∨k=D+1) U U'):∃ h',h'.length=8∧Blk U' p 244 (aG h' r n):=by
 obtain⟨h',hl',hB⟩:=h;exact⟨h',hl',hB.chg hc (by omega)⟩
theorem WrI.fin {p D0 S:Nat}{v:Value}{t:TypeId}{h:List UInt32}{N:Int}{w U:World}{l:LU_}(hl:h.length=8)(hI:WrI p D0 S v t h N w (cT l) U)(hf:∃ h',h'.length=8∧Blk U p 244 (aG h' (bW l) N)):Blk U p 244 (aG (cL h l) (bW l) N):=by
 obtain⟨⟨rest,h1⟩,_,_⟩:=hI;obtain⟨h',hl',hB⟩:=hf;obtain⟨rfl,_⟩:=pT hl' (cZ h _ hl) hB h1;exact h1
theorem Ht {T:Prop} (h:T:=by
 rintro e U3 ⟨rfl,hB3,hC3⟩;gi_wp2;refine⟨DS hC3 fun k hk e=>by subst e;omega,D7 hbp (cZ h pre HL.o) (eo _ _ (cZ h pre HL.o)) HBp.o hB3 hC3,WrI.step (by omega) HBx.o HCw.o hB3 hC3⟩
):T:=h
theorem yy (p:Nat)(h:List UInt32)(hl:h.length=8)(r s:LU_)(n:Nat)(w:World)(hp:Blk w p 244 (aG h r n))(hn:n+s.length≤140737488355328)(hr:r.length+s.length≤140737488355328):Calls Tryz.prog 134 #[.pointer (some ⟨p,0,none⟩),.string (bs s)] w fun e w'=>e=.returned (.int .i64 0)∧Blk w' p 244 (aG (cL h (r++s)) (bW (r++s)) ((n+s.length:Nat):Int))∧Chg (·=p) w w':=by
 have c8:=hp.cell (du h r n hl);have c9:=hp.cell (jI h r n hl);have f8:=hp.free (k:=8) (by rw[cF _ _ _ hl];omega);have f9:=hp.free (k:=9) (by rw[cF _ _ _ hl];omega);have hlt:=hp.lt;have HP:=zH hp;have HL:=zH hl;clear hp hl;refine db Tryz.func134 rfl ?_;simp only[Tryz.ntmps134,List.size_toArray,Ea,ET,Nat.reduceAdd,Nat.reduceSub,Array.replicate_succ,Array.replicate_zero,List.push_toArray,List.append_toArray,Eu,Ed];go_wp2_with fail;obtain⟨w1,hw1⟩:=ex_ (((w.setCell ⟨p,9,none⟩ (.int .u64 (n+s.length))).setCell ⟨p,8,none⟩ (.string (bs (r++s)))).alloc (.cells #[.pointer (some ⟨p,0,none⟩)] 195));rw[←hw1];have hc0:Chg (·=p) w ((w.setCell ⟨p,9,none⟩ (.int .u64 (n+s.length))).setCell ⟨p,8,none⟩ (.string (bs (r++s)))):=(Chg.setCell (X:=(·=p)) w ⟨p,9,none⟩ _ rfl).trans (Chg.setCell _ ⟨p,8,none⟩ _ rfl);have hs0:((w.setCell ⟨p,9,none⟩ (.int .u64 (n+s.length))).setCell ⟨p,8,none⟩ (.string (bs (r++s)))).heap.size=w.heap.size:=by simp[World.setCell]
 have hc1:Chg (·=p) w w1:=by
  rw[hw1];exact hc0.trans (Chg.alloc _ _ _)
 have hs1:w1.heap.size=w.heap.size+1:=by rw[hw1];simp[World.setCell]
 have hb1:Blk w1 w.heap.size 195 [.pointer (some ⟨p,0,none⟩)]:=by
  rw[hw1];have:=Blk.new ((w.setCell ⟨p,9,none⟩ (.int .u64 (n+s.length))).setCell ⟨p,8,none⟩ (.string (bs (r++s)))) [.pointer (some ⟨p,0,none⟩)] 195;rw[hs0]at this;exact this
 have hp1:Blk w1 p 244 (aG h (r++s) ((n+s.length:Nat):Int)):=by
  rw[hw1];have h1:=HP.o.set 9 (.int .u64 (n+s.length));rw[sQ _ _ _ _ HL.o]at h1;have h2:=h1.set 8 (.string (bs (r++s)));rw[jH _ _ _ _ HL.o]at h2;exact h2.below (af _ _)
 clear hc0 hs0;obtain⟨N,hN⟩:∃ N:Int,N=((n+s.length:Nat):Int):=⟨_,rfl⟩
 rw[←hN]at hp1;have HN:=zH hN;clear hw1 hN c8 c9 f8 f9 hn;obtain⟨w0,hw0⟩:=ex_ w;subst hw0;refine(oB p w1).mono ?_;rintro e w2 ⟨b,rfl,hbs,hb2,hB2⟩;have hb1':=zH (hb1.below hB2);have hp1':=zH (hp1.below hB2);have hc2:=zH (hc1.trans (DM hB2));have hs2:=hB2.size;have hlt2:=hb2.lt;have HB2:=zH hb2;have hbp:b≠p:=by omega
 clear hb1 hp1 hc1 hb2 hB2;go_wp2_with fail
 refine oY (D:=w2.heap.size) rfl (gf:=185) (lb:=#[.pointer (some ⟨b,0,none⟩)]) rfl (enters_of Tryz.func185 (by kernel_rfl) rfl)
  (Xr:=XrP p) (Yr:=YrP p b) (Fin:=fun U=>∃ h',h'.length=8∧Blk U p 244 (aG h' (bW (r++s)) N)) (El:=ElS) (out:=cT (r++s)) (XrP.keep (by omega)) (YrP.comp (by omega) (by omega)) (fun U U' h hc=>B1 (by omega) _ _ U U' h hc)
  (fun W hW=>mF 2 p b h HL.o (r++s) N W (HB2.o.below hW) (hp1'.o.below hW) hbp (by simp;omega))
  (fun x vs U h=>by rw[h.1];rfl) (fun x vs U U' h _=>h)
  (WrI p w0.heap.size w0.heap.size (.pointer (some ⟨p,0,none⟩)) 195 h N w0) (fun _ _ _=>False) (fun pre U U' h hx=>h.x HL.o (by omega) hx) (fun pre U U' h hx=>h.d (by omega) (by omega) (by omega) hx) (fun _ _ _ _ h _=>h.elim) (fun _ _ _ _ h _=>h.elim)
  ⟨⟨_,hp1'.o⟩,hb1'.o,hc2.o.mono fun k hk=>.inl hk⟩ ?round ?done ?stop
 case round =>
  rintro l pre x vs U _ ⟨rfl,hx64⟩ hpre;gi_wp2;refine⟨Em _ _,?_⟩;rintro U2 h2 ⟨⟨rest,hB⟩,hbx,hcw⟩ _ hcU;have c0:=hbx.cell (k:=0) rfl;have HBx:=zH hbx;have HBp:=zH hB;have HCw:=zH hcw;clear hbx hB hcw hcU hpre;gi_wp2;refine⟨trivial,CallsIn.inRound _ (callsIn_wide.2 ((p7 p _ (cZ h pre HL.o) rest N x (by omega) U2 HBp.o).mono ?_))⟩;exact Ht
 case done =>
  rintro W h2 hI hF hK;have hE:=zH (hI.fin HL.o hF);have hC:=zH hI.2.2;clear hI hF;go_wp2;refine gl (D:=w2.heap.size) rfl hK (results_tmp rfl _ _ _) ⟨rfl,?_,?_⟩
  ·rw[←HN.o]
   exact hE.o.chg (Chg.putObj (X:=fun k=>k=w2.heap.size) _ _ _ rfl) (by omega)
  ·have hc:=hC.o.trans (Chg.putObj (X:=fun k=>k=p∨w0.heap.size≤k) W w2.heap.size (.deferred none) (.inr (by omega)))
   exact⟨hc.os,hc.tape,hc.output,hc.size,fun k hk hn=>hc.block k hk (by omega)⟩
 case stop=>exact fun _ _ _ _ _ h _=>h.elim
end
section
def DF (b:Nat)(w w':World):Prop:=∀ X cs t fz,X≠b→t≠5→w.heap[X]?=some (.cells cs t fz)→w'.heap[X]?=some (.cells cs t fz)
end
section
section
variable {P:Program}
theorem AH {ops:Array Oper}{rest:List Oper}{o:Oper}{a:Act}{Q:Exit→Act→World→Prop}(w:World)(news:List Value)(e:TypeId)(hgd:o.guard=none)(s x:Operand)(t:TypeId)(ho:o.op=.call { callee:=.builtin .append,args:=#[s,x],argTypes:=#[t,t] })(bZ:Nat)(z:Value)(size bytes:Nat)(ht:P.underlying t=some (.slice e))(hinfo:(P.info? e).map (fun i=>(i.zero,i.size,i.bytes))=some (some z,size,bytes))(hzs:z.cells.size=size)(hsz:0<size)(v:Value)(n:Nat)(xs:List Value)(hs:a.eval s=v)(hown:w.ownsRow bZ e size v n xs)(vx:Value)(m:Nat)(hx:a.eval x=vx)(hr:aZ w vx m news)(hl:news.length=m*size)(h1:∀ u∈news,u.oneCell'=true)(hbytes:(n+m)*bytes≤140737488355328)(hby:0<bytes)(hbase:bZ≤w.heap.size)(h:∀ v' w',w'.ownsRow bZ e size v' (n+m) (xs++news)→Below bZ w w'→(∀ k,k<w.heap.size→v.ownBlock≠some k→w'.heap[k]?=w.heap[k]?)→wpList P ops Q rest (a.put o.dst v') w'):wpList P ops Q (o::rest) a w:=by
 obtain⟨i,hi,hz,hi1,hi2⟩:=info_parts hinfo;have hn:n+m≤(n+m)*bytes:=Nat.le_mul_of_pos_right _ hby;obtain⟨ax,cap,rfl,hnone,hc⟩:=hr
 cases ax with
 | none =>
  obtain⟨rfl,rfl⟩:=hnone rfl;have hnil:news=[]:=Ej (by simpa using hl);subst hnil;refine wpList_append_own_none hgd s x t ho bZ e i size ht hi v n xs hs hown hx ?_;exact h v w (by simpa using hown) (Em _ _) (fun _ _ _=>rfl)
 | some ad =>
  refine wpList_append_own _ hgd s x t ho bZ e i z size bytes ht hi hz hi1 hi2 hzs hsz v n xs hs hown ad m cap news hx hl ?_ h1 (by unfold maxLen;omega) hbytes hbase ?_
  ·exact Ho
  ·intro v' w' h2 h3 _
   refine h v' w' h2 ((Em bZ w).grown h3 hbase ?_) (fun k hk hne=>h3.block k hk (fun e=>hne e.symm));intro k hk;exact(hown.lt k hk).1
end
theorem oQ (B b:Nat)(bs:List Value)(w:World)(h:Lib.IsBuilder 151 5 B b bs w):Calls Tryz.prog 136 #[.pointer (some ⟨b,0,none⟩)] w fun e w'=>e=.returned (.tuple #[])∧(Lib.BuilderAt 151 5 B b (.pointer (some ⟨b,0,none⟩)) bs w'∧Below B w w'∧Chg (·=b) w w'):=by
 rcases h with h|h
 ·refine(iX b w h.cell0 h.shape h.frozen0).mono ?_
  rintro e w' ⟨rfl,rfl⟩;exact⟨rfl,h.used _,(Em B w).setCell (p:=⟨b,0,none⟩) h.1 _,Chg.setCell _ _ _ rfl⟩
 ·refine(jK b w h.cell0).mono ?_
  rintro e w' ⟨rfl,rfl⟩;exact⟨rfl,h,Em B _,Chg.refl _ _⟩
theorem oD (l m:LU_):aT (l++m)=aT l++aT m:=by simp[aT]
theorem oC (m:LU_):∀ u∈aT m,u.oneCell'=true:=by
 intro u hu;simp only[aT,List.mem_map]at hu;obtain⟨x,_,rfl⟩:=hu;rfl
theorem tn {w:World}{B:Nat}{v:Value}{n:Nat}{xs:List Value}(hown:w.ownsRow B 5 1 v n xs){X:Nat}{cs:Array Value}{t:TypeId}{fz:Nat×Nat}(hx:w.heap[X]?=some (.cells cs t fz))(ht:t≠5):v.ownBlock≠some X:=fun e=>by
 rcases hown.2 with ⟨hv,_⟩|⟨g,cap,cur,hv,_,hg,_⟩
 ·rw[hv]at e;simp[Value.ownBlock]at e
 ·rw[hv]at e
  simp only[Value.ownBlock,Option.some.injEq]at e;subst e;rw[hg]at hx;injection hx with hx
  injection hx with _ hx _
  exact ht hx.symm
theorem vI (B b:Nat)(l m:LU_)(vm:Value)(w:World)(h:Bld B b l w)(hm:aZ w vm m.length (aT m))(hmb:∀ w1,Chg (·=b) w w1→aZ w1 vm m.length (aT m))(hlen:l.length+m.length≤140737488355328):Calls Tryz.prog 162 #[.pointer (some ⟨b,0,none⟩),vm] w fun e w'=>e=.returned (.tuple #[.int .i64 m.length,.nilIface])∧Bld B b (l++m) w'∧Below B w w'∧DF b w w':=by
 obtain⟨hBw,h⟩:=h;have HL:=zH hlen;have HM:=zH hm;have HB:=zH hmb;clear hlen hm hmb;obtain⟨am,cm,rfl,_,_⟩:=HM.o;go_enter Tryz.func162,Tryz.ntmps162;go_wp2_with (go_at_call 136;refine(oQ B b _ _ h).mono ?_);rintro e w1 ⟨rfl,h1,hb1,hk1⟩;obtain⟨hB,v,hbk,hown,hne⟩:=h1;rw[bo]at hown;have hm1:aZ w1 (.slice am m.length cm) m.length (aT m):=HB.o _ hk1;have c0:w1.cell? ⟨b,0,none⟩=some (.pointer (some ⟨b,0,none⟩)):=by rw[Lib.cell_of_heap hbk];rfl
 have c1:w1.cell? ⟨b,1,none⟩=some v:=by rw[Lib.cell_of_heap hbk];rfl
 go_wp2_with (at_builtin;refine AH w1 (aT m) 5 rfl _ _ 149 rfl B (.int .u8 0) 1 1 Tryz.underlying149 nZ rfl (by decide) _ _ _ rfl hown _ _ rfl hm1 (by rw[bo,Nat.mul_one]) (oC m) (by have:=HL.o;omega) (by decide) (by have:=hb1.size;omega) ?_);intro v' w2 hown' hb2 hkeep
 have hlt:b<w1.heap.size:=by
  exact Iq
 have hbk2:w2.heap[b]?=some (.cells #[.pointer (some ⟨b,0,none⟩),v] 151 (0,0)):=by
  rw[hkeep b hlt (fun e=>hne e)];exact hbk
 have d0:w2.cell? ⟨b,0,none⟩=some (.pointer (some ⟨b,0,none⟩)):=by rw[Lib.cell_of_heap hbk2];rfl
 have d1:w2.cell? ⟨b,1,none⟩=some v:=by rw[Lib.cell_of_heap hbk2];rfl
 have f1:w2.frozen? ⟨b,1,none⟩=false:=Lib.frozen_of_heap hbk2 1;obtain⟨ao,cap,rfl⟩:=ap hown';go_wp2;go_ret2;have hB12:Below B w w2:=hb1.trans hb2;refine⟨rfl,⟨?_,.inr ?_⟩,?_,?_⟩
 ·have:=hB12.size;simp[World.setCell];omega
 ·rw[oD]
  exact Lib.BuilderAt.put (T:=151) (e:=5) hB hbk2 (bs':=aT l++aT m) (by simpa[bo] using hown') (by decide)
 ·exact hB12.setCell (p:=⟨b,1,none⟩) hB _
 ·intro X cs t fz hX ht hx
  have h1:=hk1.at hx hX
  have hlt1:X<w1.heap.size:=by
   rcases Nat.lt_or_ge X w1.heap.size with h'|h'
   ·exact h'
   ·simp[Array.getElem?_eq_none h']at h1
  have h2:=hkeep X hlt1 (tn hown h1 ht);rw[heap_setCell_other _ _ _ _ (fun e=>hX (by first|exact e|exact e.symm))];exact h2.trans h1
end
section
attribute [local go_sem] Oper.semAt_some
theorem uY (h:List UInt32)(r:LU_)(n:Int):(aG h r n).toArray.all (·.oneCell')=true:=by
 rw[List.all_toArray,List.all_eq_true];intro v hv;simp only[aG,az,Ey,List.mem_map,EW,List.not_mem_nil,or_false]at hv;rcases hv with ⟨x,_,rfl⟩|rfl|rfl<;>rfl
theorem bA {P:Program}{ops:Array Oper}{rest:List Oper}{op:Oper}{a:Act}{w:World}{Q:Exit→Act→World→Prop}(b:Nat)(cs cs':List Value){t:TypeId}(h:Blk w b t cs)(hgd:op.guard=none)(ty:TypeId)(x y:Operand)(ho:op.op=.store ty x y)(hx:a.eval x=.pointer (some ⟨b,0,none⟩))(hy:a.eval y=.agg cs'.toArray)(hi:(P.info? ty).map (·.size)=some cs'.length)(hl:cs.length=cs'.length)(h1:cs'.toArray.all (·.oneCell')=true)(k:∀ w',Hid (w.setRow b cs'.toArray=w')→wpList P ops Q rest (a.put op.dst undef) w'):wpList P ops Q (op::rest) a w :=
 gp b cs cs' h hgd ty x y ho hx hy hi hl h1 (k _ rfl)
theorem Bm {p:Nat}{h:List UInt32}{r:LU_}{n:Int}{w w1:World}(hl:h.length=8)(hp:Blk w p 244 (aG h r n))(hw:(w.alloc (.cells #[.int .u32 0,.int .u32 0,.int .u32 0,.int .u32 0,.int .u32 0,.int .u32 0,.int .u32 0,.int .u32 0,.string ⟨#[]⟩,.int .u64 0] 244)).setRow w.heap.size (aG h r n).toArray=w1):Below w.heap.size w w1∧w1.heap.size=w.heap.size+1∧Blk w1 w.heap.size 244 (aG h r n)∧w1.cell? ⟨p,9,none⟩=some (.int .u64 n)∧w1.cell? ⟨w.heap.size,8,none⟩=some (.string (bs r)):=by
 have hz:Blk (w.alloc (.cells #[.int .u32 0,.int .u32 0,.int .u32 0,.int .u32 0,.int .u32 0,.int .u32 0,.int .u32 0,.int .u32 0,.string ⟨#[]⟩,.int .u64 0] 244)) w.heap.size 244 (aG (gK 8) [] 0):=Blk.new w (aG (gK 8) [] 0) _;have hB:Below w.heap.size w w1:=by rw[←hw];exact aI (af w _) (Ei _) _
 have hb:Blk w1 w.heap.size 244 (aG h r n):=by rw[←hw];exact hz.row _
 exact⟨hB,by rw[←hw,jp];simp,hb,(hp.below hB).cell (jI h r n hl),hb.cell (du h r n hl)⟩
theorem Cr (w:World)(s:ByteArray)(l:LU_)(hs:s=bs l)(hl:l.length≤maxLen):∃ g cap w',(convert 9 149 (.string s)).run Tryz.prog w=.ok (.slice (some ⟨g,0,none⟩) l.length cap) w'∧jf w' w.heap.size 5 (.slice (some ⟨g,0,none⟩) l.length cap) l∧Bw_ w w':=by
 subst hs;have:=Lib.run_convert_string_bytes (P:=Tryz.prog) w 9 149 5 (bs l) Tryz.underlying9 Tryz.underlying149 Tryz.underlying5;rw[bY]at this;exact⟨_,_,_,this,by have h:=jf.new w 5 l hl;rw[bY]at h;exact h,jL _ _ _⟩
def AV:Value→Nat
 | .slice _ n _=>n
 | _=>0
theorem yH (n:Nat):zc n≤63:=by unfold zc;omega
theorem yG (n k:Nat)(h:k<zc n):(n+1+k)%64≠56:=by unfold zc at h;omega
theorem tM (n:Nat):(n+1+zc n)%64=56:=by unfold zc;omega
def jg (r:LU_)(k:Nat):LU_:=r++[0x80]++List.replicate k 0
theorem fD (r:LU_)(k:Nat):(jg r k).length=r.length+1+k:=by simp[jg];omega
theorem oX (r:LU_)(k:Nat):jg r k++[0]=jg r (k+1):=by simp[jg,List.replicate_succ']
theorem qX (r:LU_):bs r++⟨#[128]⟩=bs (jg r 0):=by
 have e:(⟨#[128]⟩:ByteArray)=bs [128]:=rfl;rw[e,jZ];simp[jg]
theorem tw (n j:Nat)(hj:j<8):(be8 n).take (j+1)=(be8 n).take j++[(be8 n).getD j 0]:=by
 have hl:(be8 n).length=8:=rfl;rw[Ef (by omega),List.getD_eq_getElem?_getD,List.getElem?_eq_getElem (by omega),Option.getD_some]
def ls (n:Nat):Nat→Nat
 | 0=>n / 72057594037927936%256
 | 1=>n / 281474976710656%256
 | 2=>n / 1099511627776%256
 | 3=>n / 4294967296%256
 | 4=>n / 16777216%256
 | 5=>n / 65536%256
 | 6=>n / 256%256
 | _=>n%256
theorem wo (n j:Nat)(z:Int)(hj:j<8)(hz:z=(ls (8*n) j:Nat)):Value.int .u8 z=.int .u8 (((be8 (8*n)).getD j 0).toNat:Int):=by
 rw[hz]
 match j,hj with
 | 0,_|1,_|2,_|3,_|4,_|5,_|6,_|7,_=>exact jj (congrArg Int.ofNat (UInt8.toNat_ofNat' ..).symm)
theorem Cw {B b:Nat}{l:LU_}{w:World}(h:Bld B b l w):b<w.heap.size:=h.2.elim (fun h=>h.lt) (fun h=>h.lt)
theorem sr (V:List UInt32)(h:V.length=8):jd (V.take 8)=jd V:=by rw[Eh (by omega)]
theorem Hn {T:Prop} (h:T:=by
 have:=oT x;simp only[aT,wb,List.map_cons,List.map_nil,dw];congr 1;refine congr (congrArg _ (jj ?_)) (congr (congrArg _ (jj ?_)) (congr (congrArg _ (jj ?_)) (congrArg (fun v=>[v]) (jj ?_))))
 all_goals
  rw[UInt8.toNat_ofNat'];omega
):T:=h
theorem Cd (w:World)(x:UInt32):Blk (w.alloc (.cells #[.int .u8 (U x / 16777216),.int .u8 (U x / 65536%256),.int .u8 (U x / 256%256),.int .u8 (U x%256)] 5)) w.heap.size 5 (aT (wb x)):=by
 have e:(#[.int .u8 (U x / 16777216),.int .u8 (U x / 65536%256),.int .u8 (U x / 256%256),.int .u8 (U x%256)]:Array Value)=(aT (wb x)).toArray:=by
  exact Hn
 rw[e];exact Blk.new w _ _
theorem pu {w:World}{g:Nat}{e:TypeId}{m:LU_}(h:Blk w g e (aT m))(c:Nat):aZ w (.slice (some ⟨g,0,none⟩) m.length c) m.length (aT m) :=
 ⟨_,_,rfl,(by simp),fun j u hj=>⟨g,0,rfl,by rw[Ek];exact h.cell hj⟩⟩
theorem AP (p:Nat)(h:List UInt32)(hl:h.length=8)(r:LU_)(n:Nat)(w:World)(hp:Blk w p 244 (aG h r n))(hn:n≤140737488355328)(hr:r.length≤64):Calls Tryz.prog 135 #[.pointer (some ⟨p,0,none⟩)] w fun e w'=>e=.returned (.string (bs (jd (cL h (dO r n)))))∧Bw_ w w':=by
 have c9:=hp.cell (jI h r n hl);have hlt:=hp.lt;have HP:=zH hp;have HL:=zH hl;have HI:=zH (show(Tryz.prog.info? 244).map (·.size)=some (aG h r n).length by rw[cF _ _ _ hl];kernel_rfl);clear hp hl;refine db Tryz.func135 rfl ?_;simp only[Tryz.ntmps135,List.size_toArray,Ea,ET,Nat.reduceAdd,Nat.reduceSub,Array.replicate_succ,Array.replicate_zero,List.push_toArray,List.append_toArray,Eu,Ed];have hz:Blk (w.alloc (.cells #[.int .u32 0,.int .u32 0,.int .u32 0,.int .u32 0,.int .u32 0,.int .u32 0,.int .u32 0,.int .u32 0,.string ⟨#[]⟩,.int .u64 0] 244)) w.heap.size 244 (aG (gK 8) [] 0):=Blk.new w (aG (gK 8) [] 0) _;have HZ:=zH hz;clear hz;have HLL:=zH (show(aG (gK 8) [] 0).length=(aG h r n).length by rw[cF _ _ _ HL.o];rfl);go_wp2_with first|(refine lr p (aG h r n) HP.o _ rfl _ _ rfl rfl Tryz.underlying244 rfl HI.o ?_)|(refine bA w.heap.size (aG (gK 8) [] 0) (aG h r n) HZ.o rfl _ _ _ rfl rfl rfl HI.o HLL.o (uY _ _ _) ?_)
 intro w1 hw1;obtain⟨hB1,hs1,hb1,c19,c18⟩:=Bm HL.o HP.o hw1.o;have HB1:=zH hB1;have HC1:=zH hb1;have HS1:=zH hs1;have hs1':w.heap.size<w1.heap.size:=by omega
 clear hs1;clear hw1 hB1 hb1 HZ HLL c9;go_wp2;obtain⟨g2,cap2,w2,hcv,hO2,hB2⟩:=Cr w1 _ _ (qX r) (by rw[fD];unfold maxLen;omega);rw[fD]at hcv hO2;have HO2:=zH hO2;have HB2:=zH hB2;have hs2:=hB2.size;rw[hcv];clear hcv hO2 hB2 c18 c19;go_wp2
 go_loopw [5] (fun v wx=>∃ (k g cap:Nat),k≤zc r.length∧v=.slice (some ⟨g,0,none⟩) (r.length+1+k) cap∧Hid (jf wx w1.heap.size 5 (.slice (some ⟨g,0,none⟩) (r.length+1+k) cap) (jg r k))∧Hid (Below w1.heap.size w1 wx)) (fun v _=>200-AV v)
 case atStart=>exact⟨0,g2,cap2,EG _,rfl,HO2,HB2⟩
 case round =>
  obtain⟨k,g,cap,hk,rfl,HO,HB⟩:=hrel;have hz:=yH r.length;have hsz:=HB.o.size
  by_cases hkz:k<zc r.length
  ·have m1:((r.length:Int)+1+(k:Int))%64≠56:=by have:=yG r.length k hkz;omega
   have m2:(((r.length:Int)+1+(k:Int))%64 != 56)=true:=by simpa using m1
   have HZ:=zH hz;have HK:=zH hkz;clear hz hkz hk;go_wp2_with (at_builtin;go_loud (refine tC wr 0 5 rfl _ _ 149 rfl w1.heap.size Tryz.underlying149 nZ (.slice (some ⟨g,0,none⟩) (r.length+1+k) cap) (jg r k) _ (fD r k) _ (by rfl) HO.o rfl _ rfl (by have:=HZ.o;have:=HK.o;omega) (by omega) ?_));intro g3 cap3 w3 hO3 hB3;rw[oX]at hO3;go_wp2;go_roundw
   case rel=>exact⟨k+1,g3,cap3,HK.o,rfl,hO3,HB.o.trans hB3⟩
   case measure=>simp[AV];have:=HZ.o;have:=HK.o;omega
  ·obtain rfl:k=zc r.length:=by omega
   have m1:(r.length+1+zc r.length:Int)%64=56:=by have:=tM r.length;omega
   have HZ:=zH hz;obtain⟨M,hM⟩:=ex_ (r.length+1+zc r.length);have hMi:(M:Int)%64=56:=by rw[hM];push_cast;exact m1
   rw[←hM]at HO⊢;have HM:=zH hM;have HZP:=zH (show(jg r (zc r.length)).length=M by rw[fD,hM]);have hM2:M≤200:=by omega
   obtain⟨Z,hZ⟩:=ex_ (jg r (zc r.length));rw[←hZ]at HO HZP;have HZD:=zH hZ;clear hk hkz m1 hM hz hZ HB2 HO2 hMi;have hMi:(M:Int)%64=56:=by have:=HM.o;have:=tM r.length;omega
   go_wp2;clear hMi
   go_loopw [5,6] (fun v i wx=>∃ (j g cap:Nat),j≤8∧i=.int .i64 (56-8*(j:Int))∧v=.slice (some ⟨g,0,none⟩) (M+j) cap∧Hid (jf wx w1.heap.size 5 (.slice (some ⟨g,0,none⟩) (M+j) cap) (Z++(be8 (8*n)).take j))∧Hid (Below w1.heap.size w1 wx)) (fun v _ _=>300-AV v)
   case atStart=>exact⟨0,g,cap,by omega,rfl,rfl,by simpa using HO,HB⟩
   case round =>
    clear HO HB;obtain⟨j,g,cap,hj,rfl,rfl,HO,HB⟩:=hrel;have hsz:=HB.o.size;have HL2:=zH (show(Z++(be8 (8*n)).take j).length=M+j by rw[Ev,HZP.o,EJ];simp[be8];omega)
    by_cases hj8:j<8
    ·have HBE:=zH (tw (8*n) j hj8)
     have HJ:=zH hj8;clear hj8 hj;have hj:=HJ.o;obtain⟨jn,hjn⟩:=ex_ (j+1);have HJN:=zH hjn;clear hjn;rcases(by omega:j=0∨j=1∨j=2∨j=3∨j=4∨j=5∨j=6∨j=7) with rfl|rfl|rfl|rfl|rfl|rfl|rfl|rfl
     all_goals
      clear hj;go_wp2_with (at_builtin;go_must (refine tC wr _ 5 rfl _ _ 149 rfl w1.heap.size Tryz.underlying149 nZ _ _ _ HL2.o _ (wo n _ _ HJ.o (by simp only[ls];omega)) HO.o rfl _ rfl (by omega) hsz ?_));intro g3 cap3 w3 hO3 hB3;have HO3:=zH hO3;clear hO3;go_wp2;have hjn:=HJN.o;refine⟨⟨jn,g3,cap3,by omega,?_,?_,?_,HB.o.trans hB3⟩,by simp[AV];omega⟩
      all_goals (subst hjn;first|rfl|exact HO3)
    ·obtain rfl:j=8:=by omega
     have hpt:Z++(be8 (8*n)).take 8=dO r n:=by rw[HZD.o];rfl
     rw[hpt]at HO;have hcv:=yt 149 9 5 Tryz.underlying149 Tryz.underlying5 Tryz.underlying9 wr _ _ _ HO.o;have HPM:=zH (ms r n);have HPL:=zH (show(dO r n).length≤300 by rw[←hpt];have:=HL2.o;omega);obtain⟨T,hT⟩:=ex_ (dO r n);rw[←hT]at hcv HPM HPL;have HT:=zH hT;have HC2:=zH (HC1.o.below HB.o);have HBB:=zH (HB1.o.trans (HB.o.mono (by omega)));have c8:=HC2.o.cell (du h r n HL.o);have f8:=HC2.o.free (k:=8) (by rw[cF _ _ _ HL.o];omega);clear hT hpt HO HL2 hj hj8 HB;go_wp2_with fail;obtain⟨C,hC⟩:=ex_ w.heap.size;rw[←hC]at HC2 c8 f8⊢;obtain⟨w4,hw4⟩:=ex_ (wr.setCell ⟨C,8,none⟩ (.string (bs T)));rw[←hw4];have hB4:Below w.heap.size w w4:=by rw[hw4];exact HBB.o.setCell (p:=⟨C,8,none⟩) (by show w.heap.size≤C;omega) _
     have hp4:Blk w4 C 244 (aG h T n):=by
      rw[hw4];have:=HC2.o.set 8 (.string (bs T));rw[jH _ _ _ _ HL.o]at this;exact this
     have HP4:=zH hp4;have HB4:=zH hB4;have hlt4:=hp4.lt;have HCE:=zH hC;clear hw4 hB4 hp4 hcv c8 f8 HC2 HBB hC;refine(oB C w4).mono ?_;rintro e w5 ⟨b,rfl,hbs,hb5,hB5⟩;have HP5:=zH (HP4.o.below hB5);have HB5:=zH (HB4.o.trans (hB5.mono HB4.o.size));have hs5:=hB5.size;have hlt5:=hb5.lt;have HX5:=zH hb5;have hbp:b≠C:=by omega
     obtain⟨N,hN⟩:∃ N:Int,N=(n:Int):=⟨_,rfl⟩
     rw[←hN]at HP5;have HN:=zH hN;clear hb5 hB5 hN HP4;go_wp2_with fail
     refine oY (D:=w5.heap.size) rfl (gf:=185) (lb:=#[.pointer (some ⟨b,0,none⟩)]) rfl (enters_of Tryz.func185 (by kernel_rfl) rfl)
      (Xr:=XrP C) (Yr:=YrP C b) (Fin:=fun U=>∃ h',h'.length=8∧Blk U C 244 (aG h' (bW T) N)) (El:=ElS) (out:=cT T) (XrP.keep (by omega)) (YrP.comp (by omega) (by omega)) (fun U U' h hc=>B1 (by omega) _ _ U U' h hc)
      (fun W hW=>mF 2 C b h HL.o T N W (HX5.o.below hW) (HP5.o.below hW) hbp (by have:=HPL.o;omega))
      (fun x vs U h=>by rw[h.1];rfl) (fun x vs U U' h _=>h)
      (WrI C C b (.pointer (some ⟨C,0,none⟩)) 195 h N w) (fun _ _ _=>False) (fun pre U U' h hx=>h.x HL.o (by omega) hx) (fun pre U U' h hx=>h.d (by omega) (by omega) (by omega) hx) (fun _ _ _ _ h _=>h.elim) (fun _ _ _ _ h _=>h.elim)
      ⟨⟨_,HP5.o⟩,HX5.o,DZ HB5.o fun k hk=>.inr (by have:=HCE.o;omega)⟩ ?round ?done ?stop
     case round =>
      rintro l pre x vs U _ ⟨rfl,hx64⟩ hpre;gi_wp2;refine⟨Em _ _,?_⟩;rintro U2 h2 ⟨⟨rest,hB⟩,hbx,hcw⟩ _ hcU;have HBx:=zH hbx;have HBp:=zH hB;have HCw:=zH hcw;clear hbx hB hcw hcU hpre;gi_wp2;refine⟨trivial,CallsIn.inRound _ (callsIn_wide.2 ((p7 C _ (cZ h pre HL.o) rest N x (by omega) U2 HBp.o).mono ?_))⟩;exact Ht
     case done =>
      rintro W h2 hI hF hK;have hE:=hI.fin HL.o hF;have hC:=zH hI.2.2;have hV:=fC h T HL.o;have hltC:=hE.lt;obtain⟨V,hVV⟩:=ex_ (cL h T);rw[←hVV]at hE hV;have HV:=zH hVV;have HVL:=zH hV;have HE:=zH hE;have HR:=zH (show World.rangeAt W C 0 (az V) from fun j v hv=>by rw[Ek];exact hE.cell (by rw[aG,List.getElem?_append_left (by exact(List.getElem?_eq_some_iff.1 hv).1)];exact hv));have HIV:=zH (show(Tryz.prog.info? 242).map (·.size)=some (az V).length by rw[aE,hV];kernel_rfl);clear hI hF hE hV hVV;go_wp2_with (refine wpList_load_mid rfl 242 _ rfl C 0 rfl (az V) (.array 8 241) (World.rangeAt_alloc HR.o _) (by kernel_rfl) rfl HIV.o ?_);obtain⟨W1,hW1⟩:=ex_ (W.alloc (.cells #[.pointer none,.slice none 0 0] 151));have hBld:Bld W.heap.size W.heap.size [] W1:=by rw[hW1];exact Bld.fresh W
      have hBW:=ba_ hW1;rw[←hW1];have HBld:=zH hBld;have HBW:=zH hBW;clear hW1 hBld hBW HR HE
      go_loopw [52] (fun t ux=>∃ k:Nat,k≤8∧t=.int .i64 k∧Hid (Bld W.heap.size W.heap.size (jd (V.take k)) ux)∧Hid (Below W.heap.size W ux)) (fun t _=>8-(intOf t).toNat)
      case atStart=>exact⟨0,by omega,rfl,HBld,HBW⟩
      case round =>
       clear HBld HBW;obtain⟨k,hk,rfl,HBl,HBx⟩:=hrel
       by_cases hk8:k<8
       ·have k1:(k:Int)<8:=by omega
        have k0:=nn_ k;have hix:=Ak V HVL.o k hk8;have HOT:=zH (pE V k (by rw[HVL.o];exact hk8));have HLen:=zH (show(jd (V.take k)).length≤40 by rw[mw,EJ];omega);generalize V.getD k 0=x at *;have hx1:U x<4294967296:=by have:=oT x;rw[dw];omega
        have hx0:0≤U x:=by rw[dw];omega
        go_wp2_with fail;have hm:=Cd wr x;have hsz4:=HBx.o.size;refine(vI W.heap.size W.heap.size (jd (V.take k)) (wb x) (.slice (some ⟨wr.heap.size,0,none⟩) 4 4) _ (HBl.o.below (af _ _)) (pu hm 4) (fun w1 hc=>pu (hm.chg hc (by have:=Cw HBl.o;omega)) 4) (by have:=HLen.o;show _+4≤_;omega)).mono ?_;rintro e w7 ⟨rfl,hBl7,hB7,_⟩;rw[←HOT.o]at hBl7;have HB7:=zH hBl7;have HBx7:=zH (HBx.o.trans ((af wr _).mono hsz4 |>.trans hB7));clear hm hB7 hBl7;go_wp2_with fail;exact⟨⟨k+1,by omega,by go_num,HB7.o,HBx7.o⟩,by simp[intOf];omega⟩
       ·obtain rfl:k=8:=by omega
        have hout:=sr V HVL.o;have HO8:=zH hout;clear hout;go_wp2_with fail;refine(mI W.heap.size W.heap.size _ wr HBl.o).mono ?_;rintro e w7 ⟨rfl,hB7⟩;have HB7:=zH (HBx.o.trans hB7);clear hB7;go_wp2_with fail;have hD:w7.heap[w5.heap.size]?=some (.deferred (some [])):=(HB7.o.block w5.heap.size (by omega)).trans hK;refine gl (D:=w5.heap.size) rfl hD (results_tmp rfl _ _ _) ⟨?_,?_⟩
        ·show Ending.returned (.string (bs (jd (V.take 8))))=_
         rw[HO8.o,HV.o,HT.o]
        ·have h1:=hC.o.trans ((DZ HB7.o (X:=fun k=>k=C∨C≤k) fun k hk=>.inr (by omega)).trans (Chg.putObj (X:=fun k=>k=C∨C≤k) w7 w5.heap.size (.deferred none) (.inr (by omega))))
         exact⟨h1.os,h1.tape,h1.output,h1.size,fun k hk=>h1.block k hk (by have:=HCE.o;omega)⟩
     case stop=>exact fun _ _ _ _ _ h _=>h.elim
end
