/- Lemmas for MapperTells: walks, plain laws. -/
import Derived.Test.YtckhfapcmjlmbaaGreatDoorMapperTellsK22
set_option linter.unusedSimpArgs false
set_option linter.unusedVariables false
set_option maxRecDepth 100000
set_option maxHeartbeats 16000000
namespace Go.Proofs.YtckhfapcmjlmbaaGreatDoor
open Go.RowKit Oct
section
attribute [local go_sem] Oper.semAt_some
theorem uk (h:List UInt32)(r:LU_)(n:Int):(aG h r n).toArray.all (·.oneCell')=true:=by
 rw[List.all_toArray,List.all_eq_true];intro v hv;simp only[aG,au,DM,List.mem_map,List.mem_cons,List.not_mem_nil,or_false]at hv;rcases hv with ⟨x,_,rfl⟩|rfl|rfl<;>rfl
theorem nS {P:Program}{ops:Array Oper}{rest:List Oper}{op:Oper}{a:Act}{w:World}{Q:Exit→Act→World→Prop}(b:Nat)(cs cs':List Value){t:TypeId}(h:Blk w b t cs)(hgd:op.guard=none)(ty:TypeId)(x y:Operand)(ho:op.op=.store ty x y)(hx:a.eval x=.pointer (some ⟨b,0,none⟩))(hy:a.eval y=.agg cs'.toArray)(hi:(P.info? ty).map (·.size)=some cs'.length)(hl:cs.length=cs'.length)(h1:cs'.toArray.all (·.oneCell')=true)(k:∀ w',Hid (w.setRow b cs'.toArray=w')→wpList P ops Q rest (a.put op.dst undef) w'):wpList P ops Q (op::rest) a w :=
 fG b cs cs' h hgd ty x y ho hx hy hi hl h1 (k _ rfl)
theorem Ay {p:Nat}{h:List UInt32}{r:LU_}{n:Int}{w w1:World}(hl:h.length=8)(hp:Blk w p 209 (aG h r n))(hw:(w.alloc (.cells #[.int .u32 0,.int .u32 0,.int .u32 0,.int .u32 0,.int .u32 0,.int .u32 0,.int .u32 0,.int .u32 0,.string ⟨#[]⟩,.int .u64 0] 209)).setRow w.heap.size (aG h r n).toArray=w1):Below w.heap.size w w1∧w1.heap.size=w.heap.size+1∧Blk w1 w.heap.size 209 (aG h r n)∧w1.cell? ⟨p,9,none⟩=some (.int .u64 n)∧w1.cell? ⟨w.heap.size,8,none⟩=some (.string (bs r)):=by
 have hz:Blk (w.alloc (.cells #[.int .u32 0,.int .u32 0,.int .u32 0,.int .u32 0,.int .u32 0,.int .u32 0,.int .u32 0,.int .u32 0,.string ⟨#[]⟩,.int .u64 0] 209)) w.heap.size 209 (aG (fZ 8) [] 0):=Blk.new w (aG (fZ 8) [] 0) _;have hB:Below w.heap.size w w1:=by rw[←hw];exact cF (af w _) (DC _) _
 have hb:Blk w1 w.heap.size 209 (aG h r n):=by rw[←hw];exact hz.row _
 exact⟨hB,by rw[←hw,iL];simp,hb,(hp.below hB).cell (iW h r n hl),hb.cell (cW h r n hl)⟩
theorem BG (w:World)(s:ByteArray)(l:LU_)(hs:s=bs l)(hl:l.length≤maxLen):∃ g cap w',(convert 9 132 (.string s)).run Tryz.prog w=.ok (.slice (some ⟨g,0,none⟩) l.length cap) w'∧iF w' w.heap.size 5 (.slice (some ⟨g,0,none⟩) l.length cap) l∧Bw_ w w':=by
 subst hs;have:=Lib.run_convert_string_bytes (P:=Tryz.prog) w 9 132 5 (bs l) Tryz.underlying9 Tryz.underlying132 Tryz.underlying5;rw[bA]at this;exact⟨_,_,_,this,by have h:=iF.new w 5 l hl;rw[bA]at h;exact h,ja _ _ _⟩
def zY:Value→Nat
 | .slice _ n _=>n
 | _=>0
theorem xP (n:Nat):zc n≤63:=by unfold zc;omega
theorem xO (n k:Nat)(h:k<zc n):(n+1+k)%64≠56:=by unfold zc at h;omega
theorem sT (n:Nat):(n+1+zc n)%64=56:=by unfold zc;omega
def iG (r:LU_)(k:Nat):LU_:=r++[0x80]++List.replicate k 0
theorem eW (r:LU_)(k:Nat):(iG r k).length=r.length+1+k:=by simp[iG];omega
theorem oD (r:LU_)(k:Nat):iG r k++[0]=iG r (k+1):=by simp[iG,List.replicate_succ']
theorem qv (r:LU_):bs r++⟨#[128]⟩=bs (iG r 0):=by
 have e:(⟨#[128]⟩:ByteArray)=bs [128]:=rfl;rw[e,fF];simp[iG]
theorem sF (n j:Nat)(hj:j<8):(be8 n).take (j+1)=(be8 n).take j++[(be8 n).getD j 0]:=by
 have hl:(be8 n).length=8:=rfl;rw[Dz (by omega),List.getD_eq_getElem?_getD,List.getElem?_eq_getElem (by omega),Option.getD_some]
def kP (n:Nat):Nat→Nat
 | 0=>n / 72057594037927936%256
 | 1=>n / 281474976710656%256
 | 2=>n / 1099511627776%256
 | 3=>n / 4294967296%256
 | 4=>n / 16777216%256
 | 5=>n / 65536%256
 | 6=>n / 256%256
 | _=>n%256
theorem u7 (n j:Nat)(z:Int)(hj:j<8)(hz:z=(kP (8*n) j:Nat)):Value.int .u8 z=.int .u8 (((be8 (8*n)).getD j 0).toNat:Int):=by
 rw[hz]
 match j,hj with
 | 0,_|1,_|2,_|3,_|4,_|5,_|6,_|7,_=>exact gI (congrArg Int.ofNat (UInt8.toNat_ofNat' ..).symm)
theorem BL {B b:Nat}{l:LU_}{w:World}(h:Bld B b l w):b<w.heap.size:=h.2.elim (fun h=>h.lt) (fun h=>h.lt)
theorem rJ (V:List UInt32)(h:V.length=8):iC (V.take 8)=iC V:=by rw[DB (by omega)]
theorem Gr {T:Prop} (h:T:=by
 have:=oB x;simp only[aM,wb,List.map_cons,List.map_nil,cX];congr 1;refine congr (congrArg _ (gI ?_)) (congr (congrArg _ (gI ?_)) (congr (congrArg _ (gI ?_)) (congrArg (fun v=>[v]) (gI ?_))))
 all_goals
  rw[UInt8.toNat_ofNat'];omega
):T:=h
theorem Bo (w:World)(x:UInt32):Blk (w.alloc (.cells #[.int .u8 (U x / 16777216),.int .u8 (U x / 65536%256),.int .u8 (U x / 256%256),.int .u8 (U x%256)] 5)) w.heap.size 5 (aM (wb x)):=by
 have e:(#[.int .u8 (U x / 16777216),.int .u8 (U x / 65536%256),.int .u8 (U x / 256%256),.int .u8 (U x%256)]:Array Value)=(aM (wb x)).toArray:=by
  exact Gr
 rw[e];exact Blk.new w _ _
theorem oW {w:World}{g:Nat}{e:TypeId}{m:LU_}(h:Blk w g e (aM m))(c:Nat):aJ w (.slice (some ⟨g,0,none⟩) m.length c) m.length (aM m) :=
 ⟨_,_,rfl,(by simp),fun j u hj=>⟨g,0,rfl,by rw[DE];exact h.cell hj⟩⟩
theorem zS (p:Nat)(h:List UInt32)(hl:h.length=8)(r:LU_)(n:Nat)(w:World)(hp:Blk w p 209 (aG h r n))(hn:n≤140737488355328)(hr:r.length≤64):Calls Tryz.prog 88 #[.pointer (some ⟨p,0,none⟩)] w fun e w'=>e=.returned (.string (bs (iC (b7 h (dw r n)))))∧Bw_ w w':=by
 have c9:=hp.cell (iW h r n hl);have hlt:=hp.lt;have HP:=zH hp;have HL:=zH hl;have HI:=zH (show(Tryz.prog.info? 209).map (·.size)=some (aG h r n).length by rw[bX _ _ _ hl];kernel_rfl);clear hp hl;refine cE Tryz.func88 rfl ?_;simp only[Tryz.ntmps88,List.size_toArray,Du,Eb,Nat.reduceAdd,Nat.reduceSub,Array.replicate_succ,Array.replicate_zero,List.push_toArray,List.append_toArray,D5,Dx];have hz:Blk (w.alloc (.cells #[.int .u32 0,.int .u32 0,.int .u32 0,.int .u32 0,.int .u32 0,.int .u32 0,.int .u32 0,.int .u32 0,.string ⟨#[]⟩,.int .u64 0] 209)) w.heap.size 209 (aG (fZ 8) [] 0):=Blk.new w (aG (fZ 8) [] 0) _;have HZ:=zH hz;clear hz;have HLL:=zH (show(aG (fZ 8) [] 0).length=(aG h r n).length by rw[bX _ _ _ HL.o];rfl);go_wp2_with first|(refine kO p (aG h r n) HP.o _ rfl _ _ rfl rfl Tryz.underlying209 rfl HI.o ?_)|(refine nS w.heap.size (aG (fZ 8) [] 0) (aG h r n) HZ.o rfl _ _ _ rfl rfl rfl HI.o HLL.o (uk _ _ _) ?_)
 intro w1 hw1;obtain⟨hB1,hs1,hb1,c19,c18⟩:=Ay HL.o HP.o hw1.o;have HB1:=zH hB1;have HC1:=zH hb1;have HS1:=zH hs1;have hs1':w.heap.size<w1.heap.size:=by omega
 clear hs1;clear hw1 hB1 hb1 HZ HLL c9;go_wp2;obtain⟨g2,cap2,w2,hcv,hO2,hB2⟩:=BG w1 _ _ (qv r) (by rw[eW];unfold maxLen;omega);rw[eW]at hcv hO2;have HO2:=zH hO2;have HB2:=zH hB2;have hs2:=hB2.size;rw[hcv];clear hcv hO2 hB2 c18 c19;go_wp2
 go_loopw [5] (fun v wx=>∃ (k g cap:Nat),k≤zc r.length∧v=.slice (some ⟨g,0,none⟩) (r.length+1+k) cap∧Hid (iF wx w1.heap.size 5 (.slice (some ⟨g,0,none⟩) (r.length+1+k) cap) (iG r k))∧Hid (Below w1.heap.size w1 wx)) (fun v _=>200-zY v)
 case atStart=>exact⟨0,g2,cap2,D6 _,rfl,HO2,HB2⟩
 case round =>
  obtain⟨k,g,cap,hk,rfl,HO,HB⟩:=hrel;have hz:=xP r.length;have hsz:=HB.o.size
  by_cases hkz:k<zc r.length
  ·have m1:((r.length:Int)+1+(k:Int))%64≠56:=by have:=xO r.length k hkz;omega
   have m2:(((r.length:Int)+1+(k:Int))%64 != 56)=true:=by simpa using m1
   have HZ:=zH hz;have HK:=zH hkz;clear hz hkz hk;go_wp2_with (at_builtin;go_loud (refine sI wr 0 5 rfl _ _ 132 rfl w1.heap.size Tryz.underlying132 lj (.slice (some ⟨g,0,none⟩) (r.length+1+k) cap) (iG r k) _ (eW r k) _ (by rfl) HO.o rfl _ rfl (by have:=HZ.o;have:=HK.o;omega) (by omega) ?_));intro g3 cap3 w3 hO3 hB3;rw[oD]at hO3;go_wp2;go_roundw
   case rel=>exact⟨k+1,g3,cap3,HK.o,rfl,hO3,HB.o.trans hB3⟩
   case measure=>simp[zY];have:=HZ.o;have:=HK.o;omega
  ·obtain rfl:k=zc r.length:=by omega
   have m1:(r.length+1+zc r.length:Int)%64=56:=by have:=sT r.length;omega
   have HZ:=zH hz;obtain⟨M,hM⟩:=ex_ (r.length+1+zc r.length);have hMi:(M:Int)%64=56:=by rw[hM];push_cast;exact m1
   rw[←hM]at HO⊢;have HM:=zH hM;have HZP:=zH (show(iG r (zc r.length)).length=M by rw[eW,hM]);have hM2:M≤200:=by omega
   obtain⟨Z,hZ⟩:=ex_ (iG r (zc r.length));rw[←hZ]at HO HZP;have HZD:=zH hZ;clear hk hkz m1 hM hz hZ HB2 HO2 hMi;have hMi:(M:Int)%64=56:=by have:=HM.o;have:=sT r.length;omega
   go_wp2;clear hMi
   go_loopw [5,6] (fun v i wx=>∃ (j g cap:Nat),j≤8∧i=.int .i64 (56-8*(j:Int))∧v=.slice (some ⟨g,0,none⟩) (M+j) cap∧Hid (iF wx w1.heap.size 5 (.slice (some ⟨g,0,none⟩) (M+j) cap) (Z++(be8 (8*n)).take j))∧Hid (Below w1.heap.size w1 wx)) (fun v _ _=>300-zY v)
   case atStart=>exact⟨0,g,cap,by omega,rfl,rfl,by simpa using HO,HB⟩
   case round =>
    clear HO HB;obtain⟨j,g,cap,hj,rfl,rfl,HO,HB⟩:=hrel;have hsz:=HB.o.size;have HL2:=zH (show(Z++(be8 (8*n)).take j).length=M+j by rw[DL,HZP.o,DU];simp[be8];omega)
    by_cases hj8:j<8
    ·have HBE:=zH (sF (8*n) j hj8)
     have HJ:=zH hj8;clear hj8 hj;have hj:=HJ.o;obtain⟨jn,hjn⟩:=ex_ (j+1);have HJN:=zH hjn;clear hjn;rcases(by omega:j=0∨j=1∨j=2∨j=3∨j=4∨j=5∨j=6∨j=7) with rfl|rfl|rfl|rfl|rfl|rfl|rfl|rfl
     all_goals
      clear hj;go_wp2_with (at_builtin;go_must (refine sI wr _ 5 rfl _ _ 132 rfl w1.heap.size Tryz.underlying132 lj _ _ _ HL2.o _ (u7 n _ _ HJ.o (by simp only[kP];omega)) HO.o rfl _ rfl (by omega) hsz ?_));intro g3 cap3 w3 hO3 hB3;have HO3:=zH hO3;clear hO3;go_wp2;have hjn:=HJN.o;refine⟨⟨jn,g3,cap3,by omega,?_,?_,?_,HB.o.trans hB3⟩,by simp[zY];omega⟩
      all_goals (subst hjn;first|rfl|exact HO3)
    ·obtain rfl:j=8:=by omega
     have hpt:Z++(be8 (8*n)).take 8=dw r n:=by rw[HZD.o];rfl
     rw[hpt]at HO;have hcv:=xz 132 9 5 Tryz.underlying132 Tryz.underlying5 Tryz.underlying9 wr _ _ _ HO.o;have HPM:=zH (lL r n);have HPL:=zH (show(dw r n).length≤300 by rw[←hpt];have:=HL2.o;omega);obtain⟨T,hT⟩:=ex_ (dw r n);rw[←hT]at hcv HPM HPL;have HT:=zH hT;have HC2:=zH (HC1.o.below HB.o);have HBB:=zH (HB1.o.trans (HB.o.mono (by omega)));have c8:=HC2.o.cell (cW h r n HL.o);have f8:=HC2.o.free (k:=8) (by rw[bX _ _ _ HL.o];omega);clear hT hpt HO HL2 hj hj8 HB;go_wp2_with fail;obtain⟨C,hC⟩:=ex_ w.heap.size;rw[←hC]at HC2 c8 f8⊢;obtain⟨w4,hw4⟩:=ex_ (wr.setCell ⟨C,8,none⟩ (.string (bs T)));rw[←hw4];have hB4:Below w.heap.size w w4:=by rw[hw4];exact HBB.o.setCell (p:=⟨C,8,none⟩) (by show w.heap.size≤C;omega) _
     have hp4:Blk w4 C 209 (aG h T n):=by
      rw[hw4];have:=HC2.o.set 8 (.string (bs T));rw[iV _ _ _ _ HL.o]at this;exact this
     have HP4:=zH hp4;have HB4:=zH hB4;have hlt4:=hp4.lt;have HCE:=zH hC;clear hw4 hB4 hp4 hcv c8 f8 HC2 HBB hC;refine(nR C w4).mono ?_;rintro e w5 ⟨b,rfl,hbs,hb5,hB5⟩;have HP5:=zH (HP4.o.below hB5);have HB5:=zH (HB4.o.trans (hB5.mono HB4.o.size));have hs5:=hB5.size;have hlt5:=hb5.lt;have HX5:=zH hb5;have hbp:b≠C:=by omega
     obtain⟨N,hN⟩:∃ N:Int,N=(n:Int):=⟨_,rfl⟩
     rw[←hN]at HP5;have HN:=zH hN;clear hb5 hB5 hN HP4;go_wp2_with fail
     refine oE (D:=w5.heap.size) rfl (gf:=176) (lb:=#[.pointer (some ⟨b,0,none⟩)]) rfl (enters_of Tryz.func176 (by kernel_rfl) rfl)
      (Xr:=XrP C) (Yr:=YrP C b) (Fin:=fun U=>∃ h',h'.length=8∧Blk U C 209 (aG h' (bR T) N)) (El:=ElS) (out:=cj T) (XrP.keep (by omega)) (YrP.comp (by omega) (by omega)) (fun U U' h hc=>Bh (by omega) _ _ U U' h hc)
      (fun W hW=>lU 2 C b h HL.o T N W (HX5.o.below hW) (HP5.o.below hW) hbp (by have:=HPL.o;omega))
      (fun x vs U h=>by rw[h.1];rfl) (fun x vs U U' h _=>h)
      (WrI C C b (.pointer (some ⟨C,0,none⟩)) 145 h N w) (fun _ _ _=>False) (fun pre U U' h hx=>h.x HL.o (by omega) hx) (fun pre U U' h hx=>h.d (by omega) (by omega) (by omega) hx) (fun _ _ _ _ h _=>h.elim) (fun _ _ _ _ h _=>h.elim)
      ⟨⟨_,HP5.o⟩,HX5.o,Dn HB5.o fun k hk=>.inr (by have:=HCE.o;omega)⟩ ?round ?done ?stop
     case round =>
      rintro l pre x vs U _ ⟨rfl,hx64⟩ hpre;gi_wp2;refine⟨DF _ _,?_⟩;rintro U2 h2 ⟨⟨rest,hB⟩,hbx,hcw⟩ _ hcU;have HBx:=zH hbx;have HBp:=zH hB;have HCw:=zH hcw;clear hbx hB hcw hcU hpre;gi_wp2;refine⟨trivial,CallsIn.inRound _ (callsIn_wide.2 ((pz C _ (cD h pre HL.o) rest N x (by omega) U2 HBp.o).mono ?_))⟩;exact Gv
     case done =>
      rintro W h2 hI hF hK;have hE:=hI.fin HL.o hF;have hC:=zH hI.2.2;have hV:=eV h T HL.o;have hltC:=hE.lt;obtain⟨V,hVV⟩:=ex_ (b7 h T);rw[←hVV]at hE hV;have HV:=zH hVV;have HVL:=zH hV;have HE:=zH hE;have HR:=zH (show World.rangeAt W C 0 (au V) from fun j v hv=>by rw[DE];exact hE.cell (by rw[aG,List.getElem?_append_left (by exact(List.getElem?_eq_some_iff.1 hv).1)];exact hv));have HIV:=zH (show(Tryz.prog.info? 207).map (·.size)=some (au V).length by rw[aE,hV];kernel_rfl);clear hI hF hE hV hVV;go_wp2_with (refine wpList_load_mid rfl 207 _ rfl C 0 rfl (au V) (.array 8 206) (World.rangeAt_alloc HR.o _) (by kernel_rfl) rfl HIV.o ?_);obtain⟨W1,hW1⟩:=ex_ (W.alloc (.cells #[.pointer none,.slice none 0 0] 134));have hBld:Bld W.heap.size W.heap.size [] W1:=by rw[hW1];exact Bld.fresh W
      have hBW:=ba_ hW1;rw[←hW1];have HBld:=zH hBld;have HBW:=zH hBW;clear hW1 hBld hBW HR HE
      go_loopw [52] (fun t ux=>∃ k:Nat,k≤8∧t=.int .i64 k∧Hid (Bld W.heap.size W.heap.size (iC (V.take k)) ux)∧Hid (Below W.heap.size W ux)) (fun t _=>8-(intOf t).toNat)
      case atStart=>exact⟨0,by omega,rfl,HBld,HBW⟩
      case round =>
       clear HBld HBW;obtain⟨k,hk,rfl,HBl,HBx⟩:=hrel
       by_cases hk8:k<8
       ·have k1:(k:Int)<8:=by omega
        have k0:=nn_ k;have hix:=zt V HVL.o k hk8;have HOT:=zH (pd V k (by rw[HVL.o];exact hk8));have HLen:=zH (show(iC (V.take k)).length≤40 by rw[lM,DU];omega);generalize V.getD k 0=x at *;have hx1:U x<4294967296:=by have:=oB x;rw[cX];omega
        have hx0:0≤U x:=by rw[cX];omega
        go_wp2_with fail;have hm:=Bo wr x;have hsz4:=HBx.o.size;refine(uC W.heap.size W.heap.size (iC (V.take k)) (wb x) (.slice (some ⟨wr.heap.size,0,none⟩) 4 4) _ (HBl.o.below (af _ _)) (oW hm 4) (fun w1 hc=>oW (hm.chg hc (by have:=BL HBl.o;omega)) 4) (by have:=HLen.o;show _+4≤_;omega)).mono ?_;rintro e w7 ⟨rfl,hBl7,hB7,_⟩;rw[←HOT.o]at hBl7;have HB7:=zH hBl7;have HBx7:=zH (HBx.o.trans ((af wr _).mono hsz4 |>.trans hB7));clear hm hB7 hBl7;go_wp2_with fail;exact⟨⟨k+1,by omega,by go_num,HB7.o,HBx7.o⟩,by simp[intOf];omega⟩
       ·obtain rfl:k=8:=by omega
        have hout:=rJ V HVL.o;have HO8:=zH hout;clear hout;go_wp2_with fail;refine(gx W.heap.size W.heap.size _ wr HBl.o).mono ?_;rintro e w7 ⟨rfl,hB7⟩;have HB7:=zH (HBx.o.trans hB7);clear hB7;go_wp2_with fail;have hD:w7.heap[w5.heap.size]?=some (.deferred (some [])):=(HB7.o.block w5.heap.size (by omega)).trans hK;refine fD (D:=w5.heap.size) rfl hD (results_tmp rfl _ _ _) ⟨?_,?_⟩
        ·show Ending.returned (.string (bs (iC (V.take 8))))=_
         rw[HO8.o,HV.o,HT.o]
        ·have h1:=hC.o.trans ((Dn HB7.o (X:=fun k=>k=C∨C≤k) fun k hk=>.inr (by omega)).trans (Chg.putObj (X:=fun k=>k=C∨C≤k) w7 w5.heap.size (.deferred none) (.inr (by omega))))
         exact⟨h1.os,h1.tape,h1.output,h1.size,fun k hk=>h1.block k hk (by have:=HCE.o;omega)⟩
     case stop=>exact fun _ _ _ _ _ h _=>h.elim
end
section




def qs (w:World)(p:Nat)(t:LU_):Prop:=Blk w p 209 (aG (b7 h0 t) (bR t) ((t.length:Nat):Int))
theorem zR (w:World):Calls Tryz.prog 86 #[] w fun e w'=>∃ b,e=.returned (.pointer (some ⟨b,0,none⟩))∧w.heap.size≤b∧qs w' b []∧Below w.heap.size w w':=A5 w
theorem uD (p:Nat)(t s:LU_)(w:World)(hp:qs w p t)(hn:t.length+s.length≤70368744177664):Calls Tryz.prog 87 #[.pointer (some ⟨p,0,none⟩),.string (bs s)] w fun e w'=>e=.returned (.int .i64 0)∧qs w' p (t++s)∧Chg (·=p) w w':=by
 obtain⟨e1,e2⟩:=lW h0 t s;have hl:=fy t;have h:=xF p (b7 h0 t) (eV _ _ rfl) (bR t) s t.length w hp (by omega) (by omega);rw[e1,e2,←DL]at h;exact h
theorem xI (p:Nat)(t:LU_)(w:World)(hp:qs w p t)(hn:t.length≤70368744177664):Calls Tryz.prog 88 #[.pointer (some ⟨p,0,none⟩)] w fun e w'=>e=.returned (.string (bs (fJ t)))∧Bw_ w w':=by
 have hl:=fy t;have h:=zS p (b7 h0 t) (eV _ _ rfl) (bR t) t.length w hp (by omega) (by omega);rw[qQ]at h;exact h
theorem vj (s:LU_)(w:World)(hs:s.length≤70368744177664):Calls Tryz.prog 46 #[.string (bs s)] w fun e w'=>e=.returned (.string (bs (fJ s)))∧Bw_ w w':=by
 have HS:=zH hs;clear hs;go_enter Tryz.func46,Tryz.ntmps46;go_wp2_with fail;refine(zR w).mono ?_;rintro e w1 ⟨b,rfl,hb,hH1,hB1⟩;have HH1:=zH hH1;have HB1:=zH hB1;clear hH1 hB1;go_wp2_with fail;refine(uD b [] s _ HH1.o (by have:=HS.o;simp;omega)).mono ?_;rintro e w2 ⟨rfl,hH2,hC2⟩;rw[D5]at hH2;have HH2:=zH hH2;have HC2:=zH hC2;clear hH2 hC2;go_wp2_with fail;refine(xI b s _ HH2.o HS.o).mono ?_;rintro e w3 ⟨rfl,hB3⟩;have HB3:=zH hB3;clear hB3;go_wp2_with fail;go_ret;have h2:Below w.heap.size w w2:=HB1.o.trans (HC2.o.below (fun k hk=>by subst hk;exact hb) HB1.o.size);exact⟨rfl,h2.trans (HB3.o.mono h2.size)⟩
theorem dN (x:UInt32)(n:Nat)(w:World)(h1:1≤n)(h2:n≤31):Calls Tryz.prog 181 #[.int .u32 (U x),.int .i64 n] w fun e w'=>e=.returned (.int .u32 (U (cN x n)))∧Bw_ w w':=by
 have n1:(1:Int)≤(n:Int):=by omega
 have n2:(n:Int)≤31:=by omega
 go_enter Tryz.func181,Tryz.ntmps181;go_wp2;rw[vg x n (by omega),sK x (32-n) (by omega),jv];go_wp2;go_ret;exact⟨rfl,dM _⟩
theorem Ao (n J X:Nat)(hJ:J<8)(hX:X%256=kP (8*n) J)(Z:LU_):Z++((be8 (8*n)).take J++[UInt8.ofNat X])=Z++(be8 (8*n)).take (J+1):=by
 have h:=u7 n J _ hJ rfl;injection h with _ h
 have e:UInt8.ofNat X=(be8 (8*n)).getD J 0:=by
  apply UInt8.toNat_inj.1;rw[UInt8.toNat_ofNat'];have:(kP (8*n) J:Int)=(((be8 (8*n)).getD J 0).toNat:Int):=h;omega
 rw[sF _ _ hJ,e]
theorem uw (n:Nat):(be8 n).length≤8:=DC 8
theorem Ap (l:LU_)(w:World)(hl:l.length≤1099511627776):Calls Tryz.prog 133 #[.string (bs l)] w fun e w'=>e=.returned (.string (bs (dw l l.length)))∧Bw_ w w':=by
 have hz:=xP l.length;have H1:=zH (qv l);have hcv:=fun (w:World) (x:Int)=>sw (P:=Tryz.prog) 132 9 5 Tryz.underlying132 Tryz.underlying5 Tryz.underlying9 w x;have HCV:=zH hcv;clear hcv;go_enter Tryz.func133,Tryz.ntmps133;go_wp2
 go_loop [0] (fun v=>∃ k:Nat,k≤zc l.length∧v=.string (bs (iG l k))) (fun v=>9000000000000-qP (some v))
 case atStart=>exact⟨0,D6 _,by rw[H1.o]⟩
 case round =>
  obtain⟨k,hk,rfl⟩:=hrel;have hzl:=eW l k
  by_cases hkz:k<zc l.length
  ·have m1:(((iG l k).length:Int)%64 != 56)=true:=by have:=xO l.length k hkz;rw[bne_iff_ne];omega
   have HS:=zH (oD l k);have HL:=zH hzl;clear hzl;have hz2:(iG l k).length≤2000000000000:=by have:=HL.o;omega
   generalize iG l k=Z at *;go_wp2
   go_round
   case rel=>exact⟨k+1,by omega,by rw[←HS.o];exact A7 (fF Z [0])⟩
   case measure =>
    rw[show bs Z++⟨#[0]⟩=bs (Z++[0]) from fF Z [0]];simp[qP,bA];omega
  ·obtain rfl:k=zc l.length:=by omega
   have m1:(((iG l (zc l.length)).length:Int)%64 != 56)=false:=by have:=sT l.length;rw[bne_eq_false_iff_eq];omega
   obtain⟨Z,hZ⟩:=ex_ (iG l (zc l.length));rw[←hZ]at m1 hzl⊢;have HZ:=zH hZ;have HZL:=zH (show Z.length≤2000000000000 by omega);clear hZ hk hkz hzl hz;go_wp2;clear m1
   go_loopw [0,4] (fun v i wx=>∃ j:Nat,j≤8∧i=.int .i64 (7-(j:Int))∧v=.string (bs (Z++(be8 (8*l.length)).take j))∧Hid (Below w.heap.size w wx)) (fun v _ _=>9000000000000-qP (some v))
   case atStart=>exact⟨0,by omega,rfl,by simp,dM _⟩
   case round =>
    obtain⟨j,hj,rfl,rfl,HB⟩:=hrel;have HL2:=zH (show(Z++(be8 (8*l.length)).take j).length≤2000000000010 by rw[DL,DU];have:=HZL.o;simp[be8];omega)
    by_cases hj8:j<8
    ·have HJ:=zH hj8
     clear hj8 hj;have hj:=HJ.o;obtain⟨jn,hjn⟩:=ex_ (j+1);have HJN:=zH hjn;clear hjn;have hcv:=HCV.o;rcases(by omega:j=0∨j=1∨j=2∨j=3∨j=4∨j=5∨j=6∨j=7) with rfl|rfl|rfl|rfl|rfl|rfl|rfl|rfl
     all_goals
      clear hj;have hlen:=HZL.o;have hb8:=uw (8*l.length);go_wp2;have hjn:=HJN.o;refine⟨⟨jn,by omega,?_,?_,HB.o.trans ((af _ _).mono HB.o.size)⟩,?_⟩
      ·subst hjn;rfl
      ·subst hjn;exact A7 (congrArg bs (Ao l.length _ _ HJ.o (by simp only[kP];omega) Z))
      ·simp[qP];omega
    ·obtain rfl:j=8:=by omega
     go_wp2;go_ret;refine⟨?_,HB.o⟩;show Ending.returned (.string (bs (Z++(be8 (8*l.length)).take 8)))=_;rw[HZ.o]
     rfl
theorem FO {T:Prop} (h:T:=by
 have cc:=C8 hB c15;go_simp;exact hG _ (Bel.refl _)
):T:=h
theorem FP {T:Prop} (h:T:=by
 have cc:=C8 hB c2;go_simp;exact hG _ (Bel.refl _)
):T:=h
theorem pQ (l:LU_)(w:World)(hl:64≤l.length):Calls Tryz.prog 180 #[.string (bs l)] w fun e w'=>e=.returned (.slice (some ⟨w.heap.size,0,none⟩) 64 64)∧Blk w' w.heap.size 206 (au (wl l 64))∧Bw_ w w':=by
 have hmk:(Instr.makeSlice 149 (.int .i64 64) (.int .i64 64)).run Tryz.prog w=.ok (.slice (some ⟨w.heap.size,0,none⟩) 64 64) (w.alloc (.cells (List.replicate 64 (.int .u32 0)).toArray 206)):=kE (P:=Tryz.prog) 149 206 (.int .u32 0) 4 Tryz.underlying149 (by kernel_rfl) rfl 64 (by decide) (by decide) w;go_enter Tryz.func180,Tryz.ntmps180;go_wp2;clear hmk
 go_loopw [4] (fun t wx=>∃ k:Nat,k≤16∧t=.int .i64 k∧Hid (Blk wx w.heap.size 206 (au (gH l k)))∧Hid (Below w.heap.size w wx)) (fun t _=>16-(intOf t).toNat)
 case atStart=>exact⟨0,by omega,rfl,Blk.new w _ _,af w _⟩
 case round =>
  obtain⟨k,hk,rfl,HB,HW⟩:=hrel
  by_cases hk16:k<16
  ·exact Gf
  ·have hk:k=16:=by omega
   subst hk;go_wp2
   go_loopw [5] (fun t wx=>∃ k:Nat,16≤k∧k≤64∧t=.int .i64 k∧Hid (Blk wx w.heap.size 206 (au (gH l k)))∧Hid (Below w.heap.size w wx)) (fun t _=>64-(intOf t).toNat)
   case atStart=>exact⟨16,by omega,by omega,rfl,HB,HW⟩
   case round =>
    obtain⟨k,hk,hk',rfl,HB,HW⟩:=hrel
    by_cases hk16:k<64
    ·have k1:(k:Int)<64:=by omega
     have k0:=nn_ k;have x0:(0:Int)≤(k:Int)-15:=by omega
     have x1:(k:Int)-15<64:=by omega
     have y0:(0:Int)≤(k:Int)-2:=by omega
     have y1:(k:Int)-2<64:=by omega
     have z0:(0:Int)≤(k:Int)-16:=by omega
     have z1:(k:Int)-16<64:=by omega
     have v0:(0:Int)≤(k:Int)-7:=by omega
     have v1:(k:Int)-7<64:=by omega
     have c15:=HB.o.cell (gi l k (k-15) (by omega) (by omega));have c2:=HB.o.cell (gi l k (k-2) (by omega) (by omega));have c16:=HB.o.cell (gi l k (k-16) (by omega) (by omega));have c7:=HB.o.cell (gi l k (k-7) (by omega) (by omega));have hc:=jU l k (by omega);rw[mz l k hk]at hc;generalize (wl l k).getD (k-15) 0=a at *;generalize (wl l k).getD (k-2) 0=b at *;generalize (wl l k).getD (k-16) 0=c at *;generalize (wl l k).getD (k-7) 0=d at *;have HC:=zH hc;clear hc;go_wp2;refine rk_ [(4,.exact Bel (.int .u32 (U a))),(5,.exact Bel (.int .u32 (U (cN a 7)))),(10,.exact Bel (.int .u32 (U a))),(11,.exact Bel (.int .u32 (U (cN a 18)))),(17,.exact Bel (.int .u32 (U a)))] ?_;refine cG ?_;refine gE_ (fun w' G hB hS hG=>?_) (fun K hK=>?_)
     ·exact FO
     refine cO ?_;clear hK K;refine gE_ (fun w' G hB hS hG=>?_) (fun K hK=>?_)
     ·go_simp
      exact aO hG (dN a 7 _ (by omega) (by omega))
     refine cO ?_;clear hK K;refine gE_ (fun w' G hB hS hG=>?_) (fun K hK=>?_)
     ·exact FO
     refine cO ?_;clear hK K;refine gE_ (fun w' G hB hS hG=>?_) (fun K hK=>?_)
     ·go_simp
      exact aO hG (dN a 18 _ (by omega) (by omega))
     refine cO ?_;clear hK K;refine gE_ (fun w' G hB hS hG=>?_) (fun K hK=>?_)
     ·exact FO
     refine cO ?_;clear hK K
     (try simp only[eD,dy,dz,eC,eB,dx,jv,fX,gw,fY,eH,eG,eF,eE])
     (intro w' hB hA;simp only[aB.all_some,Db,and_true]at hA)
     have hs0:cN a 7 ^^^ cN a 18 ^^^ a >>> 3=sg0 a:=rfl;rw[hs0];replace c2:=C8 hB c2;replace c16:=C8 hB c16;replace c7:=C8 hB c7;have HB2:=zH (HB.o.below hB);have HW2:=zH (bt HW.o hB);clear hA hB hs0 c15 HB HW x0 x1;go_wp2;refine rk_ [(4,.exact Bel (.int .u32 (U b))),(5,.exact Bel (.int .u32 (U (cN b 17)))),(10,.exact Bel (.int .u32 (U b))),(11,.exact Bel (.int .u32 (U (cN b 19)))),(17,.exact Bel (.int .u32 (U b)))] ?_;refine cG ?_;refine gE_ (fun w' G hB hS hG=>?_) (fun K hK=>?_)
     ·exact FP
     refine cO ?_;clear hK K;refine gE_ (fun w' G hB hS hG=>?_) (fun K hK=>?_)
     ·go_simp
      exact aO hG (dN b 17 _ (by omega) (by omega))
     refine cO ?_;clear hK K;refine gE_ (fun w' G hB hS hG=>?_) (fun K hK=>?_)
     ·exact FP
     refine cO ?_;clear hK K;refine gE_ (fun w' G hB hS hG=>?_) (fun K hK=>?_)
     ·go_simp
      exact aO hG (dN b 19 _ (by omega) (by omega))
     refine cO ?_;clear hK K;refine gE_ (fun w' G hB hS hG=>?_) (fun K hK=>?_)
     ·exact FP
     refine cO ?_;clear hK K
     (try simp only[eD,dy,dz,eC,eB,dx,jv,fX,gw,fY,eH,eG,eF,eE])
     intro w3 hB hA;have hs1:cN b 17 ^^^ cN b 19 ^^^ b >>> 10=sg1 b:=rfl;rw[hs1];replace c16:=C8 hB c16;replace c7:=C8 hB c7;have HB3:=zH (HB2.o.below hB);have HW3:=zH (bt HW2.o hB);clear hA hB hs1 c2 HB2 HW2 y0 y1;go_wp2;refine ba 17 [(7,.exact Bel (.int .u32 (U d))),(15,.exact Bel (.int .u32 (U c)))] (by kernel_rfl) (by kernel_rfl) ?_;simp only[DQ,DW,DO,DX];refine cG ?_;refine gE_ (fun w' G hB hS hG=>?_) (fun K hK=>?_)
     ·have cc:=C8 hB c7
      go_simp;exact hG _ (Bel.refl _)
     refine cO ?_;clear hK K;refine gE_ (fun w' G hB hS hG=>?_) (fun K hK=>?_)
     ·have cc:=C8 hB c16
      go_simp;exact hG _ (Bel.refl _)
     refine cO ?_;clear hK K
     (try simp only[eD,dy,dz,eC,eB,dx,jv,fX,gw,fY,eH,eG,eF,eE])
     intro w4 hB hA;have B':=HB3.o.below hB;have hlen:k<(au (gH l k)).length:=by rw[aE,eX l k (by omega)];omega
     obtain⟨cu,c1⟩:=B'.ex hlen;have f1:=B'.free hlen;have HS:=zH (B'.set k (.int .u32 (U (sg1 b+d+sg0 a+c))));have HB4:=zH (bt HW3.o hB);clear B' hB hlen hA c7 c16;go_wp2;refine⟨?_,by simp[intOf];omega⟩
     (repeat apply Exists.intro)
     refine⟨⟨k+1,by omega,by omega,by go_num,?_,HB4.o.setCell (DC _) _⟩,rfl⟩;have:=HS.o;have hc:=HC.o;rw[show c+sg0 a+d+sg1 b=sg1 b+d+sg0 a+c by ac_rfl]at hc;rw[fH,hc]at this;exact this
    ·have hk:k=64:=by omega
     subst hk;rw[qw]at HB;go_wp2;go_ret;exact⟨rfl,HB.o,HW.o⟩
theorem uW:(Tryz.prog.info? 206).map (fun i=>(i.zero,i.size,i.bytes))=some (some (.int .u32 0),1,4):=by kernel_rfl
theorem lq (l:List UInt32):∀ u∈au l,u.oneCell'=true:=by
 intro u hu;simp only[au,List.mem_map]at hu;obtain⟨x,_,rfl⟩:=hu;rfl
theorem s5 (l m:List UInt32):au (l++m)=au l++au m:=by simp[au]
def xR (h v:List UInt32)(k:Nat):List UInt32:=List.zipWith (·+·) (h.take k) (v.take k)
theorem xQ (h v:List UInt32)(hl:h.length=8)(hv:v.length=8):xR h v 8=List.zipWith (·+·) h v:=by
 simp[xR,DB (Nat.le_of_eq hl),DB (Nat.le_of_eq hv)]
theorem vt (h v:List UInt32)(hl:h.length=8)(hv:v.length=8)(k:Nat)(hk:k<8):xR h v k++[h.getD k 0+v.getD k 0]=xR h v (k+1):=by
 obtain⟨a,b,c,d,e,f,g,i,rfl⟩:=nI h hl;obtain⟨a',b',c',d',e',f',g',i',rfl⟩:=nI v hv
 match k,hk with
 | 0,_|1,_|2,_|3,_|4,_|5,_|6,_|7,_=>rfl
theorem aJ.u {w:World}{a:Option Addr}{n c:Nat}{l:List UInt32}(h:aJ w (.slice a n c) n (au l))(k:Nat)(hk:k<l.length):∃ b off,a=some ⟨b,off,none⟩∧w.cell? ⟨b,off+k,none⟩=some (.int .u32 (U (l.getD k 0))):=by
 obtain⟨a',c',hv,_,hc⟩:=h;injection hv with e1 _ _
 subst e1;exact hc k _ (yd l k l.length rfl hk)
theorem FQ {T:Prop} (h:T:=by
 have cc:=C8 hB e0;go_simp;exact hG _ (Bel.refl _)
):T:=h
theorem FR {T:Prop} (h:T:=by
 have cc:=C8 hB d4;go_simp;exact hG _ (Bel.refl _)
):T:=h
theorem tE (vh vk:Value)(h:List UInt32)(hl:h.length=8)(l:LU_)(h64:64≤l.length)(w:World)(hh:aJ w vh 8 (au h))(hk:aJ w vk 64 (au fR)):Calls Tryz.prog 134 #[vh,vk,.string (bs l)] w fun e w'=>∃ v,e=.returned v∧w'.ownsRow w.heap.size 206 1 v 8 (au (gG h l))∧Bw_ w w':=by
 have hh0:=hh;obtain⟨ah,ch,rfl,_,_⟩:=hh;have hk0:=hk;obtain⟨ak,ck,rfl,_,_⟩:=hk;have HH:=zH hh0;have HK:=zH hk0;have HL:=zH hl;clear hh0 hk0 hl;go_enter Tryz.func134,Tryz.ntmps134;go_wp2_with fail;refine(pQ l w h64).mono ?_;rintro e w1 ⟨rfl,hW1,hB1⟩;have HB1:=zH hB1;obtain⟨D,hD⟩:=ex_ w.heap.size;rw[←hD]at hW1⊢;have HD:=zH hD;have HW:=zH hW1;have hsz1:=hB1.size;clear hD hB1 hW1;have hr1:=zH (HH.o.below HB1.o);go_wp2_with (at_builtin;go_must (refine kQ w1 (au h) 206 rfl _ _ 149 rfl w1.heap.size (.int .u32 0) 1 4 Tryz.underlying149 uW rfl (by decide) _ 0 [] rfl (World.ownsRow_nil _ _ _ _) _ 8 rfl hr1.o (by rw[aE,HL.o]) (lq h) (by decide) (by decide) (DC _) ?_));intro v0 w2 hown2 hB2;have HW2:=zH (HW.o.below hB2);have HK2:=zH ((HK.o.below HB1.o).below hB2);have HH2:=zH ((HH.o.below HB1.o).below hB2);have HB2:=zH (bt HB1.o hB2);have hsz2:=hB2.size;obtain⟨a0,c0,rfl⟩:=ap hown2;have HV0:=zH (Dd hown2);clear hown2 hB2 HW hr1 HB1;go_wp2
 go_loopw [8,9] (fun v t wx=>∃ (k:Nat) (a:Option Addr) (c:Nat),k≤64∧t=.int .i64 k∧v=.slice a 8 c∧Hid (aJ wx (.slice a 8 c) 8 (au (et (wl l 64) h k)))∧Hid (Below w2.heap.size w2 wx)) (fun _ t _=>64-(intOf t).toNat)
 case atStart=>exact⟨0,a0,c0,by omega,rfl,rfl,HV0,dM _⟩
 case round =>
  clear HV0;obtain⟨k,a,c,hk,rfl,rfl,HV,HB⟩:=hrel
  by_cases hk64:k<64
  ·have k1:(k:Int)<64:=by omega
   have k0:=nn_ k;have hst:et (wl l 64) h (k+1)=step (fR.getD k 0) ((wl l 64).getD k 0) (et (wl l 64) h k):=rfl;obtain⟨v0,v1,v2,v3,v4,v5,v6,v7,hv⟩:=nI _ (dq (wl l 64) h HL.o k);rw[hv]at HV hst;obtain⟨b,off,rfl,d0⟩:=HV.o.u 0 (by simp);obtain⟨_,_,e1,d1⟩:=HV.o.u 1 (by simp);cases e1;obtain⟨_,_,e1,d2⟩:=HV.o.u 2 (by simp);cases e1;obtain⟨_,_,e1,d3⟩:=HV.o.u 3 (by simp);cases e1;obtain⟨_,_,e1,d4⟩:=HV.o.u 4 (by simp);cases e1;obtain⟨_,_,e1,d5⟩:=HV.o.u 5 (by simp);cases e1;obtain⟨_,_,e1,d6⟩:=HV.o.u 6 (by simp);cases e1;obtain⟨_,_,e1,d7⟩:=HV.o.u 7 (by simp);cases e1;have e0:wr.cell? ⟨b,off,none⟩=some (.int .u32 (U v0)):=d0;replace d1:wr.cell? ⟨b,off+1,none⟩=some (.int .u32 (U v1)):=d1;replace d2:wr.cell? ⟨b,off+2,none⟩=some (.int .u32 (U v2)):=d2;replace d3:wr.cell? ⟨b,off+3,none⟩=some (.int .u32 (U v3)):=d3;replace d4:wr.cell? ⟨b,off+4,none⟩=some (.int .u32 (U v4)):=d4;replace d5:wr.cell? ⟨b,off+5,none⟩=some (.int .u32 (U v5)):=d5;replace d6:wr.cell? ⟨b,off+6,none⟩=some (.int .u32 (U v6)):=d6;replace d7:wr.cell? ⟨b,off+7,none⟩=some (.int .u32 (U v7)):=d7;clear d0;have cw:=(HW2.o.below HB.o).cell (yd (wl l 64) k 64 (cR l 64) hk64);obtain⟨bk,ok,rfl,ck⟩:=(HK2.o.below HB.o).u k (by rw[rW];exact hk64);generalize (wl l 64).getD k 0=ww at *;generalize fR.getD k 0=kk at *;have HST:=zH hst;clear hst hv;go_wp2;refine rk_ [(2,.exact Bel (.int .u32 (U v4))),(3,.exact Bel (.int .u32 (U (cN v4 6)))),(6,.exact Bel (.int .u32 (U v4))),(7,.exact Bel (.int .u32 (U (cN v4 11)))),(11,.exact Bel (.int .u32 (U v4))),(12,.exact Bel (.int .u32 (U (cN v4 25))))] ?_
   refine cG ?_;refine gE_ (fun w' G hB hS hG=>?_) (fun K hK=>?_)
   ·exact FR
   refine cO ?_;clear hK K;refine gE_ (fun w' G hB hS hG=>?_) (fun K hK=>?_)
   ·go_simp
    exact aO hG (dN v4 6 _ (by omega) (by omega))
   refine cO ?_;clear hK K;refine gE_ (fun w' G hB hS hG=>?_) (fun K hK=>?_)
   ·exact FR
   refine cO ?_;clear hK K;refine gE_ (fun w' G hB hS hG=>?_) (fun K hK=>?_)
   ·go_simp
    exact aO hG (dN v4 11 _ (by omega) (by omega))
   refine cO ?_;clear hK K;refine gE_ (fun w' G hB hS hG=>?_) (fun K hK=>?_)
   ·exact FR
   refine cO ?_;clear hK K;refine gE_ (fun w' G hB hS hG=>?_) (fun K hK=>?_)
   ·go_simp
    exact aO hG (dN v4 25 _ (by omega) (by omega))
   refine cO ?_;clear hK K
   (try simp only[eD,dy,dz,eC,eB,dx,jv,fX,gw,fY,eH,eG,eF,eE])
   intro w3 hB hA;replace e0:=C8 hB e0;replace d1:=C8 hB d1;replace d2:=C8 hB d2;replace d3:=C8 hB d3;replace d4:=C8 hB d4;replace d5:=C8 hB d5;replace d6:=C8 hB d6;replace d7:=C8 hB d7;replace cw:=C8 hB cw;replace ck:=C8 hB ck;have HB3:=zH (HB.o.trans (hB.mono HB.o.size));clear hA hB;go_wp2;refine rk_ [(2,.exact Bel (.int .u32 (U v0))),(3,.exact Bel (.int .u32 (U (cN v0 2)))),(6,.exact Bel (.int .u32 (U v0))),(7,.exact Bel (.int .u32 (U (cN v0 13)))),(11,.exact Bel (.int .u32 (U v0))),(12,.exact Bel (.int .u32 (U (cN v0 22))))] ?_;refine cG ?_;refine gE_ (fun w' G hB hS hG=>?_) (fun K hK=>?_)
   ·exact FQ
   refine cO ?_;clear hK K;refine gE_ (fun w' G hB hS hG=>?_) (fun K hK=>?_)
   ·go_simp
    exact aO hG (dN v0 2 _ (by omega) (by omega))
   refine cO ?_;clear hK K;refine gE_ (fun w' G hB hS hG=>?_) (fun K hK=>?_)
   ·exact FQ
   refine cO ?_;clear hK K;refine gE_ (fun w' G hB hS hG=>?_) (fun K hK=>?_)
   ·go_simp
    exact aO hG (dN v0 13 _ (by omega) (by omega))
   refine cO ?_;clear hK K;refine gE_ (fun w' G hB hS hG=>?_) (fun K hK=>?_)
   ·exact FQ
   refine cO ?_;clear hK K;refine gE_ (fun w' G hB hS hG=>?_) (fun K hK=>?_)
   ·go_simp
    exact aO hG (dN v0 22 _ (by omega) (by omega))
   refine cO ?_;clear hK K
   (try simp only[eD,dy,dz,eC,eB,dx,jv,fX,gw,fY,eH,eG,eF,eE])
   intro w4 hB hA;replace e0:=C8 hB e0;replace d1:=C8 hB d1;replace d2:=C8 hB d2;replace d3:=C8 hB d3;replace d4:=C8 hB d4;replace d5:=C8 hB d5;replace d6:=C8 hB d6;replace d7:=C8 hB d7;replace cw:=C8 hB cw;replace ck:=C8 hB ck;have HB4:=zH (HB3.o.trans (hB.mono HB3.o.size));clear hA hB;go_wp2;go_quiet (fail);simp only[Bk]
   (try simp only[eD,dy,dz,eC,eB,dx,jv,fX,gw,fY,eH,eG,eF,eE])
   have ht1:v7+(cN v4 6 ^^^ cN v4 11 ^^^ cN v4 25)+(v4 &&& v5 ^^^ ~~~v4 &&& v6)+kk+ww=pL v4 v5 v6 v7 kk ww:=rfl;rw[ht1];clear ht1 d7 cw ck;obtain⟨w5,hwq⟩:∃ wq,wq=w4.drewN nq:=⟨_,rfl⟩
   rw[←hwq];have hB:Below w4.heap.size w4 w5:=by rw[hwq];exact C9 w4 nq
   clear hwq;replace e0:=C8 hB e0;replace d1:=C8 hB d1;replace d2:=C8 hB d2;replace d3:=C8 hB d3;replace d4:=C8 hB d4;replace d5:=C8 hB d5;replace d6:=C8 hB d6;have HB5:=zH (HB4.o.trans (hB.mono HB4.o.size));clear hB nq;go_wp2;go_quiet (fail)
   (try simp only[eD,dy,dz,eC,eB,dx,jv,fX,gw,fY,eH,eG,eF,eE])
   have ht2:(cN v0 2 ^^^ cN v0 13 ^^^ cN v0 22)+(v0 &&& v1 ^^^ v0 &&& v2 ^^^ v1 &&& v2)=yh v0 v1 v2:=rfl;rw[ht2];clear ht2;obtain⟨w6,hwq⟩:∃ wq,wq=w5.drewN nq:=⟨_,rfl⟩
   rw[←hwq];have hB:Below w5.heap.size w5 w6:=by rw[hwq];exact C9 w5 nq
   clear hwq;replace e0:=C8 hB e0;replace d1:=C8 hB d1;replace d2:=C8 hB d2;replace d3:=C8 hB d3;replace d4:=C8 hB d4;replace d5:=C8 hB d5;replace d6:=C8 hB d6;have HB6:=zH (HB5.o.trans (hB.mono HB5.o.size));have HST2:=zH (show et (wl l 64) h (k+1)=[pL v4 v5 v6 v7 kk ww+yh v0 v1 v2,v0,v1,v2,v3+pL v4 v5 v6 v7 kk ww,v4,v5,v6] by rw[HST.o];rfl);clear hB nq HST;generalize pL v4 v5 v6 v7 kk ww=t1 at *;generalize yh v0 v1 v2=t2 at *;go_wp2;refine rk_ [(5,.exact Bel (.int .u32 (U v0))),(8,.exact Bel (.int .u32 (U v1))),(11,.exact Bel (.int .u32 (U v2))),(14,.exact Bel (.int .u32 (U v3))),(19,.exact Bel (.int .u32 (U v4))),(22,.exact Bel (.int .u32 (U v5))),(25,.exact Bel (.int .u32 (U v6))),(26,eP 8 (au [t1+t2,v0,v1,v2,v3+t1,v4,v5,v6]))] ?_;refine cG ?_;refine gE_ (fun w' G hB hS hG=>?_) (fun K hK=>?_)
   ·exact FQ
   refine cO ?_;clear hK K;refine gE_ (fun w' G hB hS hG=>?_) (fun K hK=>?_)
   ·have cc:=C8 hB d1
    go_simp;exact hG _ (Bel.refl _)
   refine cO ?_;clear hK K;refine gE_ (fun w' G hB hS hG=>?_) (fun K hK=>?_)
   ·have cc:=C8 hB d2
    go_simp;exact hG _ (Bel.refl _)
   refine cO ?_;clear hK K;refine gE_ (fun w' G hB hS hG=>?_) (fun K hK=>?_)
   ·have cc:=C8 hB d3
    go_simp;exact hG _ (Bel.refl _)
   refine cO ?_;clear hK K;refine gE_ (fun w' G hB hS hG=>?_) (fun K hK=>?_)
   ·exact FR
   refine cO ?_;clear hK K;refine gE_ (fun w' G hB hS hG=>?_) (fun K hK=>?_)
   ·have cc:=C8 hB d5
    go_simp;exact hG _ (Bel.refl _)
   refine cO ?_;clear hK K;refine gE_ (fun w' G hB hS hG=>?_) (fun K hK=>?_)
   ·have cc:=C8 hB d6
    go_simp;exact hG _ (Bel.refl _)
   refine cO ?_;clear hK K
   (try simp only[eD,dy,dz,eC,eB,dx,jv,fX,gw,fY,eH,eG,eF,eE])
   refine gk_ (eP 8 (au [t1+t2,v0,v1,v2,v3+t1,v4,v5,v6])) (fun w' G hB hS hG=>?_) (fun x K hK=>?_)
   ·go_simp
    exact gN hG rfl
   obtain⟨ad,c⟩:=x;refine cO ?_;clear hK K;intro w7 hB hA;have hr:Hid (aJ w7 (.slice ad 8 c) 8 (au [t1+t2,v0,v1,v2,v3+t1,v4,v5,v6])):=oA hA;have HB7:=zH (HB6.o.trans (hB.mono HB6.o.size));clear hA hB e0 d1 d2 d3 d4 d5 d6;go_wp2;refine⟨?_,by simp[intOf];omega⟩;exact⟨k+1,ad,c,by omega,by go_num,rfl,by rw[HST2.o];exact hr.o,HB7.o⟩
  ·obtain rfl:k=64:=by omega
   obtain⟨Wr,hWr⟩:=ex_ wr;subst hWr;obtain⟨V,hV⟩:=ex_ (et (wl l 64) h 64);rw[←hV]at HV;have HVL:=zH (show V.length=8 by rw[hV];exact dq _ _ HL.o 64);have HVD:=zH hV;clear hV;have HH3:=zH (HH2.o.below HB.o);have hszr:=HB.o.size;go_wp2
   go_loopw [14,15] (fun v t wx=>∃ k:Nat,k≤8∧t=.int .i64 k∧Hid (wx.ownsRow Wr.heap.size 206 1 v k (au (xR h V k)))∧Hid (Below Wr.heap.size Wr wx)) (fun _ t _=>8-(intOf t).toNat)
   case atStart=>exact⟨0,by omega,rfl,World.ownsRow_nil _ _ _ _,dM _⟩
   case round =>
    obtain⟨k,hk,rfl,HO,HX⟩:=hrel;obtain⟨ao,co,rfl⟩:=ap HO.o
    by_cases hk8:k<8
    ·have k1:(k:Int)<8:=by omega
     have k0:=nn_ k;obtain⟨bh,oh,rfl,dh⟩:=(HH3.o.below HX.o).u k (by rw[HL.o];exact hk8);obtain⟨bv,ov,rfl,dv⟩:=(HV.o.below HX.o).u k (by rw[HVL.o];exact hk8);have HZ:=zH (vt h V HL.o HVL.o k hk8);generalize h.getD k 0=hh at *;generalize V.getD k 0=vv at *;go_wp2;refine ba 11 [(4,.exact Bel (.int .u32 (U hh))),(8,.exact Bel (.int .u32 (U vv))),(10,eP 1 (au [hh+vv]))] (by kernel_rfl) (by kernel_rfl) ?_;simp only[DQ,DW,DO,DX];refine cG ?_;refine gE_ (fun w' G hB hS hG=>?_) (fun K hK=>?_)
     ·have cc:=C8 hB dh
      go_simp;exact hG _ (Bel.refl _)
     refine cO ?_;clear hK K;refine gE_ (fun w' G hB hS hG=>?_) (fun K hK=>?_)
     ·have cc:=C8 hB dv
      go_simp;exact hG _ (Bel.refl _)
     refine cO ?_;clear hK K
     (try simp only[eD,dy,dz,eC,eB,dx,jv,fX,gw,fY,eH,eG,eF,eE])
     refine gk_ (eP 1 (au [hh+vv])) (fun w' G hB hS hG=>?_) (fun x K hK=>?_)
     ·go_simp
      exact gN hG rfl
     obtain⟨ad,c⟩:=x;refine cO ?_;clear hK K;intro w3 hB hA;have hr:Hid (aJ w3 (.slice ad 1 c) 1 (au [hh+vv])):=oA hA;have HO3:=zH (bD HO.o hB);have HX3:=zH (bt HX.o hB);have hsz3:Wr.heap.size≤w3.heap.size:=HX3.o.size;clear hA hB dh dv;go_wp2_with (at_builtin;go_must (refine kQ w3 (au [hh+vv]) 206 rfl _ _ 149 rfl Wr.heap.size (.int .u32 0) 1 4 Tryz.underlying149 uW rfl (by decide) _ _ _ rfl HO3.o _ 1 rfl hr.o rfl (lq _) (by omega) (by decide) hsz3 ?_);intro v' w4 hown4 hB4);refine⟨?_,by simp[intOf];omega⟩
     (repeat apply Exists.intro)
     refine⟨⟨k+1,by omega,by go_num,?_,HX3.o.trans hB4⟩,rfl⟩;rw[←s5,HZ.o]at hown4;exact hown4
    ·obtain rfl:k=8:=by omega
     have HZ:=zH (xQ h V HL.o HVL.o);go_wp2;go_ret;refine⟨_,rfl,?_,?_⟩
     ·have:=dF HO.o (show w.heap.size≤Wr.heap.size by omega)
      rw[HZ.o,HVD.o]at this;exact this
     ·exact bt HB2.o (bt HB.o HX.o)
theorem xS (x:UInt32):(#[.int .u8 (U x / 16777216),.int .u8 (U x / 65536%256),.int .u8 (U x / 256%256),.int .u8 (U x%256)]:Array Value)=(aM (wb x)).toArray:=by
 exact Gr
theorem F_ {T:Prop} (h:T:=by
 have cc:=C8 hB dh;go_simp;exact hG _ (Bel.refl _)
):T:=h
theorem yo (vk vh:Value)(l:LU_)(w:World)(hl:l.length≤1099511627776)(hk:aJ w vk 64 (au fR))(hh:aJ w vh 8 (au h0)):Calls Tryz.prog 94 #[.string (bs l),vk,vh] w fun e w'=>e=.returned (.string (bs (fJ l)))∧Bw_ w w':=by
 obtain⟨ah,ch,rfl,hx1⟩:=id hh;obtain⟨ak,ck,rfl,hx2⟩:=id hk;have HH:=zH hh;have HK:=zH hk;clear hh hk hx1 hx2;go_enter Tryz.func94,Tryz.ntmps94;go_wp2_with fail;refine(Ap l w hl).mono ?_;rintro e w1 ⟨rfl,hB1⟩;have HB1:=zH hB1;have HH1:=zH (HH.o.below hB1);have HK1:=zH (HK.o.below hB1);obtain⟨T,hT⟩:=ex_ (dw l l.length);have HTM:=zH (show T.length%64=0 by rw[hT];exact lL _ _);have HTL:=zH (show T.length≤1099511627900 by rw[hT,iN];have:=xP l.length;omega);have HS:=zH (show iC (b7 h0 T)=fJ l by rw[hT];rfl);rw[←hT];clear hT hB1 HH HK;go_wp2
 go_loopw [2,7] (fun v i wx=>∃ (k:Nat) (h:List UInt32) (a:Option Addr) (c:Nat),k≤T.length∧i=.int .i64 k∧v=.slice a 8 c∧h.length=8∧Hid (k%64=0)∧Hid (aJ wx (.slice a 8 c) 8 (au h))∧Hid (b7 h0 T=b7 h (T.drop k))∧Hid (Below w1.heap.size w1 wx)) (fun _ i _=>T.length-(intOf i).toNat)
 case atStart=>exact⟨0,h0,ah,ch,by omega,rfl,rfl,rfl,rfl,HH1,rfl,dM _⟩
 case round =>
  obtain⟨k,h,a,c,hk,rfl,rfl,hh8,HM,HV,HA,HB⟩:=hrel;have HTL':=HTL.o;have HH8:=zH hh8;clear hh8
  by_cases hkl:k<T.length
  ·have hk64:k+64≤T.length:=by have:=HM.o;have:=HTM.o;omega
   have k0:=nn_ k;have k1:(k:Int)<(T.length:Int):=by omega
   have k2:(k:Int)+64≤(T.length:Int):=by omega
   have HC:=zH (gu (T.drop k) (by rw[D7];omega));have HTK:=zH (show 64≤((T.drop k).take 64).length by simp;omega);go_wp2_with fail;refine(tE _ _ h HH8.o _ HTK.o wr HV.o (HK1.o.below HB.o)).mono ?_;rintro e w2 ⟨v2,rfl,hown2,hB2⟩;obtain⟨a2,c2,rfl⟩:=ap hown2;have HV2:=zH (Dd hown2);have HB2:=zH (HB.o.trans (hB2.mono HB.o.size));clear hown2 hB2;go_wp2;refine⟨?_,by simp[intOf];omega⟩;refine⟨k+64,_,a2,c2,by omega,by go_num,rfl,dQ _ _ HH8.o,by have:=HM.o;show(k+64)%64=0;omega,HV2.o,?_,HB2.o⟩;show b7 h0 T=b7 _ (T.drop (k+64));rw[HA.o];unfold b7;rw[HC.o,List.foldl_cons,DP]
  ·obtain rfl:k=T.length:=by omega
   have hfin:b7 h0 T=h:=by
    have:=HA.o;rw[List.drop_length]at this;exact this
   have HF:=zH hfin;obtain⟨Wr,hWr⟩:=ex_ wr;subst hWr;clear hfin HA;go_wp2
   go_loopw [8,9] (fun v i wx=>∃ k:Nat,k≤8∧i=.int .i64 k∧Hid (wx.ownsRow Wr.heap.size 5 1 v (4*k) (aM (iC (h.take k))))∧Hid (Below Wr.heap.size Wr wx)) (fun _ i _=>8-(intOf i).toNat)
   case atStart=>exact⟨0,by omega,rfl,World.ownsRow_nil _ _ _ _,dM _⟩
   case round =>
    obtain⟨k,hk8',rfl,HO,HX⟩:=hrel;obtain⟨ao,co,rfl⟩:=ap HO.o
    by_cases hk8:k<8
    ·have k1:(k:Int)<8:=by omega
     have k0:=nn_ k;obtain⟨bh,oh,rfl,dh⟩:=(HV.o.below HX.o).u k (by rw[HH8.o];exact hk8);have HOT:=zH (pd h k (by rw[HH8.o];exact hk8));generalize h.getD k 0=x at *;have hx1:U x<4294967296:=by have:=oB x;rw[cX];omega
     have hx0:0≤U x:=by rw[cX];omega
     go_wp2;refine ba 25 [(4,.exact Bel (.int .u32 (U x))),(10,.exact Bel (.int .u32 (U x))),(16,.exact Bel (.int .u32 (U x))),(22,.exact Bel (.int .u32 (U x))),(24,eP 4 (aM (wb x)))] (by kernel_rfl) (by kernel_rfl) ?_;simp only[DQ,DW,DO,DX];refine cG ?_;refine gE_ (fun w' G hB hS hG=>?_) (fun K hK=>?_)
     ·exact F_
     refine cO ?_;clear hK K;refine gE_ (fun w' G hB hS hG=>?_) (fun K hK=>?_)
     ·exact F_
     refine cO ?_;clear hK K;refine gE_ (fun w' G hB hS hG=>?_) (fun K hK=>?_)
     ·exact F_
     refine cO ?_;clear hK K;refine gE_ (fun w' G hB hS hG=>?_) (fun K hK=>?_)
     ·exact F_
     refine cO ?_;clear hK K;refine gk_ (eP 4 (aM (wb x))) (fun w' G hB hS hG=>?_) (fun x K hK=>?_)
     ·go_simp
      exact gN hG (xS x)
     obtain⟨ad,c⟩:=x;refine cO ?_;clear hK K;intro w3 hB hA;have hr:Hid (aJ w3 (.slice ad 4 c) 4 (aM (wb x))):=oA hA;have HO3:=zH (bD HO.o hB);have HX3:=zH (bt HX.o hB);have hsz3:Wr.heap.size≤w3.heap.size:=HX3.o.size;clear hA hB dh;go_wp2_with (at_builtin;go_must (refine kQ w3 (aM (wb x)) 5 rfl _ _ 132 rfl Wr.heap.size (.int .u8 0) 1 1 Tryz.underlying132 lj rfl (by decide) _ _ _ rfl HO3.o _ 4 rfl hr.o rfl (nT _) (by omega) (by decide) hsz3 ?_);intro v' w4 hown4 hB4);refine⟨?_,by simp[intOf];omega⟩;rw[←nU,←HOT.o]at hown4
     first
      | exact⟨k+1,by omega,by go_num,hown4,HX3.o.trans hB4⟩
      | ((repeat apply Exists.intro);exact⟨⟨k+1,by omega,by go_num,hown4,HX3.o.trans hB4⟩,rfl⟩)
    ·obtain rfl:k=8:=by omega
     have HR2:=HO.o;have HZ:=zH (rJ h HH8.o);have hcv:=nL 132 9 5 Tryz.underlying132 Tryz.underlying5 Tryz.underlying9 _ _ _ _ _ HR2;clear HR2;go_wp2;go_ret;refine⟨?_,bt HB1.o (bt HB.o HX.o)⟩;show Ending.returned (.string (bs (iC (h.take 8))))=_;rw[HZ.o,←HF.o,HS.o]
theorem yg (w:World):Calls Tryz.prog 93 #[] w fun e w'=>∃ a b,e=.returned (.tuple #[.slice (some ⟨a,0,none⟩) 64 64,.slice (some ⟨b,0,none⟩) 8 8])∧aJ w' (.slice (some ⟨a,0,none⟩) 64 64) 64 (au fR)∧aJ w' (.slice (some ⟨b,0,none⟩) 8 8) 8 (au h0)∧Bw_ w w':=by
 go_enter Tryz.func93,Tryz.ntmps93;go_wp2;go_ret2;have h1:=aJ.new w (au fR) 64 206 64;have h2:=aJ.new (w.alloc (.cells (au fR).toArray 206)) (au h0) 8 206 8;rw[show(w.alloc (.cells (au fR).toArray 206)).heap.size=w.heap.size+1 by simp]at h2;exact⟨_,_,rfl,h1.below (af _ _),h2,bt (af _ _) (af _ _)⟩
theorem rq (l:LU_)(w:World)(hl:l.length≤1099511627776):Calls Tryz.prog 50 #[.string (bs l)] w fun e w'=>e=.returned (.string (bs (fJ l)))∧Bw_ w w':=by
 go_enter Tryz.func50,Tryz.ntmps50;go_wp2_with fail;refine(yg w).mono ?_;rintro e w1 ⟨a,b,rfl,hk,hh,hB1⟩;have HK:=zH hk;have HH:=zH hh;have HB1:=zH hB1;clear hk hh hB1;go_wp2_with fail;refine(yo _ _ l w1 hl HK.o HH.o).mono ?_;rintro e w2 ⟨rfl,hB2⟩;have HB2:=zH (bt HB1.o hB2);clear hB2;go_wp2_with fail;go_ret;exact⟨rfl,HB2.o⟩
def partF (key:LU_)(n:Nat):Nat:=val ((fJ key).take 8)%n
def np (n:Int):Bool:=decide (1≤n)&&decide (n≤16)
def nM (n:Int):Int:=if np n then 0 else 2
theorem ze {n:Int}(h:np n=true):∃ m:Nat,n=(m:Int)∧1≤m∧m≤16:=by
 simp[np]at h;exact⟨n.toNat,by omega,by omega,by omega⟩
theorem AB {m:Nat}(h1:1≤m)(h2:m≤16):np (m:Int)=true:=by simp[np];omega
theorem kz (key:LU_)(n:Nat)(h:1≤n):partF key n<n:=Nat.mod_lt _ h
theorem FT {T:Prop} (h:T:=by
 go_enter Tryz.func110,Tryz.ntmps110;go_wp2;go_ret;exact⟨rfl,dM _⟩
):T:=h
theorem mV (n:Int)(w:World):Calls Tryz.prog 110 #[.int .i64 n] w fun e w'=>e=.returned (.int .i64 (nM n))∧Bw_ w w':=by
 by_cases h1:1≤n
 ·by_cases h2:n≤16
  ·have hc:nM n=0:=by simp[nM,np,h1,h2]
   have h3:¬n<1:=by omega
   have h4:¬16<n:=by omega
   rw[hc];clear hc;exact FT
  ·have hc:nM n=2:=by simp[nM,np,h2]
   have h3:¬n<1:=by omega
   have h4:16<n:=by omega
   rw[hc];clear hc h2;exact FT
 ·have hc:nM n=2:=by simp[nM,np,h1]
  have h3:n<1:=by omega
  rw[hc];clear hc h1;exact FT
theorem Bw (v c k:Nat)(h:v<256 ^ k):v ||| c*256 ^ k=v+c*256 ^ k:=by
 have e:256 ^ k=2 ^ (8*k):=by rw[show(256:Nat)=2 ^ 8 from rfl,←Nat.pow_mul]
 rw[e]at h⊢;have:=Nat.shiftLeft_add_eq_or_of_lt h c;rw[Nat.shiftLeft_eq]at this;rw[Nat.or_comm,←this,Nat.add_comm]
theorem An (s:LU_)(k:Nat)(h:k<s.length)(hk:k<8):bits .or .u64 ((val (s.take k):Nat):Int) (((s[k].toNat*256 ^ k:Nat)):Int)=((val (s.take (k+1)):Nat):Int):=by
 have hv:=pH (s.take k);rw[DU,Nat.min_eq_left (by omega)]at hv;have hp:256 ^ k≤256 ^ 7:=Nat.pow_le_pow_right (by decide) (by omega);have hc:=s[k].toNat_lt;have hm:s[k].toNat*256 ^ k≤255*256 ^ 7:=Nat.mul_le_mul (by omega) hp;have h7:(256:Nat) ^ 7=72057594037927936:=rfl;rw[u64_or_nat _ _ (by omega) (by omega),Bw _ _ _ hv,qF s k h]
theorem zW (z:Int):IntKind.u64.wrap z=z%(18446744073709551616:Int):=by
 simp[IntKind.wrap,IntKind.bits,IntKind.signed]
theorem CW (c k:Nat)(hc:c<256)(hk:k<8):IntKind.u64.wrap ((c:Int)*2 ^ (8*k))=((c*256 ^ k:Nat):Int):=by
 have hp:256 ^ k≤256 ^ 7:=Nat.pow_le_pow_right (by decide) (by omega);have hm:c*256 ^ k≤255*256 ^ 7:=Nat.mul_le_mul (by omega) hp;have h7:(256:Nat) ^ 7=72057594037927936:=rfl
 have e:(c:Int)*2 ^ (8*k)=((c*256 ^ k:Nat):Int):=by
  rw[Int.natCast_mul,show(256:Nat) ^ k=2 ^ (8*k) by rw[show(256:Nat)=2 ^ 8 from rfl,←Nat.pow_mul]]
  norm_cast
 rw[e,zW];exact Int.emod_eq_of_lt (Int.natCast_nonneg _) (Int.ofNat_lt.2 (show c*256 ^ k<18446744073709551616 by omega))
theorem AW (key:LU_)(n b:Nat)(w:World)(hb:Blk w b 3 [.int .i64 (n:Int)])(h1:1≤n)(h2:n≤16)(hl:key.length≤70368744177664):Calls Tryz.prog 157 #[.string (bs key),.pointer (some ⟨b,0,none⟩)] w fun e w'=>e=.returned (.int .i64 ((partF key n:Nat):Int))∧Bw_ w w':=by
 have HB:=zH hb;clear hb;go_enter Tryz.func157,Tryz.ntmps157;go_wp2_with fail;refine(vj key w hl).mono ?_;rintro e w1 ⟨rfl,hB1⟩;have c1:=(HB.o.below hB1).cell (k:=0) rfl;have HB1:=zH hB1;have HLn:=zH (gm key);have HP:=zH (show partF key n=val ((fJ key).take 8)%n from rfl);obtain⟨s,hs⟩:=ex_ (fJ key);rw[←hs]at HLn HP⊢;clear hB1 hs;go_wp2
 go_loop [5,9] (fun v t=>∃ k:Nat,k≤8∧t=.int .i64 (k:Int)∧v=.int .u64 ((val (s.take k):Nat):Int)) (fun _ t=>8-(intOf t).toNat)
 case atStart=>exact⟨0,by omega,rfl,rfl⟩
 case round =>
  obtain⟨k,hk,rfl,rfl⟩:=hrel
  by_cases hk8:k<8
  ·have hks:k<s.length:=by have:=HLn.o;omega
   have k0:=nn_ k;have k1:(k:Int)<8:=by omega
   have k2:(k:Int)<(s.length:Int):=by omega
   have hor:=An s k hks hk8;have hlt:=s[k].toNat_lt;generalize val (s.take k)=V0 at *;have hsh:=CW s[k].toNat k (by omega) hk8;have HOR:=zH hor;have HSH:=zH hsh;clear hor hsh;go_wp2;rw[HSH.o,HOR.o];exact⟨⟨k+1,by omega,by go_num,rfl⟩,by simp[intOf];omega⟩
  ·obtain rfl:k=8:=by omega
   have hV:(val (s.take 8):Int)%(n:Int)=((partF key n:Nat):Int):=by rw[HP.o,Int.natCast_emod]
   have hpl:=kz key n h1;generalize val (s.take 8)=V at *;have hm0:0≤(V:Int)%(n:Int):=by omega
   have hm1:(V:Int)%(n:Int)≤16:=by omega
   have HV:=zH hV;clear hV;go_wp2;go_ret;exact⟨by rw[←HV.o];rfl,HB1.o⟩
theorem BJ (n:Int)(w:World):Calls Tryz.prog 111 #[.int .i64 n] w fun e w'=>∃ b,e=.returned (.agg #[.func (.func 157) #[] #[.pointer (some ⟨b,0,none⟩)]])∧Blk w' b 3 [.int .i64 n]∧w.heap.size≤b∧Bw_ w w':=by
 have hmf:∀ (fn:Fn) (first cap:Array Value) (w:World),(Instr.makeFunc fn first cap).run Tryz.prog w=.ok (.func fn first cap) w:=fun _ _ _ _=>rfl;obtain⟨B,hB⟩:=ex_ (Value.func (.func 157) #[] #[.pointer (some ⟨w.heap.size,0,none⟩)])
 have hz:Blk ((w.alloc (.cells #[.int .i64 n] 3)).alloc (.cells #[.nilFunc] 184)) (w.heap.size+1) 184 [.nilFunc]:=by
  have:=Blk.new (w.alloc (.cells #[.int .i64 n] 3)) [.nilFunc] 184;rw[show(w.alloc (.cells #[.int .i64 n] 3)).heap.size=w.heap.size+1 by simp]at this;exact this
 have HZ:=zH hz;have HI:=zH (show(Tryz.prog.info? 184).map (·.size)=some 1 by kernel_rfl);clear hz;clear hB B;go_enter Tryz.func111,Tryz.ntmps111;go_wp2_with (go_loud (refine fG (w.heap.size+1) [.nilFunc] [.func (.func 157) #[] #[.pointer (some ⟨w.heap.size,0,none⟩)]] HZ.o rfl _ _ _ rfl rfl rfl HI.o rfl (by simp[Value.oneCell']) ?_));refine bodyPost_ret (jT rfl rfl (HZ.o.row [.func (.func 157) #[] #[.pointer (some ⟨w.heap.size,0,none⟩)]]) _ Tryz.underlying184 rfl HI.o) rfl ?_;refine⟨w.heap.size,rfl,?_,DC _,?_⟩
 ·have:=((Blk.new w [.int .i64 n] 3).below (af _ (.cells #[.nilFunc] 184)))
  exact this.other (by omega) _
 ·exact cF (bt (af _ _) (af _ _)) (by omega) _
theorem yN (key:LU_)(n:Nat)(w:World)(h1:1≤n)(h2:n≤16)(hl:key.length≤1099511627776):Calls Tryz.prog 112 #[.string (bs key),.int .i64 (n:Int)] w fun e w'=>e=.returned (.int .i64 ((partF key n:Nat):Int))∧Bw_ w w':=by
 have hV:(val ((fJ key).take 8):Int)%(n:Int)=((partF key n:Nat):Int):=by rw[partF,Int.natCast_emod]
 have hpl:=kz key n h1;have HLn:=zH (gm key);obtain⟨s,hs⟩:=ex_ (fJ key);have HSD:=zH hs;rw[←hs]at hV HLn;have HV:=zH hV;clear hV hs;go_enter Tryz.func112,Tryz.ntmps112;go_wp2_with fail;refine(rq key w hl).mono ?_;rw[←HSD.o];rintro e w1 ⟨rfl,hB1⟩;have HB1:=zH hB1;have h8:(8:Int)≤(s.length:Int):=by have:=HLn.o;omega
 clear hB1;go_wp2_with fail;refine(vQ _ _ (by rw[bA];simp;omega)).mono ?_;rw[it];rintro e w2 ⟨rfl,rfl⟩;generalize val (s.take 8)=V at *;have hm0:0≤(V:Int)%(n:Int):=by have:=HV.o;omega
 have hm1:(V:Int)%(n:Int)≤16:=by have:=HV.o;omega
 clear h8;go_wp2;go_ret;exact⟨by rw[←HV.o];rfl,HB1.o⟩
def splitP (l:List PR)(n:Nat):List (List PR):=(List.range n).map fun i=>l.filter fun p=>decide (partF p.1 n=i)
theorem dp (l:List PR)(n:Nat):(splitP l n).length=n:=by simp[splitP]
theorem g7 (l:List PR)(n i:Nat)(h:i<n):(splitP l n)[i]'(by rw[dp];exact h)=l.filter fun p=>decide (partF p.1 n=i):=by simp[splitP]
theorem lz (l:List PR)(p:PR)(n k:Nat)(hk:partF p.1 n=k)(h:k<n):splitP (l++[p]) n=(splitP l n).set k ((splitP l n)[k]'(by rw[dp];exact h)++[p]):=by
 subst hk;apply List.ext_getElem
 ·simp[splitP]
 ·intro i h1 h2
  have hi:i<n:=by simpa[splitP] using h1
  rw[List.getElem_set];simp only[g7 _ _ _ hi,g7 _ _ _ h,List.filter_append]
  by_cases hik:partF p.1 n=i
  ·subst hik
   simp[splitP]
  ·simp[splitP,hik]
def OR (w:World)(bZ D:Nat)(rows:List (List PR)):Prop:=∃ vs:List Value,vs.length=rows.length∧D<w.heap.size∧Blk w D 29 vs ∧
 (∀ i (h:i<vs.length) (h':i<rows.length),OP w bZ vs[i] rows[i]∧vs[i].ownBlock≠some D)∧∀ i j g (h:i<vs.length) (h':j<vs.length),i≠j→vs[i].ownBlock=some g→vs[j].ownBlock≠some g
theorem OR.below {w w':World}{bZ D:Nat}{rows:List (List PR)}(h:OR w bZ D rows)(hB:Below w.heap.size w w'):OR w' bZ D rows:=by
 obtain⟨vs,h1,h2,h3,h4,h5⟩:=h;exact⟨vs,h1,Dv h2 hB.size,h3.below hB,fun i h h'=>⟨(h4 i h h').1.below hB,(h4 i h h').2⟩,h5⟩
theorem OR.rr {w:World}{bZ D:Nat}{rows:List (List PR)}(h:OR w bZ D rows):RR w (.slice (some ⟨D,0,none⟩) rows.length rows.length) rows:=by
 obtain⟨vs,h1,h2,h3,h4,h5⟩:=h;refine⟨_,_,rfl,DC _,(by simp),fun k hk=>?_⟩;exact⟨D,0,vs[k],rfl,by rw[DE];exact h3.cell (by simp),(h4 k (by omega) hk).1.reads⟩
theorem OR.empty (w:World)(bZ n:Nat):OR (w.alloc (.cells (List.replicate n (.slice none 0 0)).toArray 29)) bZ w.heap.size (List.replicate n []):=by
 refine⟨List.replicate n (.slice none 0 0),by simp,by simp,Blk.new _ _ _,fun i h h'=>?_,fun i j g h h' hij hg=>?_⟩
 ·simp only[List.getElem_replicate]
  exact⟨OP.nil _ _,by simp[Value.ownBlock]⟩
 ·simp[Value.ownBlock]at hg
theorem CO {ops:Array Oper}{rest:List Oper}{o:Oper}{a:Act}{Q:Exit→Act→World→Prop}(w:World)(hgd:o.guard=none)(s x:Operand)(t:TypeId)(ho:o.op=.call { callee:=.builtin .append,args:=#[s,x],argTypes:=#[t,t] })(ht:Tryz.prog.underlying t=some (.slice 70))(bZ:Nat)(v:Value)(R:List PR)(p:PR)(vx:Value)(hown:OP w bZ v R)(hr:aJ w vx 1 (aU [p]))(hs:a.eval s=v)(hx:a.eval x=vx)(hbytes:(R.length+1)*32≤140737488355328)(hbase:bZ≤w.heap.size)(h:∀ g cap w',OP w' bZ (.slice (some ⟨g,0,none⟩) (R.length+1) cap) (R++[p])→(∀ j,j<w.heap.size→v.ownBlock≠some j→w'.heap[j]?=w.heap[j]?)→(v.ownBlock=some g∨w.heap.size≤g)→Below bZ w w'→wpList Tryz.prog ops Q rest (a.put o.dst (.slice (some ⟨g,0,none⟩) (R.length+1) cap)) w'):wpList Tryz.prog ops Q (o::rest) a w:=by
 obtain⟨i,hi,hz,hi1,hi2⟩:=info_parts fT;obtain⟨ax,cap,rfl,hnone,hc⟩:=hr
 cases ax with
 | none=>exact absurd (hnone rfl).1 (by decide)
 | some ad =>
  refine wpList_append_lies w hgd s x t ho bZ 70 i (.agg #[.string ByteArray.empty,.string ByteArray.empty]) 2 32 ht hi hz hi1 hi2 rfl (by decide) v R.length (aU R) hs hown ad 1 cap (aU [p]) hx rfl ?_ (jL [p]) (by decide) (by unfold maxLen;omega) hbytes hbase _ rfl ?_
  ·exact Gn
  ·intro g cap' w' h2 h3 h4 h5
   refine h g cap' w' ?_ (fun j hj hne=>h3.block j hj (fun e=>hne e.symm)) ?_ ((DF bZ w).grown h3 hbase ?_)
   ·unfold OP
    rw[dt,DL];exact h2
   ·rcases h4 with h4|h4
    ·exact .inl h4
    ·exact .inr (by omega)
   ·intro k hk
    exact(hown.lt k hk).1
theorem nY {ops:Array Oper}{o:Oper}{a:Act}{K:Act→World→Prop}{Q:Exit→Act→World→Prop}{E:Prop}(w:World)(p:PR)(hgd:o.guard=none)(s x:Operand)(t:TypeId)(ho:o.op=.call { callee:=.builtin .append,args:=#[s,x],argTypes:=#[t,t] })(ht:Tryz.prog.underlying t=some (.slice 70))(bZ:Nat)(v:Value)(R:List PR)(hs:a.eval s=v)(hown:OP w bZ v R)(c:Nat)(hx:a.eval x=.slice (some ⟨w.heap.size,0,none⟩) 1 c)(hbytes:(R.length+1)*32≤140737488355328)(hbase:bZ≤w.heap.size)(h:∀ g cap w',OP w' bZ (.slice (some ⟨g,0,none⟩) (R.length+1) cap) (R++[p])→Hid (∀ j,j<w.heap.size→v.ownBlock≠some j→w'.heap[j]?=w.heap[j]?)→Hid (v.ownBlock=some g∨w.heap.size≤g)→Below bZ w w'→K (a.put o.dst (.slice (some ⟨g,0,none⟩) (R.length+1) cap)) w'):if Region.wanted o (yielded ops a.tmps)=true then Oper.wp Tryz.prog o a (w.alloc (.cells #[.string (bs p.1),.string (bs p.2)] 70)) K Q else E:=by
 obtain⟨i,hi,hz,hi1,hi2⟩:=info_parts fT;refine step_append_lies _ hgd s x t ho bZ 70 i (.agg #[.string ByteArray.empty,.string ByteArray.empty]) 2 32 ht hi hz hi1 hi2 rfl (by decide) v R.length (aU R) hs (bD hown (af w _)) ⟨w.heap.size,0,none⟩ 1 c (aU [p]) hx rfl ?_ (jL [p]) (by decide) (by unfold maxLen;omega) hbytes (by simp;omega) _ rfl ?_
 ·intro j u hj
  have:j<2:=by
   rcases Nat.lt_or_ge j 2 with h|h
   ·exact h
   ·simp[List.getElem?_eq_none (show(aU [p]).length≤j from h)]at hj
  rw[Addr.add_lit,DE,World.cell?_alloc_new];simpa[aU] using hj
 ·intro g cap w' h2 h3 h4 h5
  refine h g cap w' ?_ (fun j hj hne=>?_) ?_ (((DF bZ w).alloc hbase _).grown h3 (by simp;omega) ?_)
  ·unfold OP
   rw[dt,DL];exact h2
  ·rw[h3.block j (by simp;omega) (fun e=>hne e.symm)]
   first|exact heap_alloc_old w _ hj|exact heap_alloc_old w _ _ hj
  ·rcases h4 with h4|h4
   ·exact .inl h4
   ·exact .inr (by rw[h4];simp)
  ·intro k hk
   exact(hown.lt k hk).1
theorem OR.step {w w1 w2:World}{bZ D g cap k:Nat}{rows:List (List PR)}{vs:List Value}{p:PR}(h1:vs.length=rows.length)(h3:Blk w D 29 vs)(h4:∀ i (h:i<vs.length) (h':i<rows.length),OP w bZ vs[i] rows[i]∧vs[i].ownBlock≠some D)(h5:∀ i j g (h:i<vs.length) (h':j<vs.length),i≠j→vs[i].ownBlock=some g→vs[j].ownBlock≠some g)(hk:k<rows.length)(hB:Below w.heap.size w w1)(hown:OP w2 bZ (.slice (some ⟨g,0,none⟩) (rows[k].length+1) cap) (rows[k]++[p]))(hkeep:∀ j,j<w1.heap.size→(vs[k]'(by omega)).ownBlock≠some j→w2.heap[j]?=w1.heap[j]?)(hg:(vs[k]'(by omega)).ownBlock=some g∨w1.heap.size≤g)(hsz:w1.heap.size≤w2.heap.size):OR (w2.setCell ⟨D,k,none⟩ (.slice (some ⟨g,0,none⟩) (rows[k].length+1) cap)) bZ D (rows.set k (rows[k]++[p])):=by
 have hkv:k<vs.length:=by omega
 have hD1:D<w1.heap.size:=Dv h3.lt hB.size;have hDk:vs[k].ownBlock≠some D:=(h4 k hkv hk).2
 have hgD:g≠D:=by
  rcases hg with h|h
  ·rintro rfl;exact hDk h
  ·omega
 have hBlk2:Blk w2 D 29 vs:=by
  unfold Blk;rw[hkeep D hD1 hDk];exact h3.below hB
 have hset:∀ (v:Value) (l:List PR),OP w2 bZ v l→v.ownBlock≠some D→OP (w2.setCell ⟨D,k,none⟩ (.slice (some ⟨g,0,none⟩) (rows[k].length+1) cap)) bZ v l:=fun v l ho hne=>by
  obtain⟨e1,e2⟩:=ho;refine⟨e1,?_⟩;rcases e2 with e2|⟨g',cap',cur,hv,hg',hh,r⟩
  ·exact .inl e2
  ·refine .inr ⟨g',cap',cur,hv,hg',?_,r⟩
   rw[heap_setCell_other _ _ _ _ (fun e=>hne (by rw[hv];simp only[Value.ownBlock];first|rw[e]|rw[←e]))];exact hh
 refine⟨vs.set k (.slice (some ⟨g,0,none⟩) (rows[k].length+1) cap),by simp[h1],by simp[World.setCell];omega,hBlk2.set k _,fun i h h'=>?_,fun i j g' h h' hij hgi=>?_⟩
 ·have hiv:i<vs.length:=by simpa using h
  have hir:i<rows.length:=by simpa using h'
  simp only[List.getElem_set]
  by_cases hik:k=i
  ·subst hik
   simp only[if_pos];exact⟨hset _ _ hown (by simpa[Value.ownBlock] using hgD),by simpa[Value.ownBlock] using hgD⟩
  ·simp only[if_neg hik]
   obtain⟨ho,hne⟩:=h4 i hiv hir;refine⟨hset _ _ ?_ hne,hne⟩;have ho1:=ho.below hB;obtain⟨e1,e2⟩:=id ho1;refine⟨e1,?_⟩;rcases e2 with e2|⟨g',cap',cur,hv,hg',hh,r⟩
   ·exact .inl e2
   ·refine .inr ⟨g',cap',cur,hv,hg',?_,r⟩
    rw[hkeep g' (Array.getElem?_eq_some_iff.1 hh).1 (fun e=>h5 k i g' hkv hiv hik e (by rw[hv];rfl))];exact hh
 ·have hiv:i<vs.length:=by simpa using h
  have hjv:j<vs.length:=by simpa using h'
  have hold:∀ i (hiv:i<vs.length) g',vs[i].ownBlock=some g'→g'<w1.heap.size:=fun i hiv g' e=>by
   obtain⟨_,e2⟩:=(h4 i hiv (by omega)).1;rcases e2 with ⟨e2,_⟩|⟨g2,cap',cur,hv,_,hh,_⟩
   ·rw[e2]at e;simp[Value.ownBlock]at e
   ·rw[hv]at e
    simp only[Value.ownBlock,Option.some.injEq]at e;subst e;exact Dv (Array.getElem?_eq_some_iff.1 hh).1 hB.size
  simp only[List.getElem_set]at hgi⊢
  by_cases hik:k=i
  ·subst hik
   simp only[if_pos]at hgi;rw[if_neg hij];simp only[Value.ownBlock,Option.some.injEq]at hgi;subst hgi;intro e;rcases hg with h|h
   ·exact h5 k j g hkv hjv hij h e
   ·have:=hold j hjv g e;omega
  ·rw[if_neg hik]at hgi
   by_cases hjk:k=j
   ·subst hjk
    rw[if_pos rfl];simp only[Value.ownBlock,ne_eq,Option.some.injEq];rintro rfl;rcases hg with h|h
    ·exact h5 k i g hkv hiv hik h hgi
    ·have:=hold i hiv g hgi;omega
   ·rw[if_neg hjk]
    exact h5 i j g' hiv hjv hij hgi
end
