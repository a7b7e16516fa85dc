/- Lemmas. -/
import Derived.Shelf.Strings.BuilderK
import Derived.Shelf.Utf8.RuneCount
import Derived.Shelf.Strconv.Itoa4
import Derived.Shelf.Strconv.ErrVarParseInt
import Derived.Shelf.Strings.Shaped
import Derived.Shelf.Strings.SplitShaped
import Derived.Shelf.Unicode.Decode
import Derived.Shelf.Strings.RuneCount
import Derived.Shelf.Unicode.DecodeAny
import Derived.Shelf.SortM.Plain
import Derived.Shelf.SortM.SortNone
import Derived.Test.YtfjpghgdebpliaaGreatDoorProg
import Derived.Deep.WholeRow
import Derived.Deep.MidRow
import Derived.Test.YtfjpghgdebpliaaGreatDoorContractPlaysK1
set_option linter.unusedSimpArgs false
set_option linter.unusedVariables false
set_option maxRecDepth 100000
set_option maxHeartbeats 16000000
namespace Go.Proofs
open Go.Proofs.Tryz
open Go.Shelf
def IU:Go.Shelf.Ren:=⟨fun|169=>60|n=>n,fun|70=>113|9=>9|0=>0|72=>116|37=>114|127=>165|3=>3|5=>5|n=>n,fun|n=>n⟩
theorem l_ {p:Prop} (h:p:=by constructor<;>(try first|kernel_rfl|(intro w;kernel_rfl))<;>constructor<;>(try first|kernel_rfl|(intro w;kernel_rfl))<;>constructor<;>first|kernel_rfl|(intro w;kernel_rfl)):p:=h
theorem Tryz.lays169:Go.Proofs.Lays.n169 prog IU:=l_
theorem IW:Builder.Extra prog IU:={
 sizeBuilder:=by kernel_rfl
 liesBuilder:=by kernel_rfl
 t5:=underlying5
 a5:=isAgg5
 z5:=sizeOf5
 v5:=zeroValue5
 infoByte:=by kernel_rfl
 cellsByte:=by kernel_rfl
 sizeByte:=by kernel_rfl
 neB5:=by decide }
open Go.RowKit in
theorem Tryz.Builder_String_any (B b:Nat)(l:List UInt8)(w:World)(h:Lib.IsBuilder 116 5 B b (Lib.byteCells l) w)(aF:B≤w.heap.size):Calls prog 60 #[.pointer (some ⟨b,0,none⟩)] w fun e w'=>e=.returned (.string ⟨l.toArray⟩)∧Below B w w':=Any.Builder_String_any Tryz.lays169 IW B b l w h aF
def IS:Go.Shelf.Ren:=⟨fun|165=>193|240=>90|241=>206|276=>127|277=>211|n=>n,fun|70=>113|3=>3|0=>0|4=>4|9=>9|20=>20|72=>116|37=>114|164=>206|5=>5|n=>n,fun|n=>n⟩
theorem Tryz.lays165:Go.Proofs.Lays.n165 prog IS:=l_
theorem IX:Builder.Extra prog IS:={
 sizeBuilder:=by kernel_rfl
 liesBuilder:=by kernel_rfl
 t5:=underlying5
 a5:=isAgg5
 z5:=sizeOf5
 v5:=zeroValue5
 infoByte:=by kernel_rfl
 cellsByte:=by kernel_rfl
 sizeByte:=by kernel_rfl
 neB5:=by decide }
open Go.RowKit in
theorem Tryz.Builder_Grow_fresh (B b n:Nat)(w:World)(hB:B≤b)(u:w.heap[b]?=some (.cells #[.pointer none,.slice none 0 0] 116 (0,0)))(aF:B≤w.heap.size)(hn:n≤281474976710656):Calls prog 193 #[.pointer (some ⟨b,0,none⟩),.int .i64 n] w fun e w'=>e=.returned (.tuple #[])∧(Lib.BuilderAt 116 5 B b (.pointer (some ⟨b,0,none⟩)) [] w'∧Below B w w'):=Any.Builder_Grow_fresh Tryz.lays165 IX B b n w hB u aF hn
def Tryz.laysM246_ren:Go.Shelf.Ren:=⟨fun|246=>209|283=>216|284=>217|285=>218|286=>219|129=>125|317=>224|318=>225|319=>226|320=>227|337=>233|338=>234|n=>n,fun|2=>2|3=>3|9=>9|4=>4|171=>324|0=>0|53=>118|37=>114|5=>5|173=>326|212=>332|51=>167|20=>20|213=>333|46=>155|232=>345|233=>346|n=>n,fun|17=>5|18=>8|19=>9|n=>n⟩
def I3:Go.Shelf.Ren:=⟨fun|173=>199|246=>209|283=>216|284=>217|285=>218|286=>219|129=>125|317=>224|318=>225|319=>226|320=>227|337=>233|338=>234|n=>n,fun|2=>2|3=>3|9=>9|4=>4|171=>324|0=>0|53=>118|37=>114|5=>5|173=>326|212=>332|51=>167|20=>20|213=>333|46=>155|232=>345|233=>346|n=>n,fun|17=>5|18=>8|19=>9|n=>n⟩
theorem Tryz.laysM173:Go.Proofs.LaysM.n173 prog I3:=l_
open Go.RowKit Go.Sort Go.Lib in
theorem Tryz.strconv_FormatInt_10 (n : Int)(h0 : -9223372036854775808 ≤ n)(h1 : n ≤ 9223372036854775807)(w : World)(b : Lib.TabIs prog w "internal/strconv.uint64pow10" .u64 Lib.pow10Tab):Calls prog 199 #[.int .i64 n,.int .i64 10] w fun e w'=>e=.returned (.string ⟨(Lib.itoa n).toArray⟩)∧∃ k d,w'=grow (w.drewN k) d:=Any.strconv_FormatInt_10 Tryz.laysM173 n h0 h1 w b
def Tryz.laysC245_ren:Go.Shelf.Ren:=⟨fun|245=>221|279=>229|280=>230|281=>231|282=>232|316=>237|171=>239|205=>238|243=>240|246=>209|283=>216|284=>217|285=>218|286=>219|129=>125|317=>224|318=>225|319=>226|320=>227|337=>233|338=>234|n=>n,fun|9=>9|3=>3|75=>120|167=>335|4=>4|168=>338|210=>343|37=>114|0=>0|127=>165|145=>349|143=>347|2=>2|171=>324|53=>118|5=>5|173=>326|212=>332|51=>167|20=>20|213=>333|46=>155|232=>345|233=>346|80=>125|n=>n,fun|15=>6|16=>7|17=>5|18=>8|19=>9|n=>n⟩
def I4:Go.Shelf.Ren:=⟨fun|174=>210|247=>220|245=>221|287=>228|279=>229|280=>230|281=>231|282=>232|321=>235|322=>236|316=>237|171=>239|205=>238|243=>240|246=>209|283=>216|284=>217|285=>218|286=>219|129=>125|317=>224|318=>225|319=>226|320=>227|337=>233|338=>234|n=>n,fun|9=>9|3=>3|2=>2|75=>120|85=>316|4=>4|167=>335|5=>5|53=>118|175=>336|46=>155|168=>338|37=>114|0=>0|210=>343|21=>21|127=>165|145=>349|143=>347|171=>324|173=>326|212=>332|51=>167|20=>20|213=>333|232=>345|233=>346|80=>125|n=>n,fun|15=>6|16=>7|17=>5|18=>8|19=>9|n=>n⟩
theorem IR:Go.Proofs.LaysC.n174 prog I4:=l_
open Go.RowKit in
theorem Tryz.strconv_ParseInt_10_at64_ok (s:ByteArray)(k:s.size≤9223372036854775806)(v:Int)(h:Lib.parseIntB 64 s.data.toList=.ok v)(w:World):Calls prog 210 #[.string s,.int .i64 10,.int .i64 64] w fun e w'=>e=.returned (.tuple #[.int .i64 v,.nilIface])∧(w'=w∨∃ t,w'=Lib.bytesWorld w 5 t):=Any.strconv_ParseInt_10_at64_ok IR s k v h w
open Go.RowKit in
theorem Tryz.strconv_ParseInt_10_at64_syntax (s:ByteArray)(b:s.size≤281474976710656)(h:Lib.parseIntB 64 s.data.toList=Lib.NumEnd.syntax)(ev:Value)(w:World)(hv:w.cell? ⟨6,0,none⟩=some ev)(aV:ev=.nilIface∨∃ c pe,ev=.iface c pe):Calls prog 210 #[.string s,.int .i64 10,.int .i64 64] w fun e w'=>∃ N,e=.returned (.tuple #[.int .i64 (0),.iface 338 (.pointer (some ⟨N,0,none⟩))])∧w.heap.size≤N∧w'.heap[N]?=some (.cells #[.string ⟨#[80,97,114,115,101,73,110,116]⟩,.string s,ev] 343 (0,0))∧Below w.heap.size w w':=Any.strconv_ParseInt_10_at64_syntax IR s b h ev w hv aV
open Go.RowKit in
theorem Tryz.strconv_ParseInt_10_at64_range (s:ByteArray)(b:s.size≤281474976710656)(h:Lib.parseIntB 64 s.data.toList=.range)(ev:Value)(w:World)(hv:w.cell? ⟨7,0,none⟩=some ev)(aV:ev=.nilIface∨∃ c pe,ev=.iface c pe):Calls prog 210 #[.string s,.int .i64 10,.int .i64 64] w fun e w'=>∃ N,e=.returned (.tuple #[.int .i64 (Lib.intSat 64 s.data.toList),.iface 338 (.pointer (some ⟨N,0,none⟩))])∧w.heap.size≤N∧w'.heap[N]?=some (.cells #[.string ⟨#[80,97,114,115,101,73,110,116]⟩,.string s,ev] 343 (0,0))∧Below w.heap.size w w':=Any.strconv_ParseInt_10_at64_range IR s b h ev w hv aV
def Tryz.lays219_ren:Go.Shelf.Ren:=⟨fun|219=>207|217=>212|225=>213|224=>214|267=>215|266=>222|314=>223|n=>n,fun|9=>9|3=>3|4=>4|5=>5|46=>155|146=>329|51=>167|n=>n,fun|1=>2|n=>n⟩
def Tryz.lays143_ren:Go.Shelf.Ren:=⟨fun|143=>194|219=>207|217=>212|225=>213|224=>214|267=>215|266=>222|314=>223|n=>n,fun|9=>9|3=>3|4=>4|5=>5|46=>155|146=>329|51=>167|n=>n,fun|1=>2|n=>n⟩
theorem Tryz.lays143:Go.Proofs.Lays.n143 prog Tryz.lays143_ren:=l_
open Go.RowKit Go.Lib in
theorem Tryz.strings_Index_one (s:ByteArray)(c:UInt8)(w:World):Calls prog 194 #[.string s,.string ⟨#[c]⟩] w fun e w'=>e=.returned (.int .i64 (Lib.indexByte s.data.toList c))∧w'=w:=Any.strings_Index_one Tryz.lays143 s c w
def Tryz.lays145_ren:Go.Shelf.Ren:=⟨fun|145=>290|220=>291|219=>207|217=>212|225=>213|224=>214|267=>215|266=>222|314=>223|n=>n,fun|9=>9|4=>4|59=>372|3=>3|5=>5|46=>155|146=>329|51=>167|n=>n,fun|1=>2|n=>n⟩
theorem Tryz.lays145:Go.Proofs.Lays.n145 prog Tryz.lays145_ren:=l_
open Go.RowKit Go.Lib in
theorem Tryz.strings_Cut (s b:ByteArray)(m:Int)(w:World)(hs:s.size<4294967281)(hm:w.cell? ⟨2,0,none⟩=some (.int .i64 m)):Calls prog 290 #[.string s,.string b] w fun e w'=>e=.returned (.tuple #[.string ⟨(Lib.cut s.data.toList b.data.toList).1.toArray⟩,.string ⟨(Lib.cut s.data.toList b.data.toList).2.1.toArray⟩,.bool (Lib.cut s.data.toList b.data.toList).2.2])∧∃ n,w'=w.drewN n:=Any.strings_Cut Tryz.lays145 s b m w hs hm
def Tryz.lays138_ren:Go.Shelf.Ren:=⟨fun|138=>192|195=>204|218=>205|143=>194|219=>207|217=>212|225=>213|224=>214|267=>215|266=>222|314=>223|n=>n,fun|9=>9|3=>3|4=>4|5=>5|0=>0|46=>155|146=>329|51=>167|n=>n,fun|1=>2|n=>n⟩
theorem Tryz.lays138:Go.Proofs.Lays.n138 prog Tryz.lays138_ren:=l_
open Go.RowKit Go.Lib in
theorem Tryz.strings_Count_one (s:ByteArray)(c:UInt8)(w:World):Calls prog 192 #[.string s,.string ⟨#[c]⟩] w fun e w'=>e=.returned (.int .i64 (Lib.countByte s.data.toList c))∧w'=w:=Any.strings_Count_one Tryz.lays138 s c w
end Go.Proofs
namespace Go.Proofs.YtfjpghgdebpliaaGreatDoor
open Go.Proofs.Tryz
open Go.RowKit Oct
theorem sizeBuilder:(Tryz.prog.info? 116).map (·.size)=some 2:=q_
theorem liesBuilder:liesAt prog prog.depth 116 (2 / prog.cellsOf 116) 0 116 1=true:=q_
theorem iD (b:Nat)(w:Z)(h0:w.cell? ⟨b,0,none⟩=some (p_ b)):C_ 90 #[p_ b] w fun e w'=>e=.returned (.tuple #[])∧w'=w:=by
 obtain⟨j,hj,_⟩:=Option.map_eq_some_iff.1 sizeBuilder;go_enter func90,ntmps90;go_wp2;rw[Lib.run_neq_ptr_same w _ underlying113 hj];go_wp2;go_end0;exact⟨rfl,rfl⟩
theorem gQ (b:Nat)(w:Z)(h0:w.cell? ⟨b,0,none⟩=some (.pointer none))(ac:w.shape? b=some (116,2))(B:w.frozen? ⟨b,0,none⟩=false):C_ 90 #[p_ b] w fun e w'=>e=.returned (.tuple #[])∧w'=w.setCell ⟨b,0,none⟩ (p_ b):=by
 obtain⟨j,hj,f⟩:=Option.map_eq_some_iff.1 sizeBuilder;go_enter func90,ntmps90;go_wp2;rw[Lib.run_to_unsafe w ⟨b,0,none⟩ underlying113 underlying206 hj (by rw[f];decide) ac (Nat.zero_lt_succ 1)];simp only[Result.andThen];rw[Oper.upon_value];go_wp2;rw[run_callFunc_extern func127 q_ q_ q_ (e:=Extern.AbiNoEscape.same) q_];rw[Lib.run_noEscape];simp only[Result.andThen];rw[Oper.upon_value];go_wp2;rw[Lib.run_from_unsafe w ⟨b,0,none⟩ underlying206 underlying113 hj ac liesBuilder];simp only[Result.andThen];rw[Oper.upon_value];go_wp2;go_end0;exact⟨rfl,rfl⟩
theorem rJ (B b:Nat)(bs:LV_)(w:Z)(h:Lib.IsBuilder 116 5 B b bs w):C_ 90 #[p_ b] w fun e w'=>e=.returned (.tuple #[])∧(Lib.BuilderAt 116 5 B b (p_ b) bs w'∧B_ B w w'):=by
 rcases h with h|h
 ·refine(gQ b w h.cell0 h.shape h.frozen0).mono ?_
  rintro e w'⟨rfl,rfl⟩;exact⟨rfl,h.used _,(Ja B w).setCell (p:=⟨b,0,none⟩) h.1 _⟩
 ·refine(iD b w h.cell0).mono ?_
  rintro e w'⟨rfl,rfl⟩;exact⟨rfl,h,Ja B _⟩
theorem Mv {T:Prop} (h:T:=by
 rcases Nat.lt_or_ge b w1.heap.size with h'|h'
 ·exact h'
 ·simp[Array.getElem?_eq_none h']at u
):T:=h
theorem MF {T:Prop} (h:T:=by
 exact Lib.BuilderAt.put (T:=116) (e:=5) hB aY (bs':=bs++Lib.strCells s) (by simpa[Lib.strCells_length] using z) (by decide)
):T:=h
theorem MM {T:Prop} (h:T:=by
 exact(a8.grown I (by have:=a8.size;omega) (fun k hk=>(aw.lt k hk).1)).setCell (p:=⟨b,1,none⟩) hB _
):T:=h
theorem MU {T:Prop} (h:T:=by
 rcases z.2 with ⟨hv,_⟩|⟨g,ah,aH,hv,_⟩
 ·exact⟨_,_,_,hv⟩
 ·exact⟨_,_,_,hv⟩
):T:=h
theorem pk (B b:Nat)(bs:LV_)(s:ByteArray)(w:Z)(h:Lib.IsBuilder 116 5 B b bs w)(ai:bs.length+s.size≤140737488355328)(aF:B≤w.heap.size):C_ 57 #[p_ b,.string s] w fun e w'=>e=.returned (.tuple #[F s.size,.nilIface])∧(Lib.BuilderAt 116 5 B b (p_ b) (bs++Lib.strCells s) w'∧B_ B w w'):=by
 obtain⟨i0,hi,C,ag,ad⟩:=info_parts nV;go_enter func57,ntmps57;go_wp2_with (go_at_call 90;refine(rJ B b bs _ h).mono ?_);rintro e w1⟨rfl,h1,a8⟩;obtain⟨hB,v,u,aw,aI⟩:=h1;have c0:w1.cell? ⟨b,0,none⟩=some (p_ b):=by rw[Lib.cell_of_heap u];rfl
 have c1:w1.cell? ⟨b,1,none⟩=some v:=by rw[Lib.cell_of_heap u];rfl
 go_wp2_with (at_builtin;refine Lib.wpList_append_own_string _ rfl _ _ 114 9 rfl B 5 i0 underlying114 underlying9 hi C ag ad _ _ _ rfl aw s rfl ?c3 ?c4 ?c5 ?_)
 case c3=>unfold maxLen;omega
 case c4=>omega
 case c5=>have:=a8.size;omega
 intro v' w2 z I _
 have aC:b<w1.heap.size:=by
  exact Mv
 have aY:w2.heap[b]?=some (.cells #[p_ b,v] 116 (0,0)):=by
  rw[I.block b aC (fun e=>aI e.symm)];exact u
 have d0:w2.cell? ⟨b,0,none⟩=some (p_ b):=by rw[Lib.cell_of_heap aY];rfl
 have d1:w2.cell? ⟨b,1,none⟩=some v:=by rw[Lib.cell_of_heap aY];rfl
 have f1:w2.frozen? ⟨b,1,none⟩=false:=Lib.frozen_of_heap aY 1
 obtain⟨ao,S,ah,rfl⟩:∃ ao S ah,v'=.slice ao S ah:=by
  exact MU
 go_wp2;go_ret2;refine⟨rfl,?_,?_⟩
 ·exact MF
 ·exact MM
def Bld (B b:Nat)(l:q)(w:Z):Prop:=B≤w.heap.size∧Lib.IsBuilder 116 5 B b (aW l) w
theorem Bld.fresh (w:Z):Bld w.heap.size w.heap.size [] (w.alloc (.cells #[.pointer none,e_] 116)):=⟨by simp,Lib.fresh_isBuilder _ _ w⟩
theorem ou (l:q):Lib.strCells (bs l)=aW l:=by simp[Lib.strCells,aW,bs]
theorem kh {T e:T_}{B b:Nat}{p:V_}{l:LV_}{w w':Z}(h:Lib.BuilderAt T e B b p l w)(hB:Bw_ w w'):Lib.BuilderAt T e B b p l w':=by
 have aC:=h.lt;obtain⟨h1,v,h2,h3,h4⟩:=h;exact⟨h1,v,(hB.block b aC).trans h2,cX h3 hB,h4⟩
theorem Bld.below {B b:Nat}{l:q}{w w':Z}(h:Bld B b l w)(hB:Bw_ w w'):Bld B b l w' :=
 ⟨Jc h.1 hB.size,h.2.imp (fun h=>kh h hB) (fun h=>kh h hB)⟩
theorem dt (B b:Nat)(l m:q)(w:Z)(h:Bld B b l w)(ai:l.length+m.length≤140737488355328):C_ 57 #[p_ b,s_ m] w fun e w'=>e=.returned (.tuple #[F m.length,.nilIface])∧Bld B b (l++m) w'∧B_ B w w':=by
 refine(pk B b (aW l) (bs m) w h.2 (by rw[bq,cB];exact ai) h.1).mono ?_;rintro e w'⟨rfl,h1,h2⟩;refine⟨by rw[cB],⟨Jc h.1 h2.size,.inr ?_⟩,h2⟩;rw[ou]at h1;simpa[aW] using h1
theorem iY (B b:Nat)(l:q)(w:Z)(h:Bld B b l w):C_ 60 #[p_ b] w fun e w'=>e=.returned (s_ l)∧B_ B w w' :=
 Tryz.Builder_String_any B b l w h.2 h.1
def U (x:UInt32):Int:=(x.toNat:Int)
theorem dV (x:UInt32):U x=(x.toNat:Int):=rfl
theorem rL (x:UInt32):x.toNat<4294967296:=x.toNat_lt
@[go_sem] theorem iF (a b:UInt32):bits .xor .u32 (U a) (U b)=U (a ^^^ b):=by
 rw[dV,dV,u32_xor_nat _ _ (rL a) (rL b),dV,UInt32.toNat_xor]
@[go_sem] theorem iX (a b:UInt32):bits .and .u32 (U a) (U b)=U (a &&& b):=by
 rw[dV,dV,u32_and_nat _ _ (rL a) (rL b),dV,UInt32.toNat_and]
@[go_sem] theorem lI (a b:UInt32):bits .or .u32 (U a) (U b)=U (a ||| b):=by
 rw[dV,dV,u32_or_nat _ _ (rL a) (rL b),dV,UInt32.toNat_or]
theorem uE (z:Int):IntKind.u32.wrap z=z%(4294967296:Int):=by
 simp[IntKind.wrap,IntKind.bits,IntKind.signed]
@[go_sem] theorem iG (a b:UInt32):IntKind.u32.wrap (U a+U b)=U (a+b):=by
 rw[uE,dV,dV,dV,UInt32.toNat_add];omega
theorem Ao (x:UInt32)(n:Nat)(h:n≤31):U x / 2 ^ n=U (x >>> UInt32.ofNat n):=by
 rw[dV,dV,UInt32.toNat_shiftRight,UInt32.toNat_ofNat_of_lt' (by show n<4294967296;omega),Nat.mod_eq_of_lt Y,Nat.shiftRight_eq_div_pow]
 norm_cast
theorem xm (x:UInt32)(n:Nat)(h:n≤31):U x*2 ^ n%4294967296=U (x <<< UInt32.ofNat n):=by
 rw[dV,dV,UInt32.toNat_shiftLeft,UInt32.toNat_ofNat_of_lt' (by show n<4294967296;omega),Nat.mod_eq_of_lt (show n<32 by omega),Nat.shiftLeft_eq];have e:(4294967296:Int)=((2 ^ 32:Nat):Int):=rfl;have e2:(2:Int) ^ n=((2 ^ n:Nat):Int):=by norm_cast
 rw[e,e2,←Int.natCast_mul,←Int.natCast_emod]
@[go_sem] theorem eE (x:UInt32):U x*(16777216:Int)%(4294967296:Int)=U (x <<< 24):=xm x 24 Y
@[go_sem] theorem eF (x:UInt32):U x*(65536:Int)%(4294967296:Int)=U (x <<< 16):=xm x 16 Y
@[go_sem] theorem fQ (x:UInt32):U x*(256:Int)%(4294967296:Int)=U (x <<< 8):=xm x 8 Y
@[go_sem] theorem fP (x:UInt32):U x / (8:Int)=U (x >>> 3):=Ao x 3 Y
@[go_sem] theorem eD (x:UInt32):U x / (1024:Int)=U (x >>> 10):=Ao x 10 Y
@[go_sem] theorem fV (a b:UInt32):(U a+U b)%(4294967296:Int)=U (a+b):=by rw[←uE,iG]
@[go_sem] theorem fU (a b c:UInt32):(U a+U b+U c)%(4294967296:Int)=U (a+b+c):=by
 simp only[dV,UInt32.toNat_add];omega
@[go_sem] theorem fT (a b c d:UInt32):(U a+U b+U c+U d)%(4294967296:Int)=U (a+b+c+d):=by
 simp only[dV,UInt32.toNat_add];omega
@[go_sem] theorem fS (a b c d e:UInt32):(U a+U b+U c+U d+U e)%(4294967296:Int)=U (a+b+c+d+e):=by
 simp only[dV,UInt32.toNat_add];omega
@[go_sem] theorem fR (c:U8_):(c.toNat:Int)%(4294967296:Int)=U c.toUInt32:=by
 have:=c.toNat_lt;rw[dV,UInt8.toNat_toUInt32];omega
def aB (l:LW_):LV_:=l.map fun x=>.int .u32 (U x)
theorem aI (l:LW_):(aB l).length=l.length:=by simp[aB]
theorem rU (l:LW_)(k:Nat)(h:k<l.length):(aB l)[k]?=some (.int .u32 (U l[k])):=by simp[aB,h]
theorem ie (l:LW_)(k:Nat)(x:UInt32):(aB l).set k (.int .u32 (U x))=aB (l.set k x):=by simp[aB,List.map_set]
theorem fZ (l:LW_):(aB l).toArray.all (·.oneCell')=true:=by
 rw[List.all_toArray,List.all_eq_true];intro v hv;simp only[aB,List.mem_map]at hv;obtain⟨x,_,rfl⟩:=hv;rfl
def Blk (w:Z)(b:Nat)(t:T_)(cs:LV_):Prop:=w.heap[b]?=some (.cells cs.toArray t (0,0))
theorem Blk.lt {w:Z}{b:Nat}{t:T_}{cs:LV_}(h:Blk w b t cs):b<w.heap.size:=by
 rcases Nat.lt_or_ge b w.heap.size with hn|hn
 ·exact hn
 ·simp[Blk,Array.getElem?_eq_none hn]at h
theorem Blk.cell {w:Z}{b:Nat}{t:T_}{cs:LV_}(h:Blk w b t cs){k:Nat}{v:V_}(hv:cs[k]?=some v):w.cell? ⟨b,k,none⟩=some v:=by
 rw[cell_of_row w b k _ t _ h];simpa using hv
theorem Blk.c {w:Z}{b:Nat}{t:T_}{cs:LV_}(h:Blk w b t cs)(k:Nat){v:V_}(hv:cs[k]?=some v:=by exact rfl):w.cell? ⟨b,k,none⟩=some v:=h.cell (k:=k) hv
theorem Blk.free {w:Z}{b:Nat}{t:T_}{cs:LV_}(h:Blk w b t cs){k:Nat}(hk:k<cs.length):w.frozen? ⟨b,k,none⟩=false:=by
 unfold Blk at h;simp[World.frozen?,h]
theorem Blk.f {w:Z}{b:Nat}{t:T_}{cs:LV_}(h:Blk w b t cs)(k:Nat)(hk:k<cs.length:=by first|decide|simp):w.frozen? ⟨b,k,none⟩=false:=h.free (k:=k) hk
theorem Blk.set {w:Z}{b:Nat}{t:T_}{cs:LV_}(h:Blk w b t cs)(k:Nat)(v:V_):Blk (w.setCell ⟨b,k,none⟩ v) b t (cs.set k v):=by
 unfold Blk at h⊢;simp[World.setCell,Array.getElem?_modify,h]
theorem Blk.row {w:Z}{b:Nat}{t:T_}{cs:LV_}(h:Blk w b t cs)(g:LV_):Blk (w.setRow b g.toArray) b t g:=by
 unfold Blk at h⊢;simp[World.setRow,Array.getElem?_modify,h]
theorem Blk.below {w w':Z}{b:Nat}{t:T_}{cs:LV_}(h:Blk w b t cs)(hB:Bw_ w w'):Blk w' b t cs:=by
 unfold Blk;rw[hB.block b h.lt];exact h
theorem Blk.chg {X:Nat→Prop}{w w':Z}{b:Nat}{t:T_}{cs:LV_}(h:Blk w b t cs)(hB:Chg X w w')(hX:¬X b):Blk w' b t cs:=hB.at h hX
theorem Blk.new (w:Z)(cs:LV_)(t:T_):Blk (w.alloc (.cells cs.toArray t)) w.heap.size t cs:=by
 exact heap_alloc_last w _
theorem iA (w:Z)(b:Nat)(cs:AV_)(k:Nat)(h:k≠b):(w.setRow b cs).heap[k]?=w.heap[k]?:=by
 unfold World.setRow;rw[Array.getElem?_modify,if_neg (fun e=>h e.symm)]
theorem kw (w:Z)(b:Nat)(cs:AV_):(w.setRow b cs).heap.size=w.heap.size:=by simp[World.setRow]
theorem eU {B:Nat}{a w:Z}(h:B_ B a w){b:Nat}(hb:B≤b)(cs:AV_):B_ B a (w.setRow b cs) :=
 ⟨h.os,h.tape,h.output,by rw[kw];exact h.size,fun k hk=>by rw[iA w b cs k Y];exact h.block k hk⟩
theorem qW {X:Nat→Prop}(w:Z)(b:Nat)(cs:AV_)(hX:X b):Chg X w (w.setRow b cs) :=
 ⟨rfl,rfl,rfl,by rw[kw];exact I6 _,fun k _ hn=>iA w b cs k fun e=>hn (e▸hX)⟩
section
variable {P:Program}{aM:Array Oper}{rest:LO_}{op:Oper}{a:Act}{w:Z}{Q:Exit→Act→Z→Prop}
theorem nw (b:Nat)(cs:LV_){t:T_}(h:Blk w b t cs)(d:TypeDesc)(av:op.guard=none)(ty:T_)(x:Operand)(ho:op.op=.load ty x)(hx:a.eval x=p_ b)(hu:P.underlying ty=some d)(hd:(match d with|.struct _|.array _ _=>true|_=>false)=true)(hi:(P.info? ty).map (·.size)=some cs.length)(k:wpList P aM Q rest (a.put op.dst (.agg cs.toArray)) w):wpList P aM Q (op::rest) a w :=
 wpList_plain av fun _ hK=>wp_load_row ty x ho b hx t cs.toArray (0,0) d h hu hd yzm (hK _ _ k)
theorem jw (b:Nat)(cs g:LV_){t:T_}(h:Blk w b t cs)(av:op.guard=none)(ty:T_)(x y:Operand)(ho:op.op=.store ty x y)(hx:a.eval x=p_ b)(hy:a.eval y=.agg g.toArray)(hi:(P.info? ty).map (·.size)=some g.length)(hl:cs.length=g.length)(h1:g.toArray.all (·.oneCell')=true)(k:wpList P aM Q rest (a.put op.dst undef) (w.setRow b g.toArray)):wpList P aM Q (op::rest) a w :=
 wpList_plain av fun _ hK=>wp_store_row ty x y ho b g.toArray hx hy t cs.toArray h yzm yzh h1 (hK _ _ k)
theorem lG (g:LV_)(av:op.guard=none)(t:T_)(parts:Array (Nat×Operand))(ho:op.op=.build t parts)(hb:P.built t (parts.map fun (i,x)=>(i,a.eval x)).toList=some g.toArray)(k:wpList P aM Q rest (a.put op.dst (.agg g.toArray)) w):wpList P aM Q (op::rest) a w :=
 wpList_build av t parts ho (by rw[hb];rfl) (by rw[hb];exact k)
theorem rf {fn:Func}{p:Tmp}{ty t:T_}{aE:AV_}{cs:LV_}{b:Nat}(hr:fn.results=#[.cell p ty])(hp:aE.getD p undef=p_ b)(h:Blk w b t cs)(d:TypeDesc)(hu:P.underlying ty=some d)(hd:(match d with|.struct _|.array _ _=>true|_=>false)=true)(hi:(P.info? ty).map (·.size)=some cs.length):(results fn aE).run P w=.ok (.agg cs.toArray) w:=by
 have:=run_loadVar_row w b t ty cs.toArray (0,0) d h hu hd yzm;simp only[Array.getD_eq_getD_getElem?]at hp;simp[results,hr,Sem.run_bind,Result.andThen,hp,asAddr,this]
end
theorem cl2 {w:Z}{b:Nat}{t:T_}{v0 v1:V_}{l:LV_}(h:Blk w b t (v0::v1::l)):w.cell? ⟨b,0,none⟩=some v0∧w.cell? ⟨b,1,none⟩=some v1:=⟨h.cell (k:=0) rfl,h.cell (k:=1) rfl⟩
theorem cl3 {w:Z}{b:Nat}{t:T_}{v0 v1 v2:V_}{l:LV_}(h:Blk w b t (v0::v1::v2::l)):w.cell? ⟨b,0,none⟩=some v0∧w.cell? ⟨b,1,none⟩=some v1∧w.cell? ⟨b,2,none⟩=some v2:=⟨h.cell (k:=0) rfl,h.cell (k:=1) rfl,h.cell (k:=2) rfl⟩
theorem cl4 {w:Z}{b:Nat}{t:T_}{v0 v1 v2 v3:V_}{l:LV_}(h:Blk w b t (v0::v1::v2::v3::l)):w.cell? ⟨b,0,none⟩=some v0∧w.cell? ⟨b,1,none⟩=some v1∧w.cell? ⟨b,2,none⟩=some v2∧w.cell? ⟨b,3,none⟩=some v3:=⟨h.cell (k:=0) rfl,h.cell (k:=1) rfl,h.cell (k:=2) rfl,h.cell (k:=3) rfl⟩
theorem cl5 {w:Z}{b:Nat}{t:T_}{v0 v1 v2 v3 m:V_}{l:LV_}(h:Blk w b t (v0::v1::v2::v3::m::l)):w.cell? ⟨b,0,none⟩=some v0∧w.cell? ⟨b,1,none⟩=some v1∧w.cell? ⟨b,2,none⟩=some v2∧w.cell? ⟨b,3,none⟩=some v3∧w.cell? ⟨b,4,none⟩=some m:=⟨h.cell (k:=0) rfl,h.cell (k:=1) rfl,h.cell (k:=2) rfl,h.cell (k:=3) rfl,h.cell (k:=4) rfl⟩
theorem cl6 {w:Z}{b:Nat}{t:T_}{v0 v1 v2 v3 m v5:V_}{l:LV_}(h:Blk w b t (v0::v1::v2::v3::m::v5::l)):w.cell? ⟨b,0,none⟩=some v0∧w.cell? ⟨b,1,none⟩=some v1∧w.cell? ⟨b,2,none⟩=some v2∧w.cell? ⟨b,3,none⟩=some v3∧w.cell? ⟨b,4,none⟩=some m∧w.cell? ⟨b,5,none⟩=some v5:=⟨h.cell (k:=0) rfl,h.cell (k:=1) rfl,h.cell (k:=2) rfl,h.cell (k:=3) rfl,h.cell (k:=4) rfl,h.cell (k:=5) rfl⟩
theorem cl7 {w:Z}{b:Nat}{t:T_}{v0 v1 v2 v3 m v5 E:V_}{l:LV_}(h:Blk w b t (v0::v1::v2::v3::m::v5::E::l)):w.cell? ⟨b,0,none⟩=some v0∧w.cell? ⟨b,1,none⟩=some v1∧w.cell? ⟨b,2,none⟩=some v2∧w.cell? ⟨b,3,none⟩=some v3∧w.cell? ⟨b,4,none⟩=some m∧w.cell? ⟨b,5,none⟩=some v5∧w.cell? ⟨b,6,none⟩=some E:=⟨h.cell (k:=0) rfl,h.cell (k:=1) rfl,h.cell (k:=2) rfl,h.cell (k:=3) rfl,h.cell (k:=4) rfl,h.cell (k:=5) rfl,h.cell (k:=6) rfl⟩
theorem cl8 {w:Z}{b:Nat}{t:T_}{v0 v1 v2 v3 m v5 E X:V_}{l:LV_}(h:Blk w b t (v0::v1::v2::v3::m::v5::E::X::l)):w.cell? ⟨b,0,none⟩=some v0∧w.cell? ⟨b,1,none⟩=some v1∧w.cell? ⟨b,2,none⟩=some v2∧w.cell? ⟨b,3,none⟩=some v3∧w.cell? ⟨b,4,none⟩=some m∧w.cell? ⟨b,5,none⟩=some v5∧w.cell? ⟨b,6,none⟩=some E∧w.cell? ⟨b,7,none⟩=some X:=⟨h.cell (k:=0) rfl,h.cell (k:=1) rfl,h.cell (k:=2) rfl,h.cell (k:=3) rfl,h.cell (k:=4) rfl,h.cell (k:=5) rfl,h.cell (k:=6) rfl,h.cell (k:=7) rfl⟩
theorem cl9 {w:Z}{b:Nat}{t:T_}{v0 v1 v2 v3 m v5 E X v8:V_}{l:LV_}(h:Blk w b t (v0::v1::v2::v3::m::v5::E::X::v8::l)):w.cell? ⟨b,0,none⟩=some v0∧w.cell? ⟨b,1,none⟩=some v1∧w.cell? ⟨b,2,none⟩=some v2∧w.cell? ⟨b,3,none⟩=some v3∧w.cell? ⟨b,4,none⟩=some m∧w.cell? ⟨b,5,none⟩=some v5∧w.cell? ⟨b,6,none⟩=some E∧w.cell? ⟨b,7,none⟩=some X∧w.cell? ⟨b,8,none⟩=some v8:=⟨h.cell (k:=0) rfl,h.cell (k:=1) rfl,h.cell (k:=2) rfl,h.cell (k:=3) rfl,h.cell (k:=4) rfl,h.cell (k:=5) rfl,h.cell (k:=6) rfl,h.cell (k:=7) rfl,h.cell (k:=8) rfl⟩
theorem cl10 {w:Z}{b:Nat}{t:T_}{v0 v1 v2 v3 m v5 E X v8 S:V_}{l:LV_}(h:Blk w b t (v0::v1::v2::v3::m::v5::E::X::v8::S::l)):w.cell? ⟨b,0,none⟩=some v0∧w.cell? ⟨b,1,none⟩=some v1∧w.cell? ⟨b,2,none⟩=some v2∧w.cell? ⟨b,3,none⟩=some v3∧w.cell? ⟨b,4,none⟩=some m∧w.cell? ⟨b,5,none⟩=some v5∧w.cell? ⟨b,6,none⟩=some E∧w.cell? ⟨b,7,none⟩=some X∧w.cell? ⟨b,8,none⟩=some v8∧w.cell? ⟨b,9,none⟩=some S:=⟨h.cell (k:=0) rfl,h.cell (k:=1) rfl,h.cell (k:=2) rfl,h.cell (k:=3) rfl,h.cell (k:=4) rfl,h.cell (k:=5) rfl,h.cell (k:=6) rfl,h.cell (k:=7) rfl,h.cell (k:=8) rfl,h.cell (k:=9) rfl⟩
theorem fr2 {w:Z}{b:Nat}{t:T_}{v0 v1:V_}{l:LV_}(h:Blk w b t (v0::v1::l)):w.frozen? ⟨b,0,none⟩=false∧w.frozen? ⟨b,1,none⟩=false:=⟨h.free (k:=0) i_,h.free (k:=1) i_⟩
theorem fr3 {w:Z}{b:Nat}{t:T_}{v0 v1 v2:V_}{l:LV_}(h:Blk w b t (v0::v1::v2::l)):w.frozen? ⟨b,0,none⟩=false∧w.frozen? ⟨b,1,none⟩=false∧w.frozen? ⟨b,2,none⟩=false:=⟨h.free (k:=0) i_,h.free (k:=1) i_,h.free (k:=2) i_⟩
theorem fr4 {w:Z}{b:Nat}{t:T_}{v0 v1 v2 v3:V_}{l:LV_}(h:Blk w b t (v0::v1::v2::v3::l)):w.frozen? ⟨b,0,none⟩=false∧w.frozen? ⟨b,1,none⟩=false∧w.frozen? ⟨b,2,none⟩=false∧w.frozen? ⟨b,3,none⟩=false:=⟨h.free (k:=0) i_,h.free (k:=1) i_,h.free (k:=2) i_,h.free (k:=3) i_⟩
theorem fr5 {w:Z}{b:Nat}{t:T_}{v0 v1 v2 v3 m:V_}{l:LV_}(h:Blk w b t (v0::v1::v2::v3::m::l)):w.frozen? ⟨b,0,none⟩=false∧w.frozen? ⟨b,1,none⟩=false∧w.frozen? ⟨b,2,none⟩=false∧w.frozen? ⟨b,3,none⟩=false∧w.frozen? ⟨b,4,none⟩=false:=⟨h.free (k:=0) i_,h.free (k:=1) i_,h.free (k:=2) i_,h.free (k:=3) i_,h.free (k:=4) i_⟩
theorem fr6 {w:Z}{b:Nat}{t:T_}{v0 v1 v2 v3 m v5:V_}{l:LV_}(h:Blk w b t (v0::v1::v2::v3::m::v5::l)):w.frozen? ⟨b,0,none⟩=false∧w.frozen? ⟨b,1,none⟩=false∧w.frozen? ⟨b,2,none⟩=false∧w.frozen? ⟨b,3,none⟩=false∧w.frozen? ⟨b,4,none⟩=false∧w.frozen? ⟨b,5,none⟩=false:=⟨h.free (k:=0) i_,h.free (k:=1) i_,h.free (k:=2) i_,h.free (k:=3) i_,h.free (k:=4) i_,h.free (k:=5) i_⟩
theorem fr7 {w:Z}{b:Nat}{t:T_}{v0 v1 v2 v3 m v5 E:V_}{l:LV_}(h:Blk w b t (v0::v1::v2::v3::m::v5::E::l)):w.frozen? ⟨b,0,none⟩=false∧w.frozen? ⟨b,1,none⟩=false∧w.frozen? ⟨b,2,none⟩=false∧w.frozen? ⟨b,3,none⟩=false∧w.frozen? ⟨b,4,none⟩=false∧w.frozen? ⟨b,5,none⟩=false∧w.frozen? ⟨b,6,none⟩=false:=⟨h.free (k:=0) i_,h.free (k:=1) i_,h.free (k:=2) i_,h.free (k:=3) i_,h.free (k:=4) i_,h.free (k:=5) i_,h.free (k:=6) i_⟩
theorem fr8 {w:Z}{b:Nat}{t:T_}{v0 v1 v2 v3 m v5 E X:V_}{l:LV_}(h:Blk w b t (v0::v1::v2::v3::m::v5::E::X::l)):w.frozen? ⟨b,0,none⟩=false∧w.frozen? ⟨b,1,none⟩=false∧w.frozen? ⟨b,2,none⟩=false∧w.frozen? ⟨b,3,none⟩=false∧w.frozen? ⟨b,4,none⟩=false∧w.frozen? ⟨b,5,none⟩=false∧w.frozen? ⟨b,6,none⟩=false∧w.frozen? ⟨b,7,none⟩=false:=⟨h.free (k:=0) i_,h.free (k:=1) i_,h.free (k:=2) i_,h.free (k:=3) i_,h.free (k:=4) i_,h.free (k:=5) i_,h.free (k:=6) i_,h.free (k:=7) i_⟩
theorem bn_ {w W:Z}{D:Nat}{t:T_}{cs:LV_}(h:D=w.heap.size)(h2:W=w.alloc (.cells cs.toArray t)):Blk W D t cs:=by rw[h,h2];exact Blk.new w _ _
theorem bm_ {w W:Z}{t:T_}{cs:LV_}(h2:W=w.alloc (.cells cs.toArray t)):Blk W w.heap.size t cs:=by rw[h2];exact Blk.new w _ _
def dK (x:UInt32)(n:Nat):UInt32:=(x >>> UInt32.ofNat n) ||| (x <<< UInt32.ofNat (32-n))
def nY (b:q)(k:Nat):UInt32:=(b.getD k 0).toUInt32
def Ep (b:q)(k:Nat):UInt32:=((nY b k <<< 24 ||| nY b (k+1) <<< 16) ||| nY b (k+2) <<< 8) ||| nY b (k+3)
def sg0 (x:UInt32):UInt32:=dK x 7 ^^^ dK x 18 ^^^ (x >>> 3)
def sg1 (x:UInt32):UInt32:=dK x 17 ^^^ dK x 19 ^^^ (x >>> 10)
def pD (b:q)(l:LW_):UInt32 :=
 if l.length<16 then Ep b (4*l.length)
 else l.getD (l.length-16) 0+sg0 (l.getD (l.length-15) 0)+l.getD (l.length-7) 0+sg1 (l.getD (l.length-2) 0)
def wl (b:q):Nat→LW_
 | 0=>[]
 | t+1=>wl b t++[pD b (wl b t)]
theorem dN (b:q)(t:Nat):(wl b t).length=t:=by induction t with|zero=>rfl|succ t H=>simp[wl,H]
def jh (b:q)(t:Nat):LW_:=wl b t++List.replicate (64-t) 0
theorem gA (b:q)(t:Nat)(h:t≤64):(jh b t).length=64:=by simp[jh,dN];omega
theorem mq (b:q)(t:Nat)(h:t<64):(jh b t).set t (pD b (wl b t))=jh b (t+1):=by
 have e:64-t=(64-(t+1))+1:=Y;have e2:wl b (t+1)=wl b t++[pD b (wl b t)]:=rfl;unfold jh;rw[e2,List.set_append_right _ _ (by rw[dN];exact I6 _),dN,Nat.sub_self,e,List.replicate_succ,List.set_cons_zero];simp only[Jg,List.singleton_append]
theorem uD (b:q):jh b 64=wl b 64:=by simp[jh]
theorem iL (b:q)(t k:Nat)(h:k<t)(h':t≤64):(aB (jh b t))[k]?=some (.int .u32 (U ((wl b t).getD k 0))):=by
 have hl:k<(wl b t).length:=by rw[dN];exact h
 have hx:k<(jh b t).length:=by rw[gA b t h'];omega
 rw[rU _ _ hx]
 have:(jh b t)[k]=(wl b t).getD k 0:=by
  simp only[jh,JD hl,List.getD_eq_getElem?_getD,List.getElem?_eq_getElem hl,Option.getD_some]
 rw[this]
theorem rR (b:q)(t:Nat)(h:t<16):pD b (wl b t)=Ep b (4*t):=by rw[pD,dN,if_pos h]
theorem pC (b:q)(t:Nat)(h:16≤t):pD b (wl b t)=(wl b t).getD (t-16) 0+sg0 ((wl b t).getD (t-15) 0)+(wl b t).getD (t-7) 0+sg1 ((wl b t).getD (t-2) 0):=by rw[pD,dN,if_neg Y]
theorem jZ (b:q)(k:Nat)(h:k<b.length):b[k].toUInt32=nY b k:=by
 simp[nY,List.getD_eq_getElem?_getD,h]
theorem xi (b:q)(k:Nat)(h0:k<b.length)(h1:k+1<b.length)(h2:k+2<b.length)(h3:k+3<b.length):((b[k].toUInt32 <<< 24 ||| b[k+1].toUInt32 <<< 16) ||| b[k+2].toUInt32 <<< 8) ||| b[k+3].toUInt32=Ep b k:=by
 rw[jZ,jZ,jZ,jZ];rfl
theorem Blk.ex {w:Z}{b:Nat}{t:T_}{cs:LV_}(h:Blk w b t cs){k:Nat}(hk:k<cs.length):∃ u,w.cell? ⟨b,k,none⟩=some u:=⟨_,h.cell (List.getElem?_eq_getElem hk)⟩