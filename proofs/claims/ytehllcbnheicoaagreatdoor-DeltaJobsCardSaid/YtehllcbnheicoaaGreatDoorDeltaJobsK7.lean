/- Lemmas for DeltaJobs: walks, plain laws. -/
import Derived.Shelf.Strings.Builder1
import Derived.Shelf.Strings.Builder2
import Derived.Shelf.Small.Strs
import Derived.Shelf.Strings.BuilderF
import Derived.Shelf.Strings.BuilderK
import Derived.Shelf.Utf8.RuneCount
import Derived.Shelf.Strconv.Itoa0
import Derived.Shelf.Strconv.Itoa1
import Derived.Shelf.LaysM
import Derived.Shelf.Strconv.Itoa2
import Derived.Shelf.Strconv.Itoa3
import Derived.Shelf.Strconv.Itoa4
import Derived.Shelf.Strconv.ParseIntEmpty
import Derived.Shelf.Strconv.Clone
import Derived.Shelf.Strconv.SyntaxError
import Derived.Shelf.LaysC
import Derived.Shelf.Strconv.ToError
import Derived.Shelf.Strconv.Lower
import Derived.Shelf.Strconv.ParseUint10
import Derived.Shelf.Strconv.ParseUint10Empty
import Derived.Shelf.Strconv.ParseUint10Any
import Derived.Shelf.Strconv.ParseInt10
import Derived.Shelf.Strconv.RangeError
import Derived.Shelf.Strconv.ToErrorRange
import Derived.Shelf.Strconv.ParseUintEmpty
import Derived.Shelf.Strconv.ParseUint10b64
import Derived.Shelf.Strconv.ParseUint10b32
import Derived.Shelf.Strconv.ParseUint10b16
import Derived.Shelf.Strconv.ParseUint10b8
import Derived.Shelf.Strconv.ParseUint10At
import Derived.Shelf.Strconv.ParseInt10At64
import Derived.Shelf.Strconv.ParseInt10At32
import Derived.Shelf.Strconv.ParseInt10At16
import Derived.Shelf.Strconv.ParseInt10At8
import Derived.Shelf.Strconv.ParseInt10All
import Derived.Shelf.Strconv.ParseIntPublic10
import Derived.Shelf.Strconv.ErrVarParseInt
import Derived.Shelf.Strings.Search1
import Derived.Shelf.Strings.Search2
import Derived.Shelf.Strings.Search3
import Derived.Shelf.Strings.Cut
import Derived.Shelf.Strings.Count
import Derived.Shelf.Strings.Shaped
import Derived.Shelf.Strings.Prefix
import Derived.Shelf.Strings.Split
import Derived.Shelf.Strings.Replace
import Derived.Shelf.Strings.SplitShaped
import Derived.Shelf.Unicode.Decode
import Derived.Shelf.Strings.RuneCount
import Derived.Shelf.Unicode.DecodeSlow
import Derived.Shelf.Unicode.DecodeAny
import Derived.Test.YtehllcbnheicoaaGreatDoorProg
import Derived.Lib.Builder
import Derived.Lib.AppendStr
import Derived.Laws.BitsAllLaws
import Derived.Deep.WholeRow
import Derived.Deep.MidRow
import Derived.Laws.MakeOwn
import Derived.Maps.AppendAt
import Derived.Lib.ConvBytes
import Derived.Laws.AppendOwn
import Derived.Test.YtehllcbnheicoaaGreatDoorDeltaJobsK5
set_option linter.unusedSimpArgs false
set_option linter.unusedVariables false
set_option maxRecDepth 100000
set_option maxHeartbeats 16000000
namespace Go.Proofs
open Go.Shelf
def DW:Go.Shelf.Ren:=⟨fun|169=>101|n=>n,fun|70=>148|9=>9|0=>0|72=>151|37=>149|127=>199|3=>3|5=>5|n=>n,fun|n=>n⟩
theorem Tryz.lays169:Go.Proofs.Lays.n169 Tryz.prog DW:={
 mixed:=by kernel_rfl
 f169:=Tryz.func101.trans (congrArg some (by kernel_rfl))
 t0:=Tryz.underlying0
 a0:=Tryz.isAgg0
 z0:=Tryz.sizeOf0
 v0:=Tryz.zeroValue0
 t3:=Tryz.underlying3
 a3:=Tryz.isAgg3
 z3:=Tryz.sizeOf3
 v3:=Tryz.zeroValue3
 t9:=Tryz.underlying9
 a9:=Tryz.isAgg9
 z9:=Tryz.sizeOf9
 v9:=Tryz.zeroValue9
 t37:=Tryz.underlying149
 a37:=Tryz.isAgg149
 z37:=Tryz.sizeOf149
 v37:=Tryz.zeroValue149
 t70:=Tryz.underlying148
 a70:=Tryz.isAgg148
 z70:=Tryz.sizeOf148
 v70:=Tryz.zeroValue148
 t72:=Tryz.underlying151
 a72:=Tryz.isAgg151
 z72:=Tryz.sizeOf151
 v72:=Tryz.zeroValue151
 t127:=Tryz.underlying199
 a127:=Tryz.isAgg199
 z127:=Tryz.sizeOf199
 v127:=Tryz.zeroValue199 }
theorem D2:Builder.Extra Tryz.prog DW:={
 sizeBuilder:=by kernel_rfl
 liesBuilder:=by kernel_rfl
 t5:=Tryz.underlying5
 a5:=Tryz.isAgg5
 z5:=Tryz.sizeOf5
 v5:=Tryz.zeroValue5
 infoByte:=by kernel_rfl
 cellsByte:=by kernel_rfl
 sizeByte:=by kernel_rfl
 neB5:=by decide }
open Go.RowKit in
theorem Tryz.Builder_String_any (B b:Nat)(l:List UInt8)(w:World)(h:Lib.IsBuilder 151 5 B b (Lib.byteCells l) w)(hBw:B≤w.heap.size):Calls Tryz.prog 101 #[.pointer (some ⟨b,0,none⟩)] w fun e w'=>e=.returned (.string ⟨l.toArray⟩)∧Below B w w':=Any.Builder_String_any Tryz.lays169 D2 B b l w h hBw
def DX:Go.Shelf.Ren:=⟨fun|165=>212|240=>136|241=>223|276=>163|277=>236|n=>n,fun|70=>148|3=>3|0=>0|4=>4|9=>9|20=>20|72=>151|37=>149|164=>249|5=>5|n=>n,fun|n=>n⟩
theorem Tryz.lays165:Go.Proofs.Lays.n165 Tryz.prog DX:={
 mixed:=by kernel_rfl
 f165:=Tryz.func212.trans (congrArg some (by kernel_rfl))
 f240:=Tryz.func136.trans (congrArg some (by kernel_rfl))
 f241:=Tryz.func223.trans (congrArg some (by kernel_rfl))
 f276:=Tryz.func163.trans (congrArg some (by kernel_rfl))
 f277:=Tryz.func236.trans (congrArg some (by kernel_rfl))
 t0:=Tryz.underlying0
 a0:=Tryz.isAgg0
 z0:=Tryz.sizeOf0
 v0:=Tryz.zeroValue0
 t3:=Tryz.underlying3
 a3:=Tryz.isAgg3
 z3:=Tryz.sizeOf3
 v3:=Tryz.zeroValue3
 t4:=Tryz.underlying4
 a4:=Tryz.isAgg4
 z4:=Tryz.sizeOf4
 v4:=Tryz.zeroValue4
 t9:=Tryz.underlying9
 a9:=Tryz.isAgg9
 z9:=Tryz.sizeOf9
 v9:=Tryz.zeroValue9
 t20:=Tryz.underlying20
 a20:=Tryz.isAgg20
 z20:=Tryz.sizeOf20
 v20:=Tryz.zeroValue20
 t37:=Tryz.underlying149
 a37:=Tryz.isAgg149
 z37:=Tryz.sizeOf149
 v37:=Tryz.zeroValue149
 t70:=Tryz.underlying148
 a70:=Tryz.isAgg148
 z70:=Tryz.sizeOf148
 v70:=Tryz.zeroValue148
 t72:=Tryz.underlying151
 a72:=Tryz.isAgg151
 z72:=Tryz.sizeOf151
 v72:=Tryz.zeroValue151
 t164:=Tryz.underlying249
 a164:=Tryz.isAgg249
 z164:=Tryz.sizeOf249
 v164:=Tryz.zeroValue249 }
theorem D4:Builder.Extra Tryz.prog DX:={
 sizeBuilder:=by kernel_rfl
 liesBuilder:=by kernel_rfl
 t5:=Tryz.underlying5
 a5:=Tryz.isAgg5
 z5:=Tryz.sizeOf5
 v5:=Tryz.zeroValue5
 infoByte:=by kernel_rfl
 cellsByte:=by kernel_rfl
 sizeByte:=by kernel_rfl
 neB5:=by decide }
open Go.RowKit in
theorem Tryz.Builder_Grow_fresh (B b n:Nat)(w:World)(hB:B≤b)(hbk:w.heap[b]?=some (.cells #[.pointer none,.slice none 0 0] 151 (0,0)))(hBw:B≤w.heap.size)(hn:n≤281474976710656):Calls Tryz.prog 212 #[.pointer (some ⟨b,0,none⟩),.int .i64 n] w fun e w'=>e=.returned (.tuple #[])∧(Lib.BuilderAt 151 5 B b (.pointer (some ⟨b,0,none⟩)) [] w'∧Below B w w'):=Any.Builder_Grow_fresh Tryz.lays165 D4 B b n w hB hbk hBw hn
def Tryz.lays137_ren:Go.Shelf.Ren:=⟨fun|137=>127|217=>159|266=>184|n=>n,fun|9=>9|5=>5|3=>3|n=>n,fun|n=>n⟩
theorem Tryz.lays137:Go.Proofs.Lays.n137 Tryz.prog Tryz.lays137_ren:={
 mixed:=by kernel_rfl
 f137:=Tryz.func127.trans (congrArg some (by kernel_rfl))
 f217:=Tryz.func159.trans (congrArg some (by kernel_rfl))
 f266:=Tryz.func184.trans (congrArg some (by kernel_rfl))
 t3:=Tryz.underlying3
 a3:=Tryz.isAgg3
 z3:=Tryz.sizeOf3
 v3:=Tryz.zeroValue3
 t5:=Tryz.underlying5
 a5:=Tryz.isAgg5
 z5:=Tryz.sizeOf5
 v5:=Tryz.zeroValue5
 t9:=Tryz.underlying9
 a9:=Tryz.isAgg9
 z9:=Tryz.sizeOf9
 v9:=Tryz.zeroValue9 }
open Go.RowKit in
theorem Tryz.strings_IndexByte (s:ByteArray)(c:Int)(w:World):Calls Tryz.prog 127 #[.string s,.int .u8 c] w fun e w'=>e=.returned (.int .i64 (Lib.indexByte s.data.toList c.toNat.toUInt8))∧w'=w:=Any.strings_IndexByte Tryz.lays137 s c w
def Tryz.laysM246_ren:Go.Shelf.Ren:=⟨fun|246=>209|283=>215|284=>216|285=>217|286=>218|129=>227|317=>226|318=>228|319=>229|320=>230|337=>240|338=>241|n=>n,fun|2=>2|3=>3|9=>9|4=>4|171=>302|0=>0|53=>157|37=>149|5=>5|173=>305|212=>310|51=>241|20=>20|213=>311|46=>184|232=>332|233=>333|n=>n,fun|17=>3|18=>8|19=>9|n=>n⟩
def D9:Go.Shelf.Ren:=⟨fun|173=>203|246=>209|283=>215|284=>216|285=>217|286=>218|129=>227|317=>226|318=>228|319=>229|320=>230|337=>240|338=>241|n=>n,fun|2=>2|3=>3|9=>9|4=>4|171=>302|0=>0|53=>157|37=>149|5=>5|173=>305|212=>310|51=>241|20=>20|213=>311|46=>184|232=>332|233=>333|n=>n,fun|17=>3|18=>8|19=>9|n=>n⟩
theorem Tryz.laysM173:Go.Proofs.LaysM.n173 Tryz.prog D9:={
 mixed:=by kernel_rfl
 f129:=Tryz.func227.trans (congrArg some (by kernel_rfl))
 f173:=Tryz.func203.trans (congrArg some (by kernel_rfl))
 f246:=Tryz.func209.trans (congrArg some (by kernel_rfl))
 f283:=Tryz.func215.trans (congrArg some (by kernel_rfl))
 f284:=Tryz.func216.trans (congrArg some (by kernel_rfl))
 f285:=Tryz.func217.trans (congrArg some (by kernel_rfl))
 f286:=Tryz.func218.trans (congrArg some (by kernel_rfl))
 f317:=Tryz.func226.trans (congrArg some (by kernel_rfl))
 f318:=Tryz.func228.trans (congrArg some (by kernel_rfl))
 f319:=Tryz.func229.trans (congrArg some (by kernel_rfl))
 f320:=Tryz.func230.trans (congrArg some (by kernel_rfl))
 f337:=Tryz.func240.trans (congrArg some (by kernel_rfl))
 f338:=Tryz.func241.trans (congrArg some (by kernel_rfl))
 t0:=Tryz.underlying0
 a0:=Tryz.isAgg0
 z0:=Tryz.sizeOf0
 v0:=Tryz.zeroValue0
 t2:=Tryz.underlying2
 a2:=Tryz.isAgg2
 z2:=Tryz.sizeOf2
 v2:=Tryz.zeroValue2
 t3:=Tryz.underlying3
 a3:=Tryz.isAgg3
 z3:=Tryz.sizeOf3
 v3:=Tryz.zeroValue3
 t4:=Tryz.underlying4
 a4:=Tryz.isAgg4
 z4:=Tryz.sizeOf4
 v4:=Tryz.zeroValue4
 t5:=Tryz.underlying5
 a5:=Tryz.isAgg5
 z5:=Tryz.sizeOf5
 v5:=Tryz.zeroValue5
 t9:=Tryz.underlying9
 a9:=Tryz.isAgg9
 z9:=Tryz.sizeOf9
 v9:=Tryz.zeroValue9
 t20:=Tryz.underlying20
 a20:=Tryz.isAgg20
 z20:=Tryz.sizeOf20
 v20:=Tryz.zeroValue20
 t37:=Tryz.underlying149
 a37:=Tryz.isAgg149
 z37:=Tryz.sizeOf149
 v37:=Tryz.zeroValue149
 t46:=Tryz.underlying184
 a46:=Tryz.isAgg184
 z46:=Tryz.sizeOf184
 v46:=Tryz.zeroValue184
 t51:=Tryz.underlying241
 a51:=Tryz.isAgg241
 z51:=Tryz.sizeOf241
 v51:=Tryz.zeroValue241
 t53:=Tryz.underlying157
 a53:=Tryz.isAgg157
 z53:=Tryz.sizeOf157
 v53:=Tryz.zeroValue157
 t171:=Tryz.underlying302
 a171:=Tryz.isAgg302
 z171:=Tryz.sizeOf302
 v171:=Tryz.zeroValue302
 t173:=Tryz.underlying305
 a173:=Tryz.isAgg305
 z173:=Tryz.sizeOf305
 v173:=Tryz.zeroValue305
 t212:=Tryz.underlying310
 a212:=Tryz.isAgg310
 z212:=Tryz.sizeOf310
 v212:=Tryz.zeroValue310
 t213:=Tryz.underlying311
 a213:=Tryz.isAgg311
 z213:=Tryz.sizeOf311
 t232:=Tryz.underlying332
 a232:=Tryz.isAgg332
 z232:=Tryz.sizeOf332
 v232:=Tryz.zeroValue332
 t233:=Tryz.underlying333
 a233:=Tryz.isAgg333
 z233:=Tryz.sizeOf333
 v233:=Tryz.zeroValue333
 g17:=by kernel_rfl
 g18:=by kernel_rfl
 g19:=by kernel_rfl
 i0:=by kernel_rfl
 i2:=by kernel_rfl
 i3:=by kernel_rfl
 i4:=by kernel_rfl
 i5:=by kernel_rfl
 i9:=by kernel_rfl
 i20:=by kernel_rfl
 i37:=by kernel_rfl
 i46:=by kernel_rfl
 i51:=by kernel_rfl
 i53:=by kernel_rfl
 i171:=by kernel_rfl
 i173:=by kernel_rfl
 i212:=by kernel_rfl
 i232:=by kernel_rfl
 i233:=by kernel_rfl
 m17:=by kernel_rfl
 m18:=by kernel_rfl
 m19:=by kernel_rfl }
open Go.RowKit Go.Sort Go.Lib in
theorem Tryz.strconv_FormatInt_10 (n : Int)(h0 : -9223372036854775808 ≤ n)(h1 : n ≤ 9223372036854775807)(w : World)(htab : Lib.TabIs Tryz.prog w "internal/strconv.uint64pow10" .u64 Lib.pow10Tab):Calls Tryz.prog 203 #[.int .i64 n,.int .i64 10] w fun e w'=>e=.returned (.string ⟨(Lib.itoa n).toArray⟩)∧∃ k os,w'=grow (w.drewN k) os:=Any.strconv_FormatInt_10 Tryz.laysM173 n h0 h1 w htab
def Tryz.laysC245_ren:Go.Shelf.Ren:=⟨fun|245=>220|279=>232|280=>233|281=>234|282=>235|316=>244|171=>246|205=>245|243=>248|246=>209|283=>215|284=>216|285=>217|286=>218|129=>227|317=>226|318=>228|319=>229|320=>230|337=>240|338=>241|n=>n,fun|9=>9|3=>3|75=>153|167=>314|4=>4|168=>317|210=>328|37=>149|0=>0|127=>199|145=>336|143=>334|2=>2|171=>302|53=>157|5=>5|173=>305|212=>310|51=>241|20=>20|213=>311|46=>184|232=>332|233=>333|80=>159|n=>n,fun|15=>6|16=>7|17=>3|18=>8|19=>9|n=>n⟩
def D8:Go.Shelf.Ren:=⟨fun|174=>210|247=>219|245=>220|287=>231|279=>232|280=>233|281=>234|282=>235|321=>242|322=>243|316=>244|171=>246|205=>245|243=>248|246=>209|283=>215|284=>216|285=>217|286=>218|129=>227|317=>226|318=>228|319=>229|320=>230|337=>240|338=>241|n=>n,fun|9=>9|3=>3|2=>2|75=>153|85=>297|4=>4|167=>314|5=>5|53=>157|175=>315|46=>184|168=>317|37=>149|0=>0|210=>328|21=>21|127=>199|145=>336|143=>334|171=>302|173=>305|212=>310|51=>241|20=>20|213=>311|232=>332|233=>333|80=>159|n=>n,fun|15=>6|16=>7|17=>3|18=>8|19=>9|n=>n⟩
theorem DU:Go.Proofs.LaysC.n174 Tryz.prog D8:={
 mixed:=by kernel_rfl
 f129:=Tryz.func227.trans (congrArg some (by kernel_rfl))
 f171:=Tryz.func246.trans (congrArg some (by kernel_rfl))
 f174:=Tryz.func210.trans (congrArg some (by kernel_rfl))
 f205:=Tryz.func245.trans (congrArg some (by kernel_rfl))
 f243:=Tryz.func248.trans (congrArg some (by kernel_rfl))
 f245:=Tryz.func220.trans (congrArg some (by kernel_rfl))
 f246:=Tryz.func209.trans (congrArg some (by kernel_rfl))
 f247:=Tryz.func219.trans (congrArg some (by kernel_rfl))
 f279:=Tryz.func232.trans (congrArg some (by kernel_rfl))
 f280:=Tryz.func233.trans (congrArg some (by kernel_rfl))
 f281:=Tryz.func234.trans (congrArg some (by kernel_rfl))
 f282:=Tryz.func235.trans (congrArg some (by kernel_rfl))
 f283:=Tryz.func215.trans (congrArg some (by kernel_rfl))
 f284:=Tryz.func216.trans (congrArg some (by kernel_rfl))
 f285:=Tryz.func217.trans (congrArg some (by kernel_rfl))
 f286:=Tryz.func218.trans (congrArg some (by kernel_rfl))
 f287:=Tryz.func231.trans (congrArg some (by kernel_rfl))
 f316:=Tryz.func244.trans (congrArg some (by kernel_rfl))
 f317:=Tryz.func226.trans (congrArg some (by kernel_rfl))
 f318:=Tryz.func228.trans (congrArg some (by kernel_rfl))
 f319:=Tryz.func229.trans (congrArg some (by kernel_rfl))
 f320:=Tryz.func230.trans (congrArg some (by kernel_rfl))
 f321:=Tryz.func242.trans (congrArg some (by kernel_rfl))
 f322:=Tryz.func243.trans (congrArg some (by kernel_rfl))
 f337:=Tryz.func240.trans (congrArg some (by kernel_rfl))
 f338:=Tryz.func241.trans (congrArg some (by kernel_rfl))
 t0:=Tryz.underlying0
 a0:=Tryz.isAgg0
 z0:=Tryz.sizeOf0
 v0:=Tryz.zeroValue0
 t2:=Tryz.underlying2
 a2:=Tryz.isAgg2
 z2:=Tryz.sizeOf2
 v2:=Tryz.zeroValue2
 t3:=Tryz.underlying3
 a3:=Tryz.isAgg3
 z3:=Tryz.sizeOf3
 v3:=Tryz.zeroValue3
 t4:=Tryz.underlying4
 a4:=Tryz.isAgg4
 z4:=Tryz.sizeOf4
 v4:=Tryz.zeroValue4
 t5:=Tryz.underlying5
 a5:=Tryz.isAgg5
 z5:=Tryz.sizeOf5
 v5:=Tryz.zeroValue5
 t9:=Tryz.underlying9
 a9:=Tryz.isAgg9
 z9:=Tryz.sizeOf9
 v9:=Tryz.zeroValue9
 t20:=Tryz.underlying20
 a20:=Tryz.isAgg20
 z20:=Tryz.sizeOf20
 v20:=Tryz.zeroValue20
 t21:=Tryz.underlying21
 a21:=Tryz.isAgg21
 z21:=Tryz.sizeOf21
 v21:=Tryz.zeroValue21
 t37:=Tryz.underlying149
 a37:=Tryz.isAgg149
 z37:=Tryz.sizeOf149
 v37:=Tryz.zeroValue149
 t46:=Tryz.underlying184
 a46:=Tryz.isAgg184
 z46:=Tryz.sizeOf184
 v46:=Tryz.zeroValue184
 t51:=Tryz.underlying241
 a51:=Tryz.isAgg241
 z51:=Tryz.sizeOf241
 v51:=Tryz.zeroValue241
 t53:=Tryz.underlying157
 a53:=Tryz.isAgg157
 z53:=Tryz.sizeOf157
 v53:=Tryz.zeroValue157
 t75:=Tryz.underlying153
 a75:=Tryz.isAgg153
 z75:=Tryz.sizeOf153
 v75:=Tryz.zeroValue153
 t85:=Tryz.underlying297
 a85:=Tryz.isAgg297
 z85:=Tryz.sizeOf297
 v85:=Tryz.zeroValue297
 t127:=Tryz.underlying199
 a127:=Tryz.isAgg199
 z127:=Tryz.sizeOf199
 v127:=Tryz.zeroValue199
 t143:=Tryz.underlying334
 a143:=Tryz.isAgg334
 z143:=Tryz.sizeOf334
 v143:=Tryz.zeroValue334
 t145:=Tryz.underlying336
 a145:=Tryz.isAgg336
 z145:=Tryz.sizeOf336
 v145:=Tryz.zeroValue336
 t167:=Tryz.underlying314
 a167:=Tryz.isAgg314
 z167:=Tryz.sizeOf314
 v167:=Tryz.zeroValue314
 t168:=Tryz.underlying317
 a168:=Tryz.isAgg317
 z168:=Tryz.sizeOf317
 v168:=Tryz.zeroValue317
 t171:=Tryz.underlying302
 a171:=Tryz.isAgg302
 z171:=Tryz.sizeOf302
 v171:=Tryz.zeroValue302
 t173:=Tryz.underlying305
 a173:=Tryz.isAgg305
 z173:=Tryz.sizeOf305
 v173:=Tryz.zeroValue305
 t175:=Tryz.underlying315
 a175:=Tryz.isAgg315
 z175:=Tryz.sizeOf315
 v175:=Tryz.zeroValue315
 t210:=Tryz.underlying328
 a210:=Tryz.isAgg328
 z210:=Tryz.sizeOf328
 v210:=Tryz.zeroValue328
 t212:=Tryz.underlying310
 a212:=Tryz.isAgg310
 z212:=Tryz.sizeOf310
 v212:=Tryz.zeroValue310
 t213:=Tryz.underlying311
 a213:=Tryz.isAgg311
 z213:=Tryz.sizeOf311
 t232:=Tryz.underlying332
 a232:=Tryz.isAgg332
 z232:=Tryz.sizeOf332
 v232:=Tryz.zeroValue332
 t233:=Tryz.underlying333
 a233:=Tryz.isAgg333
 z233:=Tryz.sizeOf333
 v233:=Tryz.zeroValue333
 g15:=by kernel_rfl
 g16:=by kernel_rfl
 g17:=by kernel_rfl
 g18:=by kernel_rfl
 g19:=by kernel_rfl
 t80:=Tryz.underlying159
 a80:=Tryz.isAgg159
 z80:=Tryz.sizeOf159
 v80:=Tryz.zeroValue159
 i0:=by kernel_rfl
 i2:=by kernel_rfl
 i3:=by kernel_rfl
 i4:=by kernel_rfl
 i5:=by kernel_rfl
 i9:=by kernel_rfl
 i20:=by kernel_rfl
 i21:=by kernel_rfl
 i37:=by kernel_rfl
 i46:=by kernel_rfl
 i51:=by kernel_rfl
 i53:=by kernel_rfl
 i75:=by kernel_rfl
 i80:=by kernel_rfl
 i85:=by kernel_rfl
 i127:=by kernel_rfl
 i143:=by kernel_rfl
 i145:=by kernel_rfl
 i167:=by kernel_rfl
 i168:=by kernel_rfl
 i171:=by kernel_rfl
 i173:=by kernel_rfl
 i175:=by kernel_rfl
 i210:=by kernel_rfl
 i212:=by kernel_rfl
 i232:=by kernel_rfl
 i233:=by kernel_rfl
 m15:=by kernel_rfl
 m16:=by kernel_rfl
 m17:=by kernel_rfl
 m18:=by kernel_rfl
 m19:=by kernel_rfl
 c0:=by kernel_rfl
 c2:=by kernel_rfl
 c3:=by kernel_rfl
 c4:=by kernel_rfl
 c5:=by kernel_rfl
 c9:=by kernel_rfl
 c20:=by kernel_rfl
 c21:=by kernel_rfl
 c37:=by kernel_rfl
 c46:=by kernel_rfl
 c51:=by kernel_rfl
 c53:=by kernel_rfl
 c75:=by kernel_rfl
 c80:=by kernel_rfl
 c85:=by kernel_rfl
 c127:=by kernel_rfl
 c143:=by kernel_rfl
 c145:=by kernel_rfl
 c167:=by kernel_rfl
 c168:=by kernel_rfl
 c171:=by kernel_rfl
 c173:=by kernel_rfl
 c175:=by kernel_rfl
 c210:=by kernel_rfl
 c212:=by kernel_rfl
 c213:=by kernel_rfl
 c232:=by kernel_rfl
 c233:=by kernel_rfl }
open Go.RowKit in
theorem Tryz.strconv_ParseInt_10_at64_ok (s:ByteArray)(hmax:s.size≤9223372036854775806)(v:Int)(h:Lib.parseIntB 64 s.data.toList=.ok v)(w:World):Calls Tryz.prog 210 #[.string s,.int .i64 10,.int .i64 64] w fun e w'=>e=.returned (.tuple #[.int .i64 v,.nilIface])∧(w'=w∨∃ t,w'=Lib.bytesWorld w 5 t):=Any.strconv_ParseInt_10_at64_ok DU s hmax v h w
open Go.RowKit in
theorem Tryz.strconv_ParseInt_10_at64_syntax (s:ByteArray)(hlim:s.size≤281474976710656)(h:Lib.parseIntB 64 s.data.toList=Lib.NumEnd.syntax)(ev:Value)(w:World)(hv:w.cell? ⟨6,0,none⟩=some ev)(hev:ev=.nilIface∨∃ te pe,ev=.iface te pe):Calls Tryz.prog 210 #[.string s,.int .i64 10,.int .i64 64] w fun e w'=>∃ N,e=.returned (.tuple #[.int .i64 (0),.iface 317 (.pointer (some ⟨N,0,none⟩))])∧w.heap.size≤N∧w'.heap[N]?=some (.cells #[.string ⟨#[80,97,114,115,101,73,110,116]⟩,.string s,ev] 328 (0,0))∧Below w.heap.size w w':=Any.strconv_ParseInt_10_at64_syntax DU s hlim h ev w hv hev
open Go.RowKit in
theorem Tryz.strconv_ParseInt_10_at64_range (s:ByteArray)(hlim:s.size≤281474976710656)(h:Lib.parseIntB 64 s.data.toList=.range)(ev:Value)(w:World)(hv:w.cell? ⟨7,0,none⟩=some ev)(hev:ev=.nilIface∨∃ te pe,ev=.iface te pe):Calls Tryz.prog 210 #[.string s,.int .i64 10,.int .i64 64] w fun e w'=>∃ N,e=.returned (.tuple #[.int .i64 (Lib.intSat 64 s.data.toList),.iface 317 (.pointer (some ⟨N,0,none⟩))])∧w.heap.size≤N∧w'.heap[N]?=some (.cells #[.string ⟨#[80,97,114,115,101,73,110,116]⟩,.string s,ev] 328 (0,0))∧Below w.heap.size w w':=Any.strconv_ParseInt_10_at64_range DU s hlim h ev w hv hev
def Tryz.lays219_ren:Go.Shelf.Ren:=⟨fun|219=>224|217=>159|225=>237|224=>238|267=>239|266=>184|314=>247|n=>n,fun|9=>9|3=>3|4=>4|5=>5|46=>184|146=>330|51=>241|n=>n,fun|1=>2|n=>n⟩
def Tryz.lays143_ren:Go.Shelf.Ren:=⟨fun|143=>213|219=>224|217=>159|225=>237|224=>238|267=>239|266=>184|314=>247|n=>n,fun|9=>9|3=>3|4=>4|5=>5|46=>184|146=>330|51=>241|n=>n,fun|1=>2|n=>n⟩
theorem Tryz.lays143:Go.Proofs.Lays.n143 Tryz.prog Tryz.lays143_ren:={
 mixed:=by kernel_rfl
 f143:=Tryz.func213.trans (congrArg some (by kernel_rfl))
 f217:=Tryz.func159.trans (congrArg some (by kernel_rfl))
 f219:=Tryz.func224.trans (congrArg some (by kernel_rfl))
 f224:=Tryz.func238.trans (congrArg some (by kernel_rfl))
 f225:=Tryz.func237.trans (congrArg some (by kernel_rfl))
 f266:=Tryz.func184.trans (congrArg some (by kernel_rfl))
 f267:=Tryz.func239.trans (congrArg some (by kernel_rfl))
 f314:=Tryz.func247.trans (congrArg some (by kernel_rfl))
 t3:=Tryz.underlying3
 a3:=Tryz.isAgg3
 z3:=Tryz.sizeOf3
 v3:=Tryz.zeroValue3
 t4:=Tryz.underlying4
 a4:=Tryz.isAgg4
 z4:=Tryz.sizeOf4
 v4:=Tryz.zeroValue4
 t5:=Tryz.underlying5
 a5:=Tryz.isAgg5
 z5:=Tryz.sizeOf5
 v5:=Tryz.zeroValue5
 t9:=Tryz.underlying9
 a9:=Tryz.isAgg9
 z9:=Tryz.sizeOf9
 v9:=Tryz.zeroValue9
 t46:=Tryz.underlying184
 a46:=Tryz.isAgg184
 z46:=Tryz.sizeOf184
 v46:=Tryz.zeroValue184
 t51:=Tryz.underlying241
 a51:=Tryz.isAgg241
 z51:=Tryz.sizeOf241
 v51:=Tryz.zeroValue241
 t146:=Tryz.underlying330
 a146:=Tryz.isAgg330
 z146:=Tryz.sizeOf330
 v146:=Tryz.zeroValue330
 g1:=by kernel_rfl }
open Go.RowKit Go.Lib in
theorem Tryz.strings_Index_one (s:ByteArray)(c:UInt8)(w:World):Calls Tryz.prog 213 #[.string s,.string ⟨#[c]⟩] w fun e w'=>e=.returned (.int .i64 (Lib.indexByte s.data.toList c))∧w'=w:=Any.strings_Index_one Tryz.lays143 s c w
def Tryz.lays145_ren:Go.Shelf.Ren:=⟨fun|145=>298|220=>299|219=>224|217=>159|225=>237|224=>238|267=>239|266=>184|314=>247|n=>n,fun|9=>9|4=>4|59=>358|3=>3|5=>5|46=>184|146=>330|51=>241|n=>n,fun|1=>2|n=>n⟩
theorem Tryz.lays145:Go.Proofs.Lays.n145 Tryz.prog Tryz.lays145_ren:={
 mixed:=by kernel_rfl
 f145:=Tryz.func298.trans (congrArg some (by kernel_rfl))
 f217:=Tryz.func159.trans (congrArg some (by kernel_rfl))
 f219:=Tryz.func224.trans (congrArg some (by kernel_rfl))
 f220:=Tryz.func299.trans (congrArg some (by kernel_rfl))
 f224:=Tryz.func238.trans (congrArg some (by kernel_rfl))
 f225:=Tryz.func237.trans (congrArg some (by kernel_rfl))
 f266:=Tryz.func184.trans (congrArg some (by kernel_rfl))
 f267:=Tryz.func239.trans (congrArg some (by kernel_rfl))
 f314:=Tryz.func247.trans (congrArg some (by kernel_rfl))
 t3:=Tryz.underlying3
 a3:=Tryz.isAgg3
 z3:=Tryz.sizeOf3
 v3:=Tryz.zeroValue3
 t4:=Tryz.underlying4
 a4:=Tryz.isAgg4
 z4:=Tryz.sizeOf4
 v4:=Tryz.zeroValue4
 t5:=Tryz.underlying5
 a5:=Tryz.isAgg5
 z5:=Tryz.sizeOf5
 v5:=Tryz.zeroValue5
 t9:=Tryz.underlying9
 a9:=Tryz.isAgg9
 z9:=Tryz.sizeOf9
 v9:=Tryz.zeroValue9
 t46:=Tryz.underlying184
 a46:=Tryz.isAgg184
 z46:=Tryz.sizeOf184
 v46:=Tryz.zeroValue184
 t51:=Tryz.underlying241
 a51:=Tryz.isAgg241
 z51:=Tryz.sizeOf241
 v51:=Tryz.zeroValue241
 t59:=Tryz.underlying358
 a59:=Tryz.isAgg358
 z59:=Tryz.sizeOf358
 v59:=Tryz.zeroValue358
 t146:=Tryz.underlying330
 a146:=Tryz.isAgg330
 z146:=Tryz.sizeOf330
 v146:=Tryz.zeroValue330
 g1:=by kernel_rfl }
open Go.RowKit Go.Lib in
theorem Tryz.strings_Cut (s sep:ByteArray)(m:Int)(w:World)(hs:s.size<4294967281)(hm:w.cell? ⟨2,0,none⟩=some (.int .i64 m)):Calls Tryz.prog 298 #[.string s,.string sep] w fun e w'=>e=.returned (.tuple #[.string ⟨(Lib.cut s.data.toList sep.data.toList).1.toArray⟩,.string ⟨(Lib.cut s.data.toList sep.data.toList).2.1.toArray⟩,.bool (Lib.cut s.data.toList sep.data.toList).2.2])∧∃ n,w'=w.drewN n:=Any.strings_Cut Tryz.lays145 s sep m w hs hm
def Tryz.lays138_ren:Go.Shelf.Ren:=⟨fun|138=>211|195=>221|218=>222|143=>213|219=>224|217=>159|225=>237|224=>238|267=>239|266=>184|314=>247|n=>n,fun|9=>9|3=>3|4=>4|5=>5|0=>0|46=>184|146=>330|51=>241|n=>n,fun|1=>2|n=>n⟩
theorem Tryz.lays138:Go.Proofs.Lays.n138 Tryz.prog Tryz.lays138_ren:={
 mixed:=by kernel_rfl
 f138:=Tryz.func211.trans (congrArg some (by kernel_rfl))
 f143:=Tryz.func213.trans (congrArg some (by kernel_rfl))
 f195:=Tryz.func221.trans (congrArg some (by kernel_rfl))
 f217:=Tryz.func159.trans (congrArg some (by kernel_rfl))
 f218:=Tryz.func222.trans (congrArg some (by kernel_rfl))
 f219:=Tryz.func224.trans (congrArg some (by kernel_rfl))
 f224:=Tryz.func238.trans (congrArg some (by kernel_rfl))
 f225:=Tryz.func237.trans (congrArg some (by kernel_rfl))
 f266:=Tryz.func184.trans (congrArg some (by kernel_rfl))
 f267:=Tryz.func239.trans (congrArg some (by kernel_rfl))
 f314:=Tryz.func247.trans (congrArg some (by kernel_rfl))
 t0:=Tryz.underlying0
 a0:=Tryz.isAgg0
 z0:=Tryz.sizeOf0
 v0:=Tryz.zeroValue0
 t3:=Tryz.underlying3
 a3:=Tryz.isAgg3
 z3:=Tryz.sizeOf3
 v3:=Tryz.zeroValue3
 t4:=Tryz.underlying4
 a4:=Tryz.isAgg4
 z4:=Tryz.sizeOf4
 v4:=Tryz.zeroValue4
 t5:=Tryz.underlying5
 a5:=Tryz.isAgg5
 z5:=Tryz.sizeOf5
 v5:=Tryz.zeroValue5
 t9:=Tryz.underlying9
 a9:=Tryz.isAgg9
 z9:=Tryz.sizeOf9
 v9:=Tryz.zeroValue9
 t46:=Tryz.underlying184
 a46:=Tryz.isAgg184
 z46:=Tryz.sizeOf184
 v46:=Tryz.zeroValue184
 t51:=Tryz.underlying241
 a51:=Tryz.isAgg241
 z51:=Tryz.sizeOf241
 v51:=Tryz.zeroValue241
 t146:=Tryz.underlying330
 a146:=Tryz.isAgg330
 z146:=Tryz.sizeOf330
 v146:=Tryz.zeroValue330
 g1:=by kernel_rfl }
open Go.RowKit Go.Lib in
theorem Tryz.strings_Count_one (s:ByteArray)(c:UInt8)(w:World):Calls Tryz.prog 211 #[.string s,.string ⟨#[c]⟩] w fun e w'=>e=.returned (.int .i64 (Lib.countByte s.data.toList c))∧w'=w:=Any.strings_Count_one Tryz.lays138 s c w
def Tryz.lays207_ren:Go.Shelf.Ren:=⟨fun|207=>128|n=>n,fun|9=>9|4=>4|3=>3|n=>n,fun|n=>n⟩
def Tryz.lays102_ren:Go.Shelf.Ren:=⟨fun|102=>50|209=>92|207=>128|n=>n,fun|9=>9|4=>4|3=>3|n=>n,fun|n=>n⟩
theorem Tryz.lays102:Go.Proofs.Lays.n102 Tryz.prog Tryz.lays102_ren:={
 mixed:=by kernel_rfl
 f102:=Tryz.func50.trans (congrArg some (by kernel_rfl))
 f207:=Tryz.func128.trans (congrArg some (by kernel_rfl))
 f209:=Tryz.func92.trans (congrArg some (by kernel_rfl))
 t3:=Tryz.underlying3
 a3:=Tryz.isAgg3
 z3:=Tryz.sizeOf3
 v3:=Tryz.zeroValue3
 t4:=Tryz.underlying4
 a4:=Tryz.isAgg4
 z4:=Tryz.sizeOf4
 v4:=Tryz.zeroValue4
 t9:=Tryz.underlying9
 a9:=Tryz.isAgg9
 z9:=Tryz.sizeOf9
 v9:=Tryz.zeroValue9 }
open Go.RowKit Go.Lib in
theorem Tryz.strings_TrimSuffix (s p:ByteArray)(w:World)(hs:s.size≤9223372036854775807):Calls Tryz.prog 50 #[.string s,.string p] w fun e w'=>e=.returned (.string ⟨(Lib.trimSuffix s.data.toList p.data.toList).toArray⟩)∧w'=w:=Any.strings_TrimSuffix Tryz.lays102 s p w hs
end Go.Proofs
namespace Go.Proofs.YtehllcbnheicoaaGreatDoor
open Go.RowKit Oct
section
theorem sizeBuilder:(Tryz.prog.info? 151).map (·.size)=some 2:=by kernel_rfl
theorem liesBuilder:liesAt Tryz.prog Tryz.prog.depth 151 (2 / Tryz.prog.cellsOf 151) 0 151 1=true:=by kernel_rfl
theorem jK (b:Nat)(w:World)(h0:w.cell? ⟨b,0,none⟩=some (.pointer (some ⟨b,0,none⟩))):Calls Tryz.prog 136 #[.pointer (some ⟨b,0,none⟩)] w fun e w'=>e=.returned (.tuple #[])∧w'=w:=by
 obtain⟨j,hj,_⟩:=Option.map_eq_some_iff.1 sizeBuilder;go_enter Tryz.func136,Tryz.ntmps136;go_wp2;rw[Lib.run_neq_ptr_same w _ Tryz.underlying148 hj];go_wp2;go_end0;exact⟨rfl,rfl⟩
theorem iX (b:Nat)(w:World)(h0:w.cell? ⟨b,0,none⟩=some (.pointer none))(hsh:w.shape? b=some (151,2))(hfz:w.frozen? ⟨b,0,none⟩=false):Calls Tryz.prog 136 #[.pointer (some ⟨b,0,none⟩)] w fun e w'=>e=.returned (.tuple #[])∧w'=w.setCell ⟨b,0,none⟩ (.pointer (some ⟨b,0,none⟩)):=by
 obtain⟨j,hj,hjs⟩:=Option.map_eq_some_iff.1 sizeBuilder;go_enter Tryz.func136,Tryz.ntmps136;go_wp2;rw[Lib.run_to_unsafe w ⟨b,0,none⟩ Tryz.underlying148 Tryz.underlying249 hj (by rw[hjs];decide) hsh (Nat.zero_lt_succ 1)];simp only[Result.andThen];rw[Oper.upon_value];go_wp2;rw[run_callFunc_extern Tryz.func163 (by kernel_rfl) (by kernel_rfl) (by kernel_rfl) (e:=Extern.AbiNoEscape.same) (by kernel_rfl)];rw[Lib.run_noEscape];simp only[Result.andThen];rw[Oper.upon_value];go_wp2;rw[Lib.run_from_unsafe w ⟨b,0,none⟩ Tryz.underlying249 Tryz.underlying148 hj hsh liesBuilder];simp only[Result.andThen];rw[Oper.upon_value];go_wp2;go_end0;exact⟨rfl,rfl⟩
theorem oR (B b:Nat)(bs:List Value)(w:World)(h:Lib.IsBuilder 151 5 B b bs w):Calls Tryz.prog 136 #[.pointer (some ⟨b,0,none⟩)] w fun e w'=>e=.returned (.tuple #[])∧(Lib.BuilderAt 151 5 B b (.pointer (some ⟨b,0,none⟩)) bs w'∧Below B w w'):=by
 rcases h with h|h
 ·refine(iX b w h.cell0 h.shape h.frozen0).mono ?_
  rintro e w' ⟨rfl,rfl⟩;exact⟨rfl,h.used _,(Em B w).setCell (p:=⟨b,0,none⟩) h.1 _⟩
 ·refine(jK b w h.cell0).mono ?_
  rintro e w' ⟨rfl,rfl⟩;exact⟨rfl,h,Em B _⟩
theorem Iq {T:Prop} (h:T:=by
 rcases Nat.lt_or_ge b w1.heap.size with h'|h'
 ·exact h'
 ·simp[Array.getElem?_eq_none h']at hbk
):T:=h
theorem mN (B b:Nat)(bs:List Value)(s:ByteArray)(w:World)(h:Lib.IsBuilder 151 5 B b bs w)(hlen:bs.length+s.size≤140737488355328)(hBw:B≤w.heap.size):Calls Tryz.prog 98 #[.pointer (some ⟨b,0,none⟩),.string s] w fun e w'=>e=.returned (.tuple #[.int .i64 s.size,.nilIface])∧(Lib.BuilderAt 151 5 B b (.pointer (some ⟨b,0,none⟩)) (bs++Lib.strCells s) w'∧Below B w w'):=by
 obtain⟨i0,hi,hz0,hz1,hz2⟩:=info_parts nZ;go_enter Tryz.func98,Tryz.ntmps98;go_wp2_with (go_at_call 136;refine(oR B b bs _ h).mono ?_);rintro e w1 ⟨rfl,h1,hb1⟩;obtain⟨hB,v,hbk,hown,hne⟩:=h1;have c0:w1.cell? ⟨b,0,none⟩=some (.pointer (some ⟨b,0,none⟩)):=by rw[Lib.cell_of_heap hbk];rfl
 have c1:w1.cell? ⟨b,1,none⟩=some v:=by rw[Lib.cell_of_heap hbk];rfl
 go_wp2_with (at_builtin;refine Lib.wpList_append_own_string _ rfl _ _ 149 9 rfl B 5 i0 Tryz.underlying149 Tryz.underlying9 hi hz0 hz1 hz2 _ _ _ rfl hown s rfl ?c3 ?c4 ?c5 ?_)
 case c3=>unfold maxLen;omega
 case c4=>omega
 case c5=>have:=hb1.size;omega
 intro v' w2 hown' hgrow _
 have hlt:b<w1.heap.size:=by
  exact Iq
 have hb2:w2.heap[b]?=some (.cells #[.pointer (some ⟨b,0,none⟩),v] 151 (0,0)):=by
  rw[hgrow.block b hlt (fun e=>hne e.symm)];exact hbk
 have d0:w2.cell? ⟨b,0,none⟩=some (.pointer (some ⟨b,0,none⟩)):=by rw[Lib.cell_of_heap hb2];rfl
 have d1:w2.cell? ⟨b,1,none⟩=some v:=by rw[Lib.cell_of_heap hb2];rfl
 have f1:w2.frozen? ⟨b,1,none⟩=false:=Lib.frozen_of_heap hb2 1
 obtain⟨ao,n',cap,rfl⟩:∃ ao n' cap,v'=.slice ao n' cap:=by
  rcases hown'.2 with ⟨hv,_⟩|⟨g,cap,cur,hv,_⟩
  ·exact⟨_,_,_,hv⟩
  ·exact⟨_,_,_,hv⟩
 go_wp2;go_ret2;refine⟨rfl,?_,?_⟩
 ·exact Lib.BuilderAt.put (T:=151) (e:=5) hB hb2 (bs':=bs++Lib.strCells s) (by simpa[Lib.strCells_length] using hown') (by decide)
 ·exact(hb1.grown hgrow (by have:=hb1.size;omega) (fun k hk=>(hown.lt k hk).1)).setCell (p:=⟨b,1,none⟩) hB _
def Bld (B b:Nat)(l:LU_)(w:World):Prop:=B≤w.heap.size∧Lib.IsBuilder 151 5 B b (aT l) w
theorem Bld.fresh (w:World):Bld w.heap.size w.heap.size [] (w.alloc (.cells #[.pointer none,.slice none 0 0] 151)):=⟨by simp,Lib.fresh_isBuilder _ _ w⟩
theorem ru (l:LU_):Lib.strCells (bs l)=aT l:=by simp[Lib.strCells,aT,bs]
theorem ja {T e:TypeId}{B b:Nat}{p:Value}{l:List Value}{w w':World}(h:Lib.BuilderAt T e B b p l w)(hB:Below w.heap.size w w'):Lib.BuilderAt T e B b p l w':=by
 have hlt:=h.lt;obtain⟨h1,v,h2,h3,h4⟩:=h;exact⟨h1,v,(hB.block b hlt).trans h2,bn h3 hB,h4⟩
theorem Bld.below {B b:Nat}{l:LU_}{w w':World}(h:Bld B b l w)(hB:Below w.heap.size w w'):Bld B b l w' :=
 ⟨En h.1 hB.size,h.2.imp (fun h=>ja h hB) (fun h=>ja h hB)⟩
theorem fU (B b:Nat)(l m:LU_)(w:World)(h:Bld B b l w)(hlen:l.length+m.length≤140737488355328):Calls Tryz.prog 98 #[.pointer (some ⟨b,0,none⟩),.string (bs m)] w fun e w'=>e=.returned (.tuple #[.int .i64 m.length,.nilIface])∧Bld B b (l++m) w'∧Below B w w':=by
 refine(mN B b (aT l) (bs m) w h.2 (by rw[bo,bY];exact hlen) h.1).mono ?_;rintro e w' ⟨rfl,h1,h2⟩;refine⟨by rw[bY],⟨En h.1 h2.size,.inr ?_⟩,h2⟩;rw[ru]at h1;simpa[aT] using h1
theorem mI (B b:Nat)(l:LU_)(w:World)(h:Bld B b l w):Calls Tryz.prog 101 #[.pointer (some ⟨b,0,none⟩)] w fun e w'=>e=.returned (.string (bs l))∧Below B w w' :=
 Tryz.Builder_String_any B b l w h.2 h.1
end
section
def U (x:UInt32):Int:=(x.toNat:Int)
theorem dw (x:UInt32):U x=(x.toNat:Int):=rfl
theorem oT (x:UInt32):x.toNat<4294967296:=x.toNat_lt
@[go_sem] theorem gI (a b:UInt32):bits .xor .u32 (U a) (U b)=U (a ^^^ b):=by
 rw[dw,dw,u32_xor_nat _ _ (oT a) (oT b),dw,UInt32.toNat_xor]
@[go_sem] theorem gV (a b:UInt32):bits .and .u32 (U a) (U b)=U (a &&& b):=by
 rw[dw,dw,u32_and_nat _ _ (oT a) (oT b),dw,UInt32.toNat_and]
@[go_sem] theorem ke (a b:UInt32):bits .or .u32 (U a) (U b)=U (a ||| b):=by
 rw[dw,dw,u32_or_nat _ _ (oT a) (oT b),dw,UInt32.toNat_or]
theorem qZ (z:Int):IntKind.u32.wrap z=z%(4294967296:Int):=by
 simp[IntKind.wrap,IntKind.bits,IntKind.signed]
@[go_sem] theorem gJ (a b:UInt32):IntKind.u32.wrap (U a+U b)=U (a+b):=by
 rw[qZ,dw,dw,dw,UInt32.toNat_add];omega
theorem wA (x:UInt32)(n:Nat)(h:n≤31):U x / 2 ^ n=U (x >>> UInt32.ofNat n):=by
 rw[dw,dw,UInt32.toNat_shiftRight,UInt32.toNat_ofNat_of_lt' (by show n<4294967296;omega),Nat.mod_eq_of_lt (by omega),Nat.shiftRight_eq_div_pow]
 norm_cast
theorem tD (x:UInt32)(n:Nat)(h:n≤31):U x*2 ^ n%4294967296=U (x <<< UInt32.ofNat n):=by
 rw[dw,dw,UInt32.toNat_shiftLeft,UInt32.toNat_ofNat_of_lt' (by show n<4294967296;omega),Nat.mod_eq_of_lt (show n<32 by omega),Nat.shiftLeft_eq];have e:(4294967296:Int)=((2 ^ 32:Nat):Int):=rfl;have e2:(2:Int) ^ n=((2 ^ n:Nat):Int):=by norm_cast
 rw[e,e2,←Int.natCast_mul,←Int.natCast_emod]
@[go_sem] theorem dQ (x:UInt32):U x*(16777216:Int)%(4294967296:Int)=U (x <<< 24):=tD x 24 (by omega)
@[go_sem] theorem dR (x:UInt32):U x*(65536:Int)%(4294967296:Int)=U (x <<< 16):=tD x 16 (by omega)
@[go_sem] theorem eY (x:UInt32):U x*(256:Int)%(4294967296:Int)=U (x <<< 8):=tD x 8 (by omega)
@[go_sem] theorem eX (x:UInt32):U x / (8:Int)=U (x >>> 3):=wA x 3 (by omega)
@[go_sem] theorem dP (x:UInt32):U x / (1024:Int)=U (x >>> 10):=wA x 10 (by omega)
@[go_sem] theorem fd (a b:UInt32):(U a+U b)%(4294967296:Int)=U (a+b):=by rw[←qZ,gJ]
@[go_sem] theorem fc (a b c:UInt32):(U a+U b+U c)%(4294967296:Int)=U (a+b+c):=by
 simp only[dw,UInt32.toNat_add];omega
@[go_sem] theorem fb (a b c d:UInt32):(U a+U b+U c+U d)%(4294967296:Int)=U (a+b+c+d):=by
 simp only[dw,UInt32.toNat_add];omega
@[go_sem] theorem fa (a b c d e:UInt32):(U a+U b+U c+U d+U e)%(4294967296:Int)=U (a+b+c+d+e):=by
 simp only[dw,UInt32.toNat_add];omega
@[go_sem] theorem eZ (c:UInt8):(c.toNat:Int)%(4294967296:Int)=U c.toUInt32:=by
 have:=c.toNat_lt;rw[dw,UInt8.toNat_toUInt32];omega
def az (l:List UInt32):List Value:=l.map fun x=>.int .u32 (U x)
theorem aE (l:List UInt32):(az l).length=l.length:=by simp[az]
theorem o7 (l:List UInt32)(k:Nat)(h:k<l.length):(az l)[k]?=some (.int .u32 (U l[k])):=by simp[az,h]
theorem gq (l:List UInt32)(k:Nat)(x:UInt32):(az l).set k (.int .u32 (U x))=az (l.set k x):=by simp[az,List.map_set]
theorem fj (l:List UInt32):(az l).toArray.all (·.oneCell')=true:=by
 rw[List.all_toArray,List.all_eq_true];intro v hv;simp only[az,List.mem_map]at hv;obtain⟨x,_,rfl⟩:=hv;rfl
def Blk (w:World)(b:Nat)(t:TypeId)(cs:List Value):Prop:=w.heap[b]?=some (.cells cs.toArray t (0,0))
theorem Blk.lt {w:World}{b:Nat}{t:TypeId}{cs:List Value}(h:Blk w b t cs):b<w.heap.size:=by
 rcases Nat.lt_or_ge b w.heap.size with hn|hn
 ·exact hn
 ·simp[Blk,Array.getElem?_eq_none hn]at h
theorem Blk.cell {w:World}{b:Nat}{t:TypeId}{cs:List Value}(h:Blk w b t cs){k:Nat}{v:Value}(hv:cs[k]?=some v):w.cell? ⟨b,k,none⟩=some v:=by
 rw[cell_of_row w b k _ t _ h];simpa using hv
theorem Blk.free {w:World}{b:Nat}{t:TypeId}{cs:List Value}(h:Blk w b t cs){k:Nat}(hk:k<cs.length):w.frozen? ⟨b,k,none⟩=false:=by
 unfold Blk at h;simp[World.frozen?,h]
theorem Blk.set {w:World}{b:Nat}{t:TypeId}{cs:List Value}(h:Blk w b t cs)(k:Nat)(v:Value):Blk (w.setCell ⟨b,k,none⟩ v) b t (cs.set k v):=by
 unfold Blk at h⊢;simp[World.setCell,Array.getElem?_modify,h]
theorem Blk.row {w:World}{b:Nat}{t:TypeId}{cs:List Value}(h:Blk w b t cs)(cs':List Value):Blk (w.setRow b cs'.toArray) b t cs':=by
 unfold Blk at h⊢;simp[World.setRow,Array.getElem?_modify,h]
theorem Blk.below {w w':World}{b:Nat}{t:TypeId}{cs:List Value}(h:Blk w b t cs)(hB:Below w.heap.size w w'):Blk w' b t cs:=by
 unfold Blk;rw[hB.block b h.lt];exact h
theorem Blk.chg {X:Nat→Prop}{w w':World}{b:Nat}{t:TypeId}{cs:List Value}(h:Blk w b t cs)(hB:Chg X w w')(hX:¬X b):Blk w' b t cs:=hB.at h hX
theorem Blk.new (w:World)(cs:List Value)(t:TypeId):Blk (w.alloc (.cells cs.toArray t)) w.heap.size t cs:=by
 exact heap_alloc_last w _
theorem gF (w:World)(b:Nat)(cs:Array Value)(k:Nat)(h:k≠b):(w.setRow b cs).heap[k]?=w.heap[k]?:=by
 unfold World.setRow;rw[Array.getElem?_modify,if_neg (fun e=>h e.symm)]
theorem jp (w:World)(b:Nat)(cs:Array Value):(w.setRow b cs).heap.size=w.heap.size:=by simp[World.setRow]
theorem aI {B:Nat}{a w:World}(h:Below B a w){b:Nat}(hb:B≤b)(cs:Array Value):Below B a (w.setRow b cs) :=
 ⟨h.os,h.tape,h.output,by rw[jp];exact h.size,fun k hk=>by rw[gF w b cs k (by omega)];exact h.block k hk⟩
theorem iT {X:Nat→Prop}(w:World)(b:Nat)(cs:Array Value)(hX:X b):Chg X w (w.setRow b cs) :=
 ⟨rfl,rfl,rfl,by rw[jp];exact Ei _,fun k _ hn=>gF w b cs k fun e=>hn (e▸hX)⟩
section
variable {P:Program}{ops:Array Oper}{rest:List Oper}{op:Oper}{a:Act}{w:World}{Q:Exit→Act→World→Prop}
theorem lr (b:Nat)(cs:List Value){t:TypeId}(h:Blk w b t cs)(d:TypeDesc)(hgd:op.guard=none)(ty:TypeId)(x:Operand)(ho:op.op=.load ty x)(hx:a.eval x=.pointer (some ⟨b,0,none⟩))(hu:P.underlying ty=some d)(hd:(match d with|.struct _|.array _ _=>true|_=>false)=true)(hi:(P.info? ty).map (·.size)=some cs.length)(k:wpList P ops Q rest (a.put op.dst (.agg cs.toArray)) w):wpList P ops Q (op::rest) a w :=
 wpList_plain hgd fun _ hK=>wp_load_row ty x ho b hx t cs.toArray (0,0) d h hu hd (by simpa using hi) (hK _ _ k)
theorem gp (b:Nat)(cs cs':List Value){t:TypeId}(h:Blk w b t cs)(hgd:op.guard=none)(ty:TypeId)(x y:Operand)(ho:op.op=.store ty x y)(hx:a.eval x=.pointer (some ⟨b,0,none⟩))(hy:a.eval y=.agg cs'.toArray)(hi:(P.info? ty).map (·.size)=some cs'.length)(hl:cs.length=cs'.length)(h1:cs'.toArray.all (·.oneCell')=true)(k:wpList P ops Q rest (a.put op.dst undef) (w.setRow b cs'.toArray)):wpList P ops Q (op::rest) a w :=
 wpList_plain hgd fun _ hK=>wp_store_row ty x y ho b cs'.toArray hx hy t cs.toArray h (by simpa using hi) (by simpa using hl) h1 (hK _ _ k)
theorem j8 (cs':List Value)(hgd:op.guard=none)(t:TypeId)(parts:Array (Nat×Operand))(ho:op.op=.build t parts)(hb:P.built t (parts.map fun (i,x)=>(i,a.eval x)).toList=some cs'.toArray)(k:wpList P ops Q rest (a.put op.dst (.agg cs'.toArray)) w):wpList P ops Q (op::rest) a w :=
 wpList_build hgd t parts ho (by rw[hb];rfl) (by rw[hb];exact k)
theorem kE {fn:Func}{p:Tmp}{ty t:TypeId}{tmps:Array Value}{cs:List Value}{b:Nat}(hr:fn.results=#[.cell p ty])(hp:tmps.getD p undef=.pointer (some ⟨b,0,none⟩))(h:Blk w b t cs)(d:TypeDesc)(hu:P.underlying ty=some d)(hd:(match d with|.struct _|.array _ _=>true|_=>false)=true)(hi:(P.info? ty).map (·.size)=some cs.length):(results fn tmps).run P w=.ok (.agg cs.toArray) w:=by
 have:=run_loadVar_row w b t ty cs.toArray (0,0) d h hu hd (by simpa using hi);simp only[Array.getD_eq_getD_getElem?]at hp;simp[results,hr,Sem.run_bind,Result.andThen,hp,asAddr,this]
end
theorem cl2 {w:World}{b:Nat}{t:TypeId}{v0 v1:Value}{l:List Value}(h:Blk w b t (v0::v1::l)):w.cell? ⟨b,0,none⟩=some v0∧w.cell? ⟨b,1,none⟩=some v1:=⟨h.cell (k:=0) rfl,h.cell (k:=1) rfl⟩
theorem cl3 {w:World}{b:Nat}{t:TypeId}{v0 v1 v2:Value}{l:List Value}(h:Blk w b t (v0::v1::v2::l)):w.cell? ⟨b,0,none⟩=some v0∧w.cell? ⟨b,1,none⟩=some v1∧w.cell? ⟨b,2,none⟩=some v2:=⟨h.cell (k:=0) rfl,h.cell (k:=1) rfl,h.cell (k:=2) rfl⟩
theorem cl4 {w:World}{b:Nat}{t:TypeId}{v0 v1 v2 v3:Value}{l:List Value}(h:Blk w b t (v0::v1::v2::v3::l)):w.cell? ⟨b,0,none⟩=some v0∧w.cell? ⟨b,1,none⟩=some v1∧w.cell? ⟨b,2,none⟩=some v2∧w.cell? ⟨b,3,none⟩=some v3:=⟨h.cell (k:=0) rfl,h.cell (k:=1) rfl,h.cell (k:=2) rfl,h.cell (k:=3) rfl⟩
theorem cl5 {w:World}{b:Nat}{t:TypeId}{v0 v1 v2 v3 v4:Value}{l:List Value}(h:Blk w b t (v0::v1::v2::v3::v4::l)):w.cell? ⟨b,0,none⟩=some v0∧w.cell? ⟨b,1,none⟩=some v1∧w.cell? ⟨b,2,none⟩=some v2∧w.cell? ⟨b,3,none⟩=some v3∧w.cell? ⟨b,4,none⟩=some v4:=⟨h.cell (k:=0) rfl,h.cell (k:=1) rfl,h.cell (k:=2) rfl,h.cell (k:=3) rfl,h.cell (k:=4) rfl⟩
theorem cl6 {w:World}{b:Nat}{t:TypeId}{v0 v1 v2 v3 v4 v5:Value}{l:List Value}(h:Blk w b t (v0::v1::v2::v3::v4::v5::l)):w.cell? ⟨b,0,none⟩=some v0∧w.cell? ⟨b,1,none⟩=some v1∧w.cell? ⟨b,2,none⟩=some v2∧w.cell? ⟨b,3,none⟩=some v3∧w.cell? ⟨b,4,none⟩=some v4∧w.cell? ⟨b,5,none⟩=some v5:=⟨h.cell (k:=0) rfl,h.cell (k:=1) rfl,h.cell (k:=2) rfl,h.cell (k:=3) rfl,h.cell (k:=4) rfl,h.cell (k:=5) rfl⟩
theorem cl7 {w:World}{b:Nat}{t:TypeId}{v0 v1 v2 v3 v4 v5 v6:Value}{l:List Value}(h:Blk w b t (v0::v1::v2::v3::v4::v5::v6::l)):w.cell? ⟨b,0,none⟩=some v0∧w.cell? ⟨b,1,none⟩=some v1∧w.cell? ⟨b,2,none⟩=some v2∧w.cell? ⟨b,3,none⟩=some v3∧w.cell? ⟨b,4,none⟩=some v4∧w.cell? ⟨b,5,none⟩=some v5∧w.cell? ⟨b,6,none⟩=some v6:=⟨h.cell (k:=0) rfl,h.cell (k:=1) rfl,h.cell (k:=2) rfl,h.cell (k:=3) rfl,h.cell (k:=4) rfl,h.cell (k:=5) rfl,h.cell (k:=6) rfl⟩
theorem cl8 {w:World}{b:Nat}{t:TypeId}{v0 v1 v2 v3 v4 v5 v6 v7:Value}{l:List Value}(h:Blk w b t (v0::v1::v2::v3::v4::v5::v6::v7::l)):w.cell? ⟨b,0,none⟩=some v0∧w.cell? ⟨b,1,none⟩=some v1∧w.cell? ⟨b,2,none⟩=some v2∧w.cell? ⟨b,3,none⟩=some v3∧w.cell? ⟨b,4,none⟩=some v4∧w.cell? ⟨b,5,none⟩=some v5∧w.cell? ⟨b,6,none⟩=some v6∧w.cell? ⟨b,7,none⟩=some v7:=⟨h.cell (k:=0) rfl,h.cell (k:=1) rfl,h.cell (k:=2) rfl,h.cell (k:=3) rfl,h.cell (k:=4) rfl,h.cell (k:=5) rfl,h.cell (k:=6) rfl,h.cell (k:=7) rfl⟩
theorem cl9 {w:World}{b:Nat}{t:TypeId}{v0 v1 v2 v3 v4 v5 v6 v7 v8:Value}{l:List Value}(h:Blk w b t (v0::v1::v2::v3::v4::v5::v6::v7::v8::l)):w.cell? ⟨b,0,none⟩=some v0∧w.cell? ⟨b,1,none⟩=some v1∧w.cell? ⟨b,2,none⟩=some v2∧w.cell? ⟨b,3,none⟩=some v3∧w.cell? ⟨b,4,none⟩=some v4∧w.cell? ⟨b,5,none⟩=some v5∧w.cell? ⟨b,6,none⟩=some v6∧w.cell? ⟨b,7,none⟩=some v7∧w.cell? ⟨b,8,none⟩=some v8:=⟨h.cell (k:=0) rfl,h.cell (k:=1) rfl,h.cell (k:=2) rfl,h.cell (k:=3) rfl,h.cell (k:=4) rfl,h.cell (k:=5) rfl,h.cell (k:=6) rfl,h.cell (k:=7) rfl,h.cell (k:=8) rfl⟩
theorem cl10 {w:World}{b:Nat}{t:TypeId}{v0 v1 v2 v3 v4 v5 v6 v7 v8 v9:Value}{l:List Value}(h:Blk w b t (v0::v1::v2::v3::v4::v5::v6::v7::v8::v9::l)):w.cell? ⟨b,0,none⟩=some v0∧w.cell? ⟨b,1,none⟩=some v1∧w.cell? ⟨b,2,none⟩=some v2∧w.cell? ⟨b,3,none⟩=some v3∧w.cell? ⟨b,4,none⟩=some v4∧w.cell? ⟨b,5,none⟩=some v5∧w.cell? ⟨b,6,none⟩=some v6∧w.cell? ⟨b,7,none⟩=some v7∧w.cell? ⟨b,8,none⟩=some v8∧w.cell? ⟨b,9,none⟩=some v9:=⟨h.cell (k:=0) rfl,h.cell (k:=1) rfl,h.cell (k:=2) rfl,h.cell (k:=3) rfl,h.cell (k:=4) rfl,h.cell (k:=5) rfl,h.cell (k:=6) rfl,h.cell (k:=7) rfl,h.cell (k:=8) rfl,h.cell (k:=9) rfl⟩
theorem fr2 {w:World}{b:Nat}{t:TypeId}{v0 v1:Value}{l:List Value}(h:Blk w b t (v0::v1::l)):w.frozen? ⟨b,0,none⟩=false∧w.frozen? ⟨b,1,none⟩=false:=⟨h.free (k:=0) (by simp),h.free (k:=1) (by simp)⟩
theorem fr3 {w:World}{b:Nat}{t:TypeId}{v0 v1 v2:Value}{l:List Value}(h:Blk w b t (v0::v1::v2::l)):w.frozen? ⟨b,0,none⟩=false∧w.frozen? ⟨b,1,none⟩=false∧w.frozen? ⟨b,2,none⟩=false:=⟨h.free (k:=0) (by simp),h.free (k:=1) (by simp),h.free (k:=2) (by simp)⟩
theorem fr4 {w:World}{b:Nat}{t:TypeId}{v0 v1 v2 v3:Value}{l:List Value}(h:Blk w b t (v0::v1::v2::v3::l)):w.frozen? ⟨b,0,none⟩=false∧w.frozen? ⟨b,1,none⟩=false∧w.frozen? ⟨b,2,none⟩=false∧w.frozen? ⟨b,3,none⟩=false:=⟨h.free (k:=0) (by simp),h.free (k:=1) (by simp),h.free (k:=2) (by simp),h.free (k:=3) (by simp)⟩
theorem fr5 {w:World}{b:Nat}{t:TypeId}{v0 v1 v2 v3 v4:Value}{l:List Value}(h:Blk w b t (v0::v1::v2::v3::v4::l)):w.frozen? ⟨b,0,none⟩=false∧w.frozen? ⟨b,1,none⟩=false∧w.frozen? ⟨b,2,none⟩=false∧w.frozen? ⟨b,3,none⟩=false∧w.frozen? ⟨b,4,none⟩=false:=⟨h.free (k:=0) (by simp),h.free (k:=1) (by simp),h.free (k:=2) (by simp),h.free (k:=3) (by simp),h.free (k:=4) (by simp)⟩
theorem fr6 {w:World}{b:Nat}{t:TypeId}{v0 v1 v2 v3 v4 v5:Value}{l:List Value}(h:Blk w b t (v0::v1::v2::v3::v4::v5::l)):w.frozen? ⟨b,0,none⟩=false∧w.frozen? ⟨b,1,none⟩=false∧w.frozen? ⟨b,2,none⟩=false∧w.frozen? ⟨b,3,none⟩=false∧w.frozen? ⟨b,4,none⟩=false∧w.frozen? ⟨b,5,none⟩=false:=⟨h.free (k:=0) (by simp),h.free (k:=1) (by simp),h.free (k:=2) (by simp),h.free (k:=3) (by simp),h.free (k:=4) (by simp),h.free (k:=5) (by simp)⟩
theorem fr7 {w:World}{b:Nat}{t:TypeId}{v0 v1 v2 v3 v4 v5 v6:Value}{l:List Value}(h:Blk w b t (v0::v1::v2::v3::v4::v5::v6::l)):w.frozen? ⟨b,0,none⟩=false∧w.frozen? ⟨b,1,none⟩=false∧w.frozen? ⟨b,2,none⟩=false∧w.frozen? ⟨b,3,none⟩=false∧w.frozen? ⟨b,4,none⟩=false∧w.frozen? ⟨b,5,none⟩=false∧w.frozen? ⟨b,6,none⟩=false:=⟨h.free (k:=0) (by simp),h.free (k:=1) (by simp),h.free (k:=2) (by simp),h.free (k:=3) (by simp),h.free (k:=4) (by simp),h.free (k:=5) (by simp),h.free (k:=6) (by simp)⟩
theorem fr8 {w:World}{b:Nat}{t:TypeId}{v0 v1 v2 v3 v4 v5 v6 v7:Value}{l:List Value}(h:Blk w b t (v0::v1::v2::v3::v4::v5::v6::v7::l)):w.frozen? ⟨b,0,none⟩=false∧w.frozen? ⟨b,1,none⟩=false∧w.frozen? ⟨b,2,none⟩=false∧w.frozen? ⟨b,3,none⟩=false∧w.frozen? ⟨b,4,none⟩=false∧w.frozen? ⟨b,5,none⟩=false∧w.frozen? ⟨b,6,none⟩=false∧w.frozen? ⟨b,7,none⟩=false:=⟨h.free (k:=0) (by simp),h.free (k:=1) (by simp),h.free (k:=2) (by simp),h.free (k:=3) (by simp),h.free (k:=4) (by simp),h.free (k:=5) (by simp),h.free (k:=6) (by simp),h.free (k:=7) (by simp)⟩
theorem bn_ {w W:World}{D:Nat}{t:TypeId}{cs:List Value}(h:D=w.heap.size)(h2:W=w.alloc (.cells cs.toArray t)):Blk W D t cs:=by rw[h,h2];exact Blk.new w _ _
theorem bm_ {w W:World}{t:TypeId}{cs:List Value}(h2:W=w.alloc (.cells cs.toArray t)):Blk W w.heap.size t cs:=by rw[h2];exact Blk.new w _ _
end
section
variable {P:Program}
theorem oP (z:Value)(n:Nat):madeCells #[z] n=(List.replicate n z).toArray:=by
 apply Array.ext
 ·simp[madeCells]
 ·intro i h1 h2
  simp[madeCells];simp[madeCells,Nat.mod_one]
theorem lf (t e:TypeId)(z:Value)(bytes:Nat)(ht:P.underlying t=some (.slice e))(hinfo:(P.info? e).map (fun i=>(i.zero,i.size,i.bytes))=some (some z,1,bytes))(hz:z.cells=#[z])(n:Nat)(hb:(bytes:Int)*(n:Int)≤281474976710656)(hn:n≤140737488355328)(w:World):(Instr.makeSlice t (.int .i64 (n:Int)) (.int .i64 (n:Int))).run P w=.ok (.slice (some ⟨w.heap.size,0,none⟩) n n) (w.alloc (.cells (List.replicate n z).toArray e)):=by
 obtain⟨i,hi,hz0,hi1,hi2⟩:=info_parts hinfo;have:=run_make (P:=P) w t e i z ht hi hz0 .i64 .i64 n n (by omega) (Int.le_refl _) (by rw[hi2];exact hb) (by omega);rw[this,hz,hi1,Nat.mul_one,EP,oP]
end
section
section
variable {P:Program}
theorem mh (w:World)(bZ:Nat)(t ty e:TypeId)(i:TypeInfo)(z:Value)(size bytes:Nat)(ht:P.underlying t=some (.slice e))(hi:P.info? e=some i)(hz:i.zero=some z)(hsize:i.size=size)(hby:i.bytes=bytes)(hzs:z.cells.size=size)(hsz:0<size)(v:Value)(n:Nat)(xs:List Value)(hown:w.ownsRow bZ e size v n xs)(a:Addr)(m c:Nat)(news:List Value)(hl:news.length=m*size)(hnews:∀ j u,news[j]?=some u→w.cell? (a.add j)=some u)(h1:∀ u∈news,u.oneCell'=true)(h63:n+m≤maxLen)(hbytes:(n+m)*bytes≤140737488355328)(hbase:bZ≤w.heap.size):∃ v' w',(Builtin.append_ #[t,t] ty #[v,.slice (some a) m c]).run P w=.ok v' w'∧w'.ownsRow bZ e size v' (n+m) (xs++news)∧w.grownBy w' v.ownBlock ∧((∀ k,k<w.heap.size→w'.heap[k]?=w.heap[k]?) ∨ ∃ g cap cur cur',v=.slice (some ⟨g,0,none⟩) n cap∧w.heap[g]?=some (.cells cur e (0,0))∧w'.heap[g]?=some (.cells cur' e (0,0))∧cur'.size=cur.size∧cur'.toList.take ((n+m)*size)=xs++news∧(∀ k,k≠g→w'.heap[k]?=w.heap[k]?)):=by
 subst hsize;subst hby;have hsmall:n+m≤9223372036854775807:=by simp only[maxLen]at h63;omega
 have hlen:(xs++news).length=(n+m)*i.size:=by rw[Ev,hown.1,hl,Nat.add_mul]
 have grown:∀ (old:Nat),old<n+m→∀ (row:Option Nat),
   (w.drew.alloc (.cells (xs.toArray++news.toArray++Builtin.zeroCells z.cells (grownCap w (n+m) old e-(n+m))) e)).ownsRow bZ e i.size
    (.slice (some ⟨w.heap.size,0,none⟩) (n+m) (grownCap w (n+m) old e)) (n+m) (xs++news) ∧
   w.grownBy (w.drew.alloc (.cells (xs.toArray++news.toArray++Builtin.zeroCells z.cells (grownCap w (n+m) old e-(n+m))) e)) row:=by
  intro old ho row;have hge:=grownCap_ge w (n+m) old e;have hcm:grownCap w (n+m) old e≤maxLen:=grownCap_le_maxLen w (n+m) old e h63;refine⟨⟨hlen,.inr ⟨w.heap.size,_,_,rfl,hbase,heap_alloc_new w.drew _,hge,hcm,?_,?_⟩⟩,⟨rfl,rfl,rfl,by simp,fun k hk _=>by first|exact heap_alloc_old w.drew _ k hk|exact heap_alloc_old w.drew _ hk⟩⟩
  ·simp only[Array.size_append,List.size_toArray,size_zeroCells,hzs,hown.1,hl,←Nat.add_mul]
   congr 1;omega
  ·simp only[Array.toList_append,Et]
   rw[←Et,←hlen];exact List.take_left
 rcases hown.2 with ⟨rfl,rfl⟩|⟨g,cap,cur,rfl,hbg,hg,hnc,hcm,hcs,htake⟩
 ·have hx:xs=[]:=Ej (by simpa using hown.1)
  subst hx
  by_cases hm:m=0
  ·subst hm
   have hn:news=[]:=Ej (by simpa using hl);subst hn;refine⟨.slice none 0 0,w,?_,World.ownsRow_nil w bZ e i.size,⟨rfl,rfl,rfl,Ei _,fun _ _ _=>rfl⟩,.inl fun _ _=>rfl⟩;simp[Builtin.append_,run_underlying ht,sizeOf,typeInfo,hi,Builtin.lenOf,Builtin.firstCells,loadCells,loadCellsFrom]
  ·have hr:=run_append_nil (P:=P) w t ty e i z ht hi hz a m c news hl hnews (by omega) (by omega) (by have hb:=hbytes;simp only[Ek]at hb;omega)
   have hgr:=grown 0 (by omega) (Value.ownBlock (.slice none 0 0));simp only[Ek,Eu,Array.empty_append]at hgr⊢;exact⟨_,_,hr,hgr.1,hgr.2,.inl fun k hk=>hgr.2.block k hk (by simp[Value.ownBlock])⟩
 ·by_cases hroom:n+m≤cap
  ·have hfit:n*i.size+news.length≤cur.size:=by rw[hl,hcs,←Nat.add_mul];exact EK _ hroom
   have hr:=run_append_room (P:=P) w t ty e i ht hi g n cap cur hg a m c news hl hnews h1 hroom hfit;refine⟨_,_,hr,⟨hlen,.inr ⟨g,cap,_,rfl,hbg,setRow_heap w g cur _ e _ hg,hroom,hcm,?_,?_⟩⟩,⟨rfl,rfl,rfl,by simp,fun k _ hk=>setRow_other w g k _ (fun e=>hk (by simp[Value.ownBlock,e]))⟩,.inr ⟨g,cap,cur,_,rfl,hg,setRow_heap w g cur _ e _ hg,?_,?_,fun k hk=>setRow_other w g k _ (fun e=>hk e)⟩⟩
   ·simp only[List.size_toArray,Ev,EJ,Ew,Array.length_toList]
    omega
   ·rw[htake,←hlen]
    exact List.take_left
   ·simp only[List.size_toArray,Ev,EJ,Ew,Array.length_toList]
    omega
   ·rw[htake,←hlen]
    exact List.take_left
  ·have holds:∀ j u,xs[j]?=some u→w.cell? ((⟨g,0,none⟩:Addr).add j)=some u:=hown.cells (g:=g) rfl
   have hr:=run_append_grow (P:=P) w t ty e i z ht hi hz ⟨g,0,none⟩ n cap xs hown.1 holds a m c news hl hnews (by omega) (by omega) (growslice_fits (by omega) hbytes);have hgr:=grown cap (by omega) (Value.ownBlock (.slice (some ⟨g,0,none⟩) n cap));exact⟨_,_,hr,hgr.1,hgr.2,.inl fun k hk=>(grown cap (by omega) none).2.block k hk (by simp)⟩
end
theorem zN {w w':World}{bZ:Nat}{e:TypeId}{size:Nat}{v:Value}{n:Nat}{xs:List Value}(h:w.ownsRow bZ e size v n xs)(h4:∀ k,k<w.heap.size→w'.heap[k]?=w.heap[k]?):w'.ownsRow bZ e size v n xs:=by
 refine⟨h.1,?_⟩;rcases h.2 with h5|⟨g2,c2,cur2,rfl,hb2,hh2,hr⟩
 ·exact .inl h5
 ·refine .inr ⟨g2,c2,cur2,rfl,hb2,?_,hr⟩
  rw[h4 g2 ?_]
  ·exact hh2
  ·rcases Nat.lt_or_ge g2 w.heap.size with hn|hn
   ·exact hn
   ·rw[Array.getElem?_eq_none hn]at hh2;cases hh2
end
section
def jf (w:World)(bZ:Nat)(e:TypeId)(v:Value)(l:LU_):Prop :=
 ∃ g cap cur fz,v=.slice (some ⟨g,0,none⟩) l.length cap∧bZ≤g∧w.heap[g]?=some (.cells cur e fz)∧(fz.2=0∨cur.size≤fz.1)∧l.length≤cap∧cap≤maxLen∧cur.size=cap∧cur.toList.take l.length=aT l
section
variable {P:Program}
theorem jf.slice {w:World}{bZ:Nat}{e:TypeId}{v:Value}{l:LU_}(h:jf w bZ e v l):∃ g cap,v=.slice (some ⟨g,0,none⟩) l.length cap:=by
 obtain⟨g,cap,_,_,hv,_⟩:=h;exact⟨g,cap,hv⟩
theorem jf.below {w w':World}{bZ:Nat}{e:TypeId}{v:Value}{l:LU_}(h:jf w bZ e v l)(hB:Below w.heap.size w w'):jf w' bZ e v l:=by
 obtain⟨g,cap,cur,fz,h1,h2,h3,h4⟩:=h;exact⟨g,cap,cur,fz,h1,h2,(hB.block g (Array.getElem?_eq_some_iff.1 h3).1).trans h3,h4⟩
theorem jf.cell {w:World}{bZ g n cap:Nat}{e:TypeId}{l:LU_}(h:jf w bZ e (.slice (some ⟨g,0,none⟩) n cap) l)(j:Nat)(hj:j<l.length):w.cell? ⟨g,j,none⟩=some (.int .u8 (l[j].toNat:Int)):=by
 obtain⟨g',cap',cur,fz,h1,h2,h3,_,_,_,_,h5⟩:=h;injection h1 with e1 _ _
 cases e1
 rw[cell_of_row w g j cur e fz h3];have:(cur.toList.take l.length)[j]?=some (.int .u8 (l[j].toNat:Int)):=by rw[h5];simp[aT,hj]
 rw[List.getElem?_take,if_pos hj]at this;simpa using this
theorem jf.new (w:World)(e:TypeId)(l:LU_)(hl:l.length≤maxLen):jf (Lib.bytesWorld w e (bs l)) w.heap.size e (.slice (some ⟨w.heap.size,0,none⟩) l.length (grownCap w (bs l).size 0 e)) l:=by
 have hge:=grownCap_ge w (bs l).size 0 e;have hle:=grownCap_le_maxLen w (bs l).size 0 e (by rw[bY];exact hl)
 have hsz:(Lib.bytesCells w e (bs l)).size=grownCap w (bs l).size 0 e:=by
  simp only[Lib.bytesCells,Array.size_append,Array.size_map,Array.size_replicate];have:(bs l).data.size=(bs l).size:=rfl;omega
 refine⟨w.heap.size,_,_,_,rfl,Ei _,Lib.bytesWorld_at_new w e (bs l),.inr (Ei _),by rw[bY]at hge;exact hge,hle,hsz,?_⟩
 have h1:(Lib.bytesCells w e (bs l)).toList=aT l++List.replicate (grownCap w (bs l).size 0 e-(bs l).size) (.int .u8 0):=by
  simp only[Lib.bytesCells,Array.toList_append,Array.toList_map,jY,aT,Array.toList_replicate]
 rw[h1,List.take_append_of_le_length (by rw[bo];exact Ei _),Eh (by rw[bo];exact Ei _)]
theorem jL (w:World)(e:TypeId)(s:ByteArray):Below w.heap.size w (Lib.bytesWorld w e s) :=
 ⟨rfl,rfl,rfl,by rw[Lib.bytesWorld_size];omega,fun k hk=>Lib.bytesWorld_at_old w e s k hk⟩
theorem tC {ops:Array Oper}{rest:List Oper}{o:Oper}{a:Act}{Q:Exit→Act→World→Prop}(wr:World)(c:UInt8)(e:TypeId)(hgd:o.guard=none)(s x:Operand)(t:TypeId)(ho:o.op=.call { callee:=.builtin .append,args:=#[s,x],argTypes:=#[t,t] })(bZ:Nat)(ht:P.underlying t=some (.slice e))(hinfo:(P.info? e).map (fun i=>(i.zero,i.size,i.bytes))=some (some (.int .u8 0),1,1))(v:Value)(l:LU_)(n:Nat)(hn:l.length=n)(u:Value)(hu:u=.int .u8 (c.toNat:Int))(hown:jf wr bZ e v l)(hs:a.eval s=v)(cx:Nat)(hx:a.eval x=.slice (some ⟨wr.heap.size,0,none⟩) 1 cx)(hbytes:n+1≤140737488355328)(hbase:bZ≤wr.heap.size)(h:∀ g cap w',jf w' bZ e (.slice (some ⟨g,0,none⟩) (n+1) cap) (l++[c])→Below bZ wr w'→wpList P ops Q rest (a.put o.dst (.slice (some ⟨g,0,none⟩) (n+1) cap)) w'):wpList P ops Q (o::rest) a (wr.alloc (.cells #[u] e)):=by
 subst hn hu;obtain⟨i,hi,hz,hi1,hi2⟩:=info_parts hinfo;refine wpList_plain hgd fun K hK=>?_;obtain⟨w,hw⟩:=ex_ (wr.alloc (.cells #[.int .u8 (c.toNat:Int)] e));rw[←hw];have hown':jf w bZ e v l:=by rw[hw];exact hown.below (af _ _)
 have hB1:Below bZ wr w:=by rw[hw];exact(Em bZ wr).alloc hbase _
 have hnew:∀ j u,[Value.int .u8 (c.toNat:Int)][j]?=some u→w.cell? ((⟨wr.heap.size,0,none⟩:Addr).add j)=some u:=by
  intro j u hj
  have hj0:j<1:=by
   rcases Nat.lt_or_ge j 1 with h|h
   ·exact h
   ·simp[List.getElem?_eq_none (show [Value.int .u8 (c.toNat:Int)].length≤j from h)]at hj
  rw[hw,Addr.add_lit,Ek,World.cell?_alloc_new];simpa using hj
 obtain⟨g,cap,cur,fz,hv,hbg,hg,hfz,hle,hcm,hcs,htk⟩:=id hown'
 have main:∃ g' cap' w',(Builtin.append_ #[t,t] o.type #[v,.slice (some ⟨wr.heap.size,0,none⟩) 1 cx]).run P w=.ok (.slice (some ⟨g',0,none⟩) (l.length+1) cap') w'∧jf w' bZ e (.slice (some ⟨g',0,none⟩) (l.length+1) cap') (l++[c])∧Below bZ w w':=by
  subst hv
  by_cases hroom:l.length+1≤cap
  ·have hlt:l.length<cur.size:=by omega
   have hcell:w.cell? ⟨g,l.length,none⟩=some cur[l.length]:=by rw[cell_of_row w g _ cur e fz hg];simp[hlt]
   have hfro:w.frozen? ⟨g,l.length,none⟩=false:=by
    obtain⟨lo,hh⟩:=fz;simp only at hfz;simp only[World.frozen?,hg,Bool.and_eq_false_iff,decide_eq_false_iff_not];omega
   have hst:(storeCells ⟨g,l.length,none⟩ [Value.int .u8 (c.toNat:Int)] 0).run P w=.ok () (w.setCell ⟨g,l.length,none⟩ (.int .u8 (c.toNat:Int))):=by
    have hadd:(⟨g,l.length,none⟩:Addr).add 0=⟨g,l.length,none⟩:=Addr.add_lit ..;simp only[storeCells,Sem.run_bind,hadd];rw[run_store P w _ _ _ rfl,hcell];simp[hfro]
   have hf:=run_firstCells_some (P:=P) w i.size 1 ⟨wr.heap.size,0,none⟩ 1 cx [.int .u8 (c.toNat:Int)] (by simp[hi1]) hnew;refine⟨g,cap,w.setCell ⟨g,l.length,none⟩ (.int .u8 (c.toNat:Int)),?_,?_,?_⟩
   ·rw[hi1]at hf
    simp[Builtin.append_,run_underlying ht,sizeOf,typeInfo,hi,hi1,Builtin.lenOf,hroom,hf,Addr.add_lit,hst]
   ·refine⟨g,cap,cur.setIfInBounds l.length (.int .u8 (c.toNat:Int)),fz,by simp,hbg,?_,by simpa using hfz,by simpa using hroom,hcm,by simpa using hcs,?_⟩
    ·rw[setCell_eq_setRow w g _ cur e fz _ hg]
     exact setRow_heap w g cur _ e fz hg
    ·rw[Array.toList_setIfInBounds,Ev,ES,List.take_set,Ef (by simpa using hlt),htk]
     rw[List.set_append_right _ _ (by rw[bo];exact Ei _),bo,Nat.sub_self,←mG]
     rfl
   ·exact(Em bZ w).setCell (p:=⟨g,l.length,none⟩) hbg _
  ·have holds:∀ j u,(aT l)[j]?=some u→w.cell? ((⟨g,0,none⟩:Addr).add j)=some u:=by
    intro j u hj
    have hjl:j<l.length:=by
     rcases Nat.lt_or_ge j l.length with h|h
     ·exact h
     ·simp[List.getElem?_eq_none (show(aT l).length≤j by rw[bo];exact h)]at hj
    have:=hown'.cell j hjl;rw[Addr.add_lit,Ek,this];simp[aT,hjl]at hj;rw[hj]
   have hr:=run_append_grow (P:=P) w t o.type e i (.int .u8 0) ht hi hz ⟨g,0,none⟩ l.length cap (aT l) (by rw[bo,hi1,Nat.mul_one]) holds ⟨wr.heap.size,0,none⟩ 1 cx [.int .u8 (c.toNat:Int)] (by simp[hi1]) hnew (by omega) (by omega)
    (growslice_fits (by omega) (by rw[hi2];omega))
   have hge:=grownCap_ge w (l.length+1) cap e;have hlm:=grownCap_le_maxLen w (l.length+1) cap e (by unfold maxLen;omega);refine⟨_,_,_,hr,?_,(Em bZ w).drew.alloc (by simp;have:=hB1.size;omega) _⟩;refine⟨w.heap.size,_,_,_,by simp,by have:=hB1.size;omega,World.alloc_heap_new w.drew _,.inl rfl,by simpa using hge,hlm,?_,?_⟩
   ·simp only[Array.size_append,List.size_toArray,bo,ES,size_zeroCells]
    simp[Value.cells];omega
   ·have e1:(aT l++[Value.int .u8 (c.toNat:Int)]).length=(l++[c]).length:=by simp[bo]
    simp only[Array.toList_append,Et];rw[←Et,←e1,List.take_left,mG]
 obtain⟨g',cap',w',hr,h2,h3⟩:=main;unfold Oper.wp execOp;simp only[ho,resolve,invoke,builtin,Sem.run_bind,Sem.run_pure,Result.andThen_ok,List.map_toArray,List.map_cons,List.map_nil,hs,hx,hr];exact hK _ _ (h g' cap' w' h2 (hB1.trans h3))
theorem yt (src dst e:TypeId)(hs:P.underlying src=some (.slice e))(he:P.underlying e=some (.int .u8))(hd:P.underlying dst=some .string)(w:World)(bZ:Nat)(v:Value)(l:LU_)(h:jf w bZ e v l):(convert src dst v).run P w=.ok (.string (bs l)) w:=by
 obtain⟨g,cap,rfl⟩:=h.slice;exact run_convert_bytes_back w src dst e ⟨g,0,none⟩ cap l hs he hd (fun j hj=>by rw[Addr.add_lit,Ek];exact h.cell j hj)
end
end
section
def dj (x:UInt32)(n:Nat):UInt32:=(x >>> UInt32.ofNat n) ||| (x <<< UInt32.ofNat (32-n))
def lS (b:LU_)(k:Nat):UInt32:=(b.getD k 0).toUInt32
def AF (b:LU_)(k:Nat):UInt32:=((lS b k <<< 24 ||| lS b (k+1) <<< 16) ||| lS b (k+2) <<< 8) ||| lS b (k+3)
def sg0 (x:UInt32):UInt32:=dj x 7 ^^^ dj x 18 ^^^ (x >>> 3)
def sg1 (x:UInt32):UInt32:=dj x 17 ^^^ dj x 19 ^^^ (x >>> 10)
def m8 (b:LU_)(l:List UInt32):UInt32 :=
 if l.length<16 then AF b (4*l.length)
 else l.getD (l.length-16) 0+sg0 (l.getD (l.length-15) 0)+l.getD (l.length-7) 0+sg1 (l.getD (l.length-2) 0)
def wl (b:LU_):Nat→List UInt32
 | 0=>[]
 | t+1=>wl b t++[m8 b (wl b t)]
theorem dq (b:LU_)(t:Nat):(wl b t).length=t:=by induction t with|zero=>rfl|succ t ih=>simp[wl,ih]
def ia (b:LU_)(t:Nat):List UInt32:=wl b t++List.replicate (64-t) 0
theorem fE (b:LU_)(t:Nat)(h:t≤64):(ia b t).length=64:=by simp[ia,dq];omega
theorem kF (b:LU_)(t:Nat)(h:t<64):(ia b t).set t (m8 b (wl b t))=ia b (t+1):=by
 have e:64-t=(64-(t+1))+1:=by omega
 have e2:wl b (t+1)=wl b t++[m8 b (wl b t)]:=rfl;unfold ia;rw[e2,List.set_append_right _ _ (by rw[dq];exact Ei _),dq,Nat.sub_self,e,List.replicate_succ,List.set_cons_zero];simp only[Et,List.singleton_append]
theorem qY (b:LU_):ia b 64=wl b 64:=by simp[ia]
theorem gN (b:LU_)(t k:Nat)(h:k<t)(h':t≤64):(az (ia b t))[k]?=some (.int .u32 (U ((wl b t).getD k 0))):=by
 have hl:k<(wl b t).length:=by rw[dq];exact h
 have hx:k<(ia b t).length:=by rw[fE b t h'];omega
 rw[o7 _ _ hx]
 have:(ia b t)[k]=(wl b t).getD k 0:=by
  simp only[ia,EX hl,List.getD_eq_getElem?_getD,List.getElem?_eq_getElem hl,Option.getD_some]
 rw[this]
theorem oZ (b:LU_)(t:Nat)(h:t<16):m8 b (wl b t)=AF b (4*t):=by rw[m8,dq,if_pos h]
theorem m7 (b:LU_)(t:Nat)(h:16≤t):m8 b (wl b t)=(wl b t).getD (t-16) 0+sg0 ((wl b t).getD (t-15) 0)+(wl b t).getD (t-7) 0+sg1 ((wl b t).getD (t-2) 0):=by rw[m8,dq,if_neg (by omega)]
theorem iU (b:LU_)(k:Nat)(h:k<b.length):b[k].toUInt32=lS b k:=by
 simp[lS,List.getD_eq_getElem?_getD,h]
theorem tA (b:LU_)(k:Nat)(h0:k<b.length)(h1:k+1<b.length)(h2:k+2<b.length)(h3:k+3<b.length):((b[k].toUInt32 <<< 24 ||| b[k+1].toUInt32 <<< 16) ||| b[k+2].toUInt32 <<< 8) ||| b[k+3].toUInt32=AF b k:=by
 rw[iU,iU,iU,iU];rfl
theorem Blk.ex {w:World}{b:Nat}{t:TypeId}{cs:List Value}(h:Blk w b t cs){k:Nat}(hk:k<cs.length):∃ u,w.cell? ⟨b,k,none⟩=some u:=⟨_,h.cell (List.getElem?_eq_getElem hk)⟩
end
section
theorem fy (x:UInt32)(n:Nat)(w:World)(h1:1≤n)(h2:n≤31):Calls Tryz.prog 188 #[.int .u32 (U x),.int .i64 n] w fun e w'=>e=.returned (.int .u32 (U (dj x n)))∧Bw_ w w':=by
 have n1:(1:Int)≤(n:Int):=by omega
 have n2:(n:Int)≤31:=by omega
 go_enter Tryz.func188,Tryz.ntmps188;go_wp2;go_quiet (fail);rw[wA x n (by omega),tD x (32-n) (by omega),ke];go_wp2;go_ret;exact⟨rfl,DL _ _⟩
theorem G6 {T:Prop} (h:T:=by
 have k1:(k:Int)<16:=by omega
 have k0:=nn_ k;have k64:(k:Int)<64:=by omega
 have x0:(0:Int)≤4*(k:Int):=by omega
 have x1:4*(k:Int)<(l.length:Int):=by omega
 have x2:4*(k:Int)+1<(l.length:Int):=by omega
 have x3:4*(k:Int)+2<(l.length:Int):=by omega
 have y2:0≤4*(k:Int)+1:=by omega
 have y3:0≤4*(k:Int)+2:=by omega
 have y4:0≤4*(k:Int)+3:=by omega
 have x4:4*(k:Int)+3<(l.length:Int):=by omega
 go_wp2;refine bp 31 [] (by kernel_rfl) (by kernel_rfl) ?_;simp only[ED,EF,EA,EL];refine cG ?_
 (try simp only[eZ,dQ,dR,eY,eX,dP,ke,gI,gV,gJ,fd,fc,fb,fa])
 (intro w' hB hA;simp only[au.all_some,DP,and_true]at hA)
 have B':=HB.o.below hB;have hc:=kF l k (by omega);rw[oZ l k hk16]at hc;have hlen:k<(az (ia l k)).length:=by rw[aE,fE l k (by omega)];omega
 have HE:=zH (tA l (4*k) (by omega) (by omega) (by omega) (by omega));obtain⟨cu,c1⟩:=B'.ex hlen;have f1:=B'.free hlen;have HS:=zH (B'.set k (.int .u32 (U (AF l (4*k)))));have HC:=zH hc;have HB1:=zH hB;clear B' hc hB hlen;go_wp2;rw[HE.o];refine⟨⟨k+1,by omega,by go_num,?_,(bt HW.o HB1.o).setCell (Ei _) _⟩,by simp[intOf];omega⟩;have:=HS.o;rw[gq,HC.o]at this;exact this
):T:=h
theorem wG (l:LU_)(w:World)(hl:64≤l.length):Calls Tryz.prog 186 #[.string (bs l)] w fun e w'=>e=.returned (.agg (az (wl l 64)).toArray)∧Bw_ w w':=by
 have hz:=(zero_of_info (P:=Tryz.prog) (t:=270) (v:=.agg (az (ia l 0)).toArray) (n:=64) (by kernel_rfl)).1;go_enter Tryz.func186,Tryz.ntmps186;go_wp2;clear hz
 go_loopw [7] (fun t wx=>∃ k:Nat,k≤16∧t=.int .i64 k∧Hid (Blk wx w.heap.size 270 (az (ia l k)))∧Hid (Below w.heap.size w wx)) (fun t _=>16-(intOf t).toNat)
 case atStart=>exact⟨0,by omega,rfl,Blk.new w _ _,af w _⟩
 case round =>
  obtain⟨k,hk,rfl,HB,HW⟩:=hrel
  by_cases hk16:k<16
  ·exact G6
  ·have hk:k=16:=by omega
   subst hk;go_wp2
   go_loopw [4] (fun t wx=>∃ k:Nat,16≤k∧k≤64∧t=.int .i64 k∧Hid (Blk wx w.heap.size 270 (az (ia l k)))∧Hid (Below w.heap.size w wx)) (fun t _=>64-(intOf t).toNat)
   case atStart=>exact⟨16,by omega,by omega,rfl,HB,HW⟩
   case round =>
    obtain⟨k,hk,hk',rfl,HB,HW⟩:=hrel
    by_cases hk16:k<64
    ·have k1:(k:Int)<64:=by omega
     have k0:=nn_ k;have x0:(0:Int)≤(k:Int)-15:=by omega
     have x1:(k:Int)-15<64:=by omega
     have y0:(0:Int)≤(k:Int)-2:=by omega
     have y1:(k:Int)-2<64:=by omega
     have z0:(0:Int)≤(k:Int)-16:=by omega
     have z1:(k:Int)-16<64:=by omega
     have v0:(0:Int)≤(k:Int)-7:=by omega
     have v1:(k:Int)-7<64:=by omega
     have c15:=HB.o.cell (gN l k (k-15) (by omega) (by omega));have c2:=HB.o.cell (gN l k (k-2) (by omega) (by omega));have c16:=HB.o.cell (gN l k (k-16) (by omega) (by omega));have c7:=HB.o.cell (gN l k (k-7) (by omega) (by omega));have hc:=kF l k (by omega);rw[m7 l k hk]at hc;generalize (wl l k).getD (k-15) 0=a at *;generalize (wl l k).getD (k-2) 0=b at *;generalize (wl l k).getD (k-16) 0=c at *;generalize (wl l k).getD (k-7) 0=d at *;have HC:=zH hc;clear hc;go_wp2;go_quiet (fail);go_wp2;refine bp 29 [(4,.exact Bel (.int .u32 (U c))),(6,.exact Bel (.int .u32 (U (dj a 7)))),(8,.exact Bel (.int .u32 (U (dj a 18)))),(17,.exact Bel (.int .u32 (U d))),(20,.exact Bel (.int .u32 (U (dj b 17)))),(22,.exact Bel (.int .u32 (U (dj b 19))))] (by kernel_rfl) (by kernel_rfl) ?_;simp only[ED,EF,EA,EL];refine cG ?_;refine gE_ (fun w' G hB hS hG=>?_) (fun K hK=>?_)
     ·have cc:=DK (bt (DL wr nq) hB) c16
      go_simp;exact hG _ (Bel.refl _)
     refine cO ?_;clear hK K;refine gE_ (fun w' G hB hS hG=>?_) (fun K hK=>?_)
     ·go_simp
      exact aH hG (fy a 7 _ (by omega) (by omega))
     refine cO ?_;clear hK K;refine gE_ (fun w' G hB hS hG=>?_) (fun K hK=>?_)
     ·go_simp
      exact aH hG (fy a 18 _ (by omega) (by omega))
     refine cO ?_;clear hK K;refine gE_ (fun w' G hB hS hG=>?_) (fun K hK=>?_)
     ·have cc:=DK (bt (DL wr nq) hB) c7
      go_simp;exact hG _ (Bel.refl _)
     refine cO ?_;clear hK K;refine gE_ (fun w' G hB hS hG=>?_) (fun K hK=>?_)
     ·go_simp
      exact aH hG (fy b 17 _ (by omega) (by omega))
     refine cO ?_;clear hK K;refine gE_ (fun w' G hB hS hG=>?_) (fun K hK=>?_)
     ·go_simp
      exact aH hG (fy b 19 _ (by omega) (by omega))
     refine cO ?_;clear hK K
     (try simp only[eZ,dQ,dR,eY,eX,dP,ke,gI,gV,gJ,fd,fc,fb,fa])
     (intro w' hB hA;simp only[au.all_some,DP,and_true]at hA)
     replace hB:=bt (DL wr nq) hB;have B':=HB.o.below hB;have hlen:k<(az (ia l k)).length:=by rw[aE,fE l k (by omega)];omega
     obtain⟨cu,c1⟩:=B'.ex hlen;have f1:=B'.free hlen;have HS:=zH (B'.set k (.int .u32 (U (c+sg0 a+d+sg1 b))));have HB1:=zH hB;clear B' hB hlen;go_wp2;refine⟨?_,?measure⟩
     ·(repeat apply Exists.intro)
      refine⟨⟨k+1,by omega,by omega,by go_num,?_,(bt HW.o HB1.o).setCell (Ei _) _⟩,rfl⟩;have:=HS.o;rw[gq,HC.o]at this;exact this
     case measure=>simp[intOf];omega
    ·have hk:k=64:=by omega
     subst hk;rw[qY]at HB;have HI:=zH (show(Tryz.prog.info? 270).map (·.size)=some (az (wl l 64)).length by rw[aE,dq];kernel_rfl);go_wp2_with first|(refine lr w.heap.size (az (wl l 64)) HB.o (.array 64 241) rfl _ _ rfl rfl (by kernel_rfl) rfl HI.o ?_)|(refine gp w.heap.size (az (wl l 64)) (az (wl l 64)) HB.o rfl _ _ _ rfl rfl rfl HI.o rfl (fj _) ?_)
     refine bodyPost_ret (kE rfl rfl (HB.o.row _) (.array 64 241) (by kernel_rfl) rfl HI.o) rfl ⟨rfl,aI HW.o (Ei _) _⟩
end
