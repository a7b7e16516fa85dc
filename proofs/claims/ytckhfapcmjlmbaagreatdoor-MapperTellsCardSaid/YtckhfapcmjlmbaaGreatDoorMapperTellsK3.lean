/- Lemmas for MapperTells: walks, plain laws. -/
import Derived.Shelf.Strings.Builder1
import Derived.Shelf.Strings.Builder2
import Derived.Shelf.Small.Strs
import Derived.Shelf.Strings.BuilderF
import Derived.Shelf.Strings.BuilderK
import Derived.Shelf.Utf8.RuneCount
import Derived.Shelf.Strconv.Itoa0
import Derived.Shelf.Strconv.Itoa1
import Derived.Shelf.LaysM
import Derived.Shelf.Strconv.Itoa2
import Derived.Shelf.Strconv.Itoa3
import Derived.Shelf.Strconv.Itoa4
import Derived.Shelf.Strconv.ParseIntEmpty
import Derived.Shelf.Strconv.Clone
import Derived.Shelf.Strconv.SyntaxError
import Derived.Shelf.LaysC
import Derived.Shelf.Strconv.ToError
import Derived.Shelf.Strconv.Lower
import Derived.Shelf.Strconv.ParseUint10
import Derived.Shelf.Strconv.ParseUint10Empty
import Derived.Shelf.Strconv.ParseUint10Any
import Derived.Shelf.Strconv.ParseInt10
import Derived.Shelf.Strconv.RangeError
import Derived.Shelf.Strconv.ToErrorRange
import Derived.Shelf.Strconv.ParseUintEmpty
import Derived.Shelf.Strconv.ParseUint10b64
import Derived.Shelf.Strconv.ParseUint10b32
import Derived.Shelf.Strconv.ParseUint10b16
import Derived.Shelf.Strconv.ParseUint10b8
import Derived.Shelf.Strconv.ParseUint10At
import Derived.Shelf.Strconv.ParseInt10At64
import Derived.Shelf.Strconv.ParseInt10At32
import Derived.Shelf.Strconv.ParseInt10At16
import Derived.Shelf.Strconv.ParseInt10At8
import Derived.Shelf.Strconv.ParseInt10All
import Derived.Shelf.Strconv.ParseIntPublic10
import Derived.Shelf.Strconv.ErrVarParseInt
import Derived.Shelf.Strings.Search1
import Derived.Shelf.Strings.Search2
import Derived.Shelf.Strings.Search3
import Derived.Shelf.Strings.Cut
import Derived.Shelf.Strings.Count
import Derived.Shelf.Strings.Shaped
import Derived.Shelf.Strings.Prefix
import Derived.Shelf.Strings.Split
import Derived.Shelf.Strings.Replace
import Derived.Shelf.Strings.SplitShaped
import Derived.Shelf.Unicode.Decode
import Derived.Shelf.Strings.RuneCount
import Derived.Shelf.Unicode.DecodeSlow
import Derived.Shelf.Unicode.DecodeAny
import Derived.Ground.SlgmProg
import Derived.Shelf.SortM.Plain
import Derived.Shelf.SortM.SortNone
import Derived.Test.YtckhfapcmjlmbaaGreatDoorProg
import Derived.Lib.Builder
import Derived.Lib.AppendStr
import Derived.Laws.BitsAllLaws
import Derived.Deep.WholeRow
import Derived.Deep.MidRow
import Derived.Laws.MakeOwn
import Derived.Maps.AppendAt
import Derived.Lib.ConvBytes
import Derived.Laws.AppendOwn
import Derived.Test.YtckhfapcmjlmbaaGreatDoorMapperTellsK6
set_option linter.unusedSimpArgs false
set_option linter.unusedVariables false
set_option maxRecDepth 100000
set_option maxHeartbeats 16000000
namespace Go.Proofs
open Go.Shelf
def Dk:Go.Shelf.Ren:=⟨fun|169=>84|n=>n,fun|70=>131|9=>9|0=>0|72=>134|37=>132|127=>204|3=>3|5=>5|n=>n,fun|n=>n⟩
theorem Tryz.lays169:Go.Proofs.Lays.n169 Tryz.prog Dk:={
 mixed:=by kernel_rfl
 f169:=Tryz.func84.trans (congrArg some (by kernel_rfl))
 t0:=Tryz.underlying0
 a0:=Tryz.isAgg0
 z0:=Tryz.sizeOf0
 v0:=Tryz.zeroValue0
 t3:=Tryz.underlying3
 a3:=Tryz.isAgg3
 z3:=Tryz.sizeOf3
 v3:=Tryz.zeroValue3
 t9:=Tryz.underlying9
 a9:=Tryz.isAgg9
 z9:=Tryz.sizeOf9
 v9:=Tryz.zeroValue9
 t37:=Tryz.underlying132
 a37:=Tryz.isAgg132
 z37:=Tryz.sizeOf132
 v37:=Tryz.zeroValue132
 t70:=Tryz.underlying131
 a70:=Tryz.isAgg131
 z70:=Tryz.sizeOf131
 v70:=Tryz.zeroValue131
 t72:=Tryz.underlying134
 a72:=Tryz.isAgg134
 z72:=Tryz.sizeOf134
 v72:=Tryz.zeroValue134
 t127:=Tryz.underlying204
 a127:=Tryz.isAgg204
 z127:=Tryz.sizeOf204
 v127:=Tryz.zeroValue204 }
theorem Dl:Builder.Extra Tryz.prog Dk:={
 sizeBuilder:=by kernel_rfl
 liesBuilder:=by kernel_rfl
 t5:=Tryz.underlying5
 a5:=Tryz.isAgg5
 z5:=Tryz.sizeOf5
 v5:=Tryz.zeroValue5
 infoByte:=by kernel_rfl
 cellsByte:=by kernel_rfl
 sizeByte:=by kernel_rfl
 neB5:=by decide }
open Go.RowKit in
theorem Tryz.Builder_String_any (B b:Nat)(l:List UInt8)(w:World)(h:Lib.IsBuilder 134 5 B b (Lib.byteCells l) w)(hBw:B≤w.heap.size):Calls Tryz.prog 84 #[.pointer (some ⟨b,0,none⟩)] w fun e w'=>e=.returned (.string ⟨l.toArray⟩)∧Below B w w':=Any.Builder_String_any Tryz.lays169 Dl B b l w h hBw
def Dj:Go.Shelf.Ren:=⟨fun|165=>245|240=>128|241=>256|276=>175|277=>268|n=>n,fun|70=>131|3=>3|0=>0|4=>4|9=>9|20=>20|72=>134|37=>132|164=>254|5=>5|n=>n,fun|n=>n⟩
theorem Tryz.lays165:Go.Proofs.Lays.n165 Tryz.prog Dj:={
 mixed:=by kernel_rfl
 f165:=Tryz.func245.trans (congrArg some (by kernel_rfl))
 f240:=Tryz.func128.trans (congrArg some (by kernel_rfl))
 f241:=Tryz.func256.trans (congrArg some (by kernel_rfl))
 f276:=Tryz.func175.trans (congrArg some (by kernel_rfl))
 f277:=Tryz.func268.trans (congrArg some (by kernel_rfl))
 t0:=Tryz.underlying0
 a0:=Tryz.isAgg0
 z0:=Tryz.sizeOf0
 v0:=Tryz.zeroValue0
 t3:=Tryz.underlying3
 a3:=Tryz.isAgg3
 z3:=Tryz.sizeOf3
 v3:=Tryz.zeroValue3
 t4:=Tryz.underlying4
 a4:=Tryz.isAgg4
 z4:=Tryz.sizeOf4
 v4:=Tryz.zeroValue4
 t9:=Tryz.underlying9
 a9:=Tryz.isAgg9
 z9:=Tryz.sizeOf9
 v9:=Tryz.zeroValue9
 t20:=Tryz.underlying20
 a20:=Tryz.isAgg20
 z20:=Tryz.sizeOf20
 v20:=Tryz.zeroValue20
 t37:=Tryz.underlying132
 a37:=Tryz.isAgg132
 z37:=Tryz.sizeOf132
 v37:=Tryz.zeroValue132
 t70:=Tryz.underlying131
 a70:=Tryz.isAgg131
 z70:=Tryz.sizeOf131
 v70:=Tryz.zeroValue131
 t72:=Tryz.underlying134
 a72:=Tryz.isAgg134
 z72:=Tryz.sizeOf134
 v72:=Tryz.zeroValue134
 t164:=Tryz.underlying254
 a164:=Tryz.isAgg254
 z164:=Tryz.sizeOf254
 v164:=Tryz.zeroValue254 }
theorem Dm:Builder.Extra Tryz.prog Dj:={
 sizeBuilder:=by kernel_rfl
 liesBuilder:=by kernel_rfl
 t5:=Tryz.underlying5
 a5:=Tryz.isAgg5
 z5:=Tryz.sizeOf5
 v5:=Tryz.zeroValue5
 infoByte:=by kernel_rfl
 cellsByte:=by kernel_rfl
 sizeByte:=by kernel_rfl
 neB5:=by decide }
open Go.RowKit in
theorem Tryz.Builder_Grow_fresh (B b n:Nat)(w:World)(hB:B≤b)(hbk:w.heap[b]?=some (.cells #[.pointer none,.slice none 0 0] 134 (0,0)))(hBw:B≤w.heap.size)(hn:n≤281474976710656):Calls Tryz.prog 245 #[.pointer (some ⟨b,0,none⟩),.int .i64 n] w fun e w'=>e=.returned (.tuple #[])∧(Lib.BuilderAt 134 5 B b (.pointer (some ⟨b,0,none⟩)) [] w'∧Below B w w'):=Any.Builder_Grow_fresh Tryz.lays165 Dm B b n w hB hbk hBw hn
def Tryz.lays137_ren:Go.Shelf.Ren:=⟨fun|137=>152|217=>194|266=>220|n=>n,fun|9=>9|5=>5|3=>3|n=>n,fun|n=>n⟩
theorem Tryz.lays137:Go.Proofs.Lays.n137 Tryz.prog Tryz.lays137_ren:={
 mixed:=by kernel_rfl
 f137:=Tryz.func152.trans (congrArg some (by kernel_rfl))
 f217:=Tryz.func194.trans (congrArg some (by kernel_rfl))
 f266:=Tryz.func220.trans (congrArg some (by kernel_rfl))
 t3:=Tryz.underlying3
 a3:=Tryz.isAgg3
 z3:=Tryz.sizeOf3
 v3:=Tryz.zeroValue3
 t5:=Tryz.underlying5
 a5:=Tryz.isAgg5
 z5:=Tryz.sizeOf5
 v5:=Tryz.zeroValue5
 t9:=Tryz.underlying9
 a9:=Tryz.isAgg9
 z9:=Tryz.sizeOf9
 v9:=Tryz.zeroValue9 }
open Go.RowKit in
theorem Tryz.strings_IndexByte (s:ByteArray)(c:Int)(w:World):Calls Tryz.prog 152 #[.string s,.int .u8 c] w fun e w'=>e=.returned (.int .i64 (Lib.indexByte s.data.toList c.toNat.toUInt8))∧w'=w:=Any.strings_IndexByte Tryz.lays137 s c w
def Tryz.laysM246_ren:Go.Shelf.Ren:=⟨fun|246=>242|283=>248|284=>249|285=>250|286=>251|129=>173|317=>259|318=>260|319=>261|320=>262|337=>272|338=>273|n=>n,fun|2=>2|3=>3|9=>9|4=>4|171=>350|0=>0|53=>136|37=>132|5=>5|173=>352|212=>357|51=>206|20=>20|213=>358|46=>201|232=>377|233=>378|n=>n,fun|17=>3|18=>8|19=>9|n=>n⟩
def Ds:Go.Shelf.Ren:=⟨fun|173=>236|246=>242|283=>248|284=>249|285=>250|286=>251|129=>173|317=>259|318=>260|319=>261|320=>262|337=>272|338=>273|n=>n,fun|2=>2|3=>3|9=>9|4=>4|171=>350|0=>0|53=>136|37=>132|5=>5|173=>352|212=>357|51=>206|20=>20|213=>358|46=>201|232=>377|233=>378|n=>n,fun|17=>3|18=>8|19=>9|n=>n⟩
theorem Tryz.laysM173:Go.Proofs.LaysM.n173 Tryz.prog Ds:={
 mixed:=by kernel_rfl
 f129:=Tryz.func173.trans (congrArg some (by kernel_rfl))
 f173:=Tryz.func236.trans (congrArg some (by kernel_rfl))
 f246:=Tryz.func242.trans (congrArg some (by kernel_rfl))
 f283:=Tryz.func248.trans (congrArg some (by kernel_rfl))
 f284:=Tryz.func249.trans (congrArg some (by kernel_rfl))
 f285:=Tryz.func250.trans (congrArg some (by kernel_rfl))
 f286:=Tryz.func251.trans (congrArg some (by kernel_rfl))
 f317:=Tryz.func259.trans (congrArg some (by kernel_rfl))
 f318:=Tryz.func260.trans (congrArg some (by kernel_rfl))
 f319:=Tryz.func261.trans (congrArg some (by kernel_rfl))
 f320:=Tryz.func262.trans (congrArg some (by kernel_rfl))
 f337:=Tryz.func272.trans (congrArg some (by kernel_rfl))
 f338:=Tryz.func273.trans (congrArg some (by kernel_rfl))
 t0:=Tryz.underlying0
 a0:=Tryz.isAgg0
 z0:=Tryz.sizeOf0
 v0:=Tryz.zeroValue0
 t2:=Tryz.underlying2
 a2:=Tryz.isAgg2
 z2:=Tryz.sizeOf2
 v2:=Tryz.zeroValue2
 t3:=Tryz.underlying3
 a3:=Tryz.isAgg3
 z3:=Tryz.sizeOf3
 v3:=Tryz.zeroValue3
 t4:=Tryz.underlying4
 a4:=Tryz.isAgg4
 z4:=Tryz.sizeOf4
 v4:=Tryz.zeroValue4
 t5:=Tryz.underlying5
 a5:=Tryz.isAgg5
 z5:=Tryz.sizeOf5
 v5:=Tryz.zeroValue5
 t9:=Tryz.underlying9
 a9:=Tryz.isAgg9
 z9:=Tryz.sizeOf9
 v9:=Tryz.zeroValue9
 t20:=Tryz.underlying20
 a20:=Tryz.isAgg20
 z20:=Tryz.sizeOf20
 v20:=Tryz.zeroValue20
 t37:=Tryz.underlying132
 a37:=Tryz.isAgg132
 z37:=Tryz.sizeOf132
 v37:=Tryz.zeroValue132
 t46:=Tryz.underlying201
 a46:=Tryz.isAgg201
 z46:=Tryz.sizeOf201
 v46:=Tryz.zeroValue201
 t51:=Tryz.underlying206
 a51:=Tryz.isAgg206
 z51:=Tryz.sizeOf206
 v51:=Tryz.zeroValue206
 t53:=Tryz.underlying136
 a53:=Tryz.isAgg136
 z53:=Tryz.sizeOf136
 v53:=Tryz.zeroValue136
 t171:=Tryz.underlying350
 a171:=Tryz.isAgg350
 z171:=Tryz.sizeOf350
 v171:=Tryz.zeroValue350
 t173:=Tryz.underlying352
 a173:=Tryz.isAgg352
 z173:=Tryz.sizeOf352
 v173:=Tryz.zeroValue352
 t212:=Tryz.underlying357
 a212:=Tryz.isAgg357
 z212:=Tryz.sizeOf357
 v212:=Tryz.zeroValue357
 t213:=Tryz.underlying358
 a213:=Tryz.isAgg358
 z213:=Tryz.sizeOf358
 t232:=Tryz.underlying377
 a232:=Tryz.isAgg377
 z232:=Tryz.sizeOf377
 v232:=Tryz.zeroValue377
 t233:=Tryz.underlying378
 a233:=Tryz.isAgg378
 z233:=Tryz.sizeOf378
 v233:=Tryz.zeroValue378
 g17:=by kernel_rfl
 g18:=by kernel_rfl
 g19:=by kernel_rfl
 i0:=by kernel_rfl
 i2:=by kernel_rfl
 i3:=by kernel_rfl
 i4:=by kernel_rfl
 i5:=by kernel_rfl
 i9:=by kernel_rfl
 i20:=by kernel_rfl
 i37:=by kernel_rfl
 i46:=by kernel_rfl
 i51:=by kernel_rfl
 i53:=by kernel_rfl
 i171:=by kernel_rfl
 i173:=by kernel_rfl
 i212:=by kernel_rfl
 i232:=by kernel_rfl
 i233:=by kernel_rfl
 m17:=by kernel_rfl
 m18:=by kernel_rfl
 m19:=by kernel_rfl }
open Go.RowKit Go.Sort Go.Lib in
theorem Tryz.strconv_FormatInt_10 (n : Int)(h0 : -9223372036854775808 ≤ n)(h1 : n ≤ 9223372036854775807)(w : World)(htab : Lib.TabIs Tryz.prog w "internal/strconv.uint64pow10" .u64 Lib.pow10Tab):Calls Tryz.prog 236 #[.int .i64 n,.int .i64 10] w fun e w'=>e=.returned (.string ⟨(Lib.itoa n).toArray⟩)∧∃ k os,w'=grow (w.drewN k) os:=Any.strconv_FormatInt_10 Tryz.laysM173 n h0 h1 w htab
def Tryz.laysC245_ren:Go.Shelf.Ren:=⟨fun|245=>253|279=>264|280=>265|281=>266|282=>267|316=>276|171=>278|205=>277|243=>280|246=>242|283=>248|284=>249|285=>250|286=>251|129=>173|317=>259|318=>260|319=>261|320=>262|337=>272|338=>273|n=>n,fun|9=>9|3=>3|75=>138|167=>360|4=>4|168=>363|210=>373|37=>132|0=>0|127=>204|145=>381|143=>379|2=>2|171=>350|53=>136|5=>5|173=>352|212=>357|51=>206|20=>20|213=>358|46=>201|232=>377|233=>378|80=>143|n=>n,fun|15=>6|16=>7|17=>3|18=>8|19=>9|n=>n⟩
def Dt:Go.Shelf.Ren:=⟨fun|174=>243|247=>252|245=>253|287=>263|279=>264|280=>265|281=>266|282=>267|321=>274|322=>275|316=>276|171=>278|205=>277|243=>280|246=>242|283=>248|284=>249|285=>250|286=>251|129=>173|317=>259|318=>260|319=>261|320=>262|337=>272|338=>273|n=>n,fun|9=>9|3=>3|2=>2|75=>138|85=>344|4=>4|167=>360|5=>5|53=>136|175=>361|46=>201|168=>363|37=>132|0=>0|210=>373|21=>21|127=>204|145=>381|143=>379|171=>350|173=>352|212=>357|51=>206|20=>20|213=>358|232=>377|233=>378|80=>143|n=>n,fun|15=>6|16=>7|17=>3|18=>8|19=>9|n=>n⟩
theorem Di:Go.Proofs.LaysC.n174 Tryz.prog Dt:={
 mixed:=by kernel_rfl
 f129:=Tryz.func173.trans (congrArg some (by kernel_rfl))
 f171:=Tryz.func278.trans (congrArg some (by kernel_rfl))
 f174:=Tryz.func243.trans (congrArg some (by kernel_rfl))
 f205:=Tryz.func277.trans (congrArg some (by kernel_rfl))
 f243:=Tryz.func280.trans (congrArg some (by kernel_rfl))
 f245:=Tryz.func253.trans (congrArg some (by kernel_rfl))
 f246:=Tryz.func242.trans (congrArg some (by kernel_rfl))
 f247:=Tryz.func252.trans (congrArg some (by kernel_rfl))
 f279:=Tryz.func264.trans (congrArg some (by kernel_rfl))
 f280:=Tryz.func265.trans (congrArg some (by kernel_rfl))
 f281:=Tryz.func266.trans (congrArg some (by kernel_rfl))
 f282:=Tryz.func267.trans (congrArg some (by kernel_rfl))
 f283:=Tryz.func248.trans (congrArg some (by kernel_rfl))
 f284:=Tryz.func249.trans (congrArg some (by kernel_rfl))
 f285:=Tryz.func250.trans (congrArg some (by kernel_rfl))
 f286:=Tryz.func251.trans (congrArg some (by kernel_rfl))
 f287:=Tryz.func263.trans (congrArg some (by kernel_rfl))
 f316:=Tryz.func276.trans (congrArg some (by kernel_rfl))
 f317:=Tryz.func259.trans (congrArg some (by kernel_rfl))
 f318:=Tryz.func260.trans (congrArg some (by kernel_rfl))
 f319:=Tryz.func261.trans (congrArg some (by kernel_rfl))
 f320:=Tryz.func262.trans (congrArg some (by kernel_rfl))
 f321:=Tryz.func274.trans (congrArg some (by kernel_rfl))
 f322:=Tryz.func275.trans (congrArg some (by kernel_rfl))
 f337:=Tryz.func272.trans (congrArg some (by kernel_rfl))
 f338:=Tryz.func273.trans (congrArg some (by kernel_rfl))
 t0:=Tryz.underlying0
 a0:=Tryz.isAgg0
 z0:=Tryz.sizeOf0
 v0:=Tryz.zeroValue0
 t2:=Tryz.underlying2
 a2:=Tryz.isAgg2
 z2:=Tryz.sizeOf2
 v2:=Tryz.zeroValue2
 t3:=Tryz.underlying3
 a3:=Tryz.isAgg3
 z3:=Tryz.sizeOf3
 v3:=Tryz.zeroValue3
 t4:=Tryz.underlying4
 a4:=Tryz.isAgg4
 z4:=Tryz.sizeOf4
 v4:=Tryz.zeroValue4
 t5:=Tryz.underlying5
 a5:=Tryz.isAgg5
 z5:=Tryz.sizeOf5
 v5:=Tryz.zeroValue5
 t9:=Tryz.underlying9
 a9:=Tryz.isAgg9
 z9:=Tryz.sizeOf9
 v9:=Tryz.zeroValue9
 t20:=Tryz.underlying20
 a20:=Tryz.isAgg20
 z20:=Tryz.sizeOf20
 v20:=Tryz.zeroValue20
 t21:=Tryz.underlying21
 a21:=Tryz.isAgg21
 z21:=Tryz.sizeOf21
 v21:=Tryz.zeroValue21
 t37:=Tryz.underlying132
 a37:=Tryz.isAgg132
 z37:=Tryz.sizeOf132
 v37:=Tryz.zeroValue132
 t46:=Tryz.underlying201
 a46:=Tryz.isAgg201
 z46:=Tryz.sizeOf201
 v46:=Tryz.zeroValue201
 t51:=Tryz.underlying206
 a51:=Tryz.isAgg206
 z51:=Tryz.sizeOf206
 v51:=Tryz.zeroValue206
 t53:=Tryz.underlying136
 a53:=Tryz.isAgg136
 z53:=Tryz.sizeOf136
 v53:=Tryz.zeroValue136
 t75:=Tryz.underlying138
 a75:=Tryz.isAgg138
 z75:=Tryz.sizeOf138
 v75:=Tryz.zeroValue138
 t85:=Tryz.underlying344
 a85:=Tryz.isAgg344
 z85:=Tryz.sizeOf344
 v85:=Tryz.zeroValue344
 t127:=Tryz.underlying204
 a127:=Tryz.isAgg204
 z127:=Tryz.sizeOf204
 v127:=Tryz.zeroValue204
 t143:=Tryz.underlying379
 a143:=Tryz.isAgg379
 z143:=Tryz.sizeOf379
 v143:=Tryz.zeroValue379
 t145:=Tryz.underlying381
 a145:=Tryz.isAgg381
 z145:=Tryz.sizeOf381
 v145:=Tryz.zeroValue381
 t167:=Tryz.underlying360
 a167:=Tryz.isAgg360
 z167:=Tryz.sizeOf360
 v167:=Tryz.zeroValue360
 t168:=Tryz.underlying363
 a168:=Tryz.isAgg363
 z168:=Tryz.sizeOf363
 v168:=Tryz.zeroValue363
 t171:=Tryz.underlying350
 a171:=Tryz.isAgg350
 z171:=Tryz.sizeOf350
 v171:=Tryz.zeroValue350
 t173:=Tryz.underlying352
 a173:=Tryz.isAgg352
 z173:=Tryz.sizeOf352
 v173:=Tryz.zeroValue352
 t175:=Tryz.underlying361
 a175:=Tryz.isAgg361
 z175:=Tryz.sizeOf361
 v175:=Tryz.zeroValue361
 t210:=Tryz.underlying373
 a210:=Tryz.isAgg373
 z210:=Tryz.sizeOf373
 v210:=Tryz.zeroValue373
 t212:=Tryz.underlying357
 a212:=Tryz.isAgg357
 z212:=Tryz.sizeOf357
 v212:=Tryz.zeroValue357
 t213:=Tryz.underlying358
 a213:=Tryz.isAgg358
 z213:=Tryz.sizeOf358
 t232:=Tryz.underlying377
 a232:=Tryz.isAgg377
 z232:=Tryz.sizeOf377
 v232:=Tryz.zeroValue377
 t233:=Tryz.underlying378
 a233:=Tryz.isAgg378
 z233:=Tryz.sizeOf378
 v233:=Tryz.zeroValue378
 g15:=by kernel_rfl
 g16:=by kernel_rfl
 g17:=by kernel_rfl
 g18:=by kernel_rfl
 g19:=by kernel_rfl
 t80:=Tryz.underlying143
 a80:=Tryz.isAgg143
 z80:=Tryz.sizeOf143
 v80:=Tryz.zeroValue143
 i0:=by kernel_rfl
 i2:=by kernel_rfl
 i3:=by kernel_rfl
 i4:=by kernel_rfl
 i5:=by kernel_rfl
 i9:=by kernel_rfl
 i20:=by kernel_rfl
 i21:=by kernel_rfl
 i37:=by kernel_rfl
 i46:=by kernel_rfl
 i51:=by kernel_rfl
 i53:=by kernel_rfl
 i75:=by kernel_rfl
 i80:=by kernel_rfl
 i85:=by kernel_rfl
 i127:=by kernel_rfl
 i143:=by kernel_rfl
 i145:=by kernel_rfl
 i167:=by kernel_rfl
 i168:=by kernel_rfl
 i171:=by kernel_rfl
 i173:=by kernel_rfl
 i175:=by kernel_rfl
 i210:=by kernel_rfl
 i212:=by kernel_rfl
 i232:=by kernel_rfl
 i233:=by kernel_rfl
 m15:=by kernel_rfl
 m16:=by kernel_rfl
 m17:=by kernel_rfl
 m18:=by kernel_rfl
 m19:=by kernel_rfl
 c0:=by kernel_rfl
 c2:=by kernel_rfl
 c3:=by kernel_rfl
 c4:=by kernel_rfl
 c5:=by kernel_rfl
 c9:=by kernel_rfl
 c20:=by kernel_rfl
 c21:=by kernel_rfl
 c37:=by kernel_rfl
 c46:=by kernel_rfl
 c51:=by kernel_rfl
 c53:=by kernel_rfl
 c75:=by kernel_rfl
 c80:=by kernel_rfl
 c85:=by kernel_rfl
 c127:=by kernel_rfl
 c143:=by kernel_rfl
 c145:=by kernel_rfl
 c167:=by kernel_rfl
 c168:=by kernel_rfl
 c171:=by kernel_rfl
 c173:=by kernel_rfl
 c175:=by kernel_rfl
 c210:=by kernel_rfl
 c212:=by kernel_rfl
 c213:=by kernel_rfl
 c232:=by kernel_rfl
 c233:=by kernel_rfl }
open Go.RowKit in
theorem Tryz.strconv_ParseInt_10_at64_ok (s:ByteArray)(hmax:s.size≤9223372036854775806)(v:Int)(h:Lib.parseIntB 64 s.data.toList=.ok v)(w:World):Calls Tryz.prog 243 #[.string s,.int .i64 10,.int .i64 64] w fun e w'=>e=.returned (.tuple #[.int .i64 v,.nilIface])∧(w'=w∨∃ t,w'=Lib.bytesWorld w 5 t):=Any.strconv_ParseInt_10_at64_ok Di s hmax v h w
open Go.RowKit in
theorem Tryz.strconv_ParseInt_10_at64_syntax (s:ByteArray)(hlim:s.size≤281474976710656)(h:Lib.parseIntB 64 s.data.toList=Lib.NumEnd.syntax)(ev:Value)(w:World)(hv:w.cell? ⟨6,0,none⟩=some ev)(hev:ev=.nilIface∨∃ te pe,ev=.iface te pe):Calls Tryz.prog 243 #[.string s,.int .i64 10,.int .i64 64] w fun e w'=>∃ N,e=.returned (.tuple #[.int .i64 (0),.iface 363 (.pointer (some ⟨N,0,none⟩))])∧w.heap.size≤N∧w'.heap[N]?=some (.cells #[.string ⟨#[80,97,114,115,101,73,110,116]⟩,.string s,ev] 373 (0,0))∧Below w.heap.size w w':=Any.strconv_ParseInt_10_at64_syntax Di s hlim h ev w hv hev
open Go.RowKit in
theorem Tryz.strconv_ParseInt_10_at64_range (s:ByteArray)(hlim:s.size≤281474976710656)(h:Lib.parseIntB 64 s.data.toList=.range)(ev:Value)(w:World)(hv:w.cell? ⟨7,0,none⟩=some ev)(hev:ev=.nilIface∨∃ te pe,ev=.iface te pe):Calls Tryz.prog 243 #[.string s,.int .i64 10,.int .i64 64] w fun e w'=>∃ N,e=.returned (.tuple #[.int .i64 (Lib.intSat 64 s.data.toList),.iface 363 (.pointer (some ⟨N,0,none⟩))])∧w.heap.size≤N∧w'.heap[N]?=some (.cells #[.string ⟨#[80,97,114,115,101,73,110,116]⟩,.string s,ev] 373 (0,0))∧Below w.heap.size w w':=Any.strconv_ParseInt_10_at64_range Di s hlim h ev w hv hev
def Tryz.lays219_ren:Go.Shelf.Ren:=⟨fun|219=>257|217=>194|225=>269|224=>270|267=>271|266=>220|314=>279|n=>n,fun|9=>9|3=>3|4=>4|5=>5|46=>201|146=>375|51=>206|n=>n,fun|1=>2|n=>n⟩
def Tryz.lays143_ren:Go.Shelf.Ren:=⟨fun|143=>246|219=>257|217=>194|225=>269|224=>270|267=>271|266=>220|314=>279|n=>n,fun|9=>9|3=>3|4=>4|5=>5|46=>201|146=>375|51=>206|n=>n,fun|1=>2|n=>n⟩
theorem Tryz.lays143:Go.Proofs.Lays.n143 Tryz.prog Tryz.lays143_ren:={
 mixed:=by kernel_rfl
 f143:=Tryz.func246.trans (congrArg some (by kernel_rfl))
 f217:=Tryz.func194.trans (congrArg some (by kernel_rfl))
 f219:=Tryz.func257.trans (congrArg some (by kernel_rfl))
 f224:=Tryz.func270.trans (congrArg some (by kernel_rfl))
 f225:=Tryz.func269.trans (congrArg some (by kernel_rfl))
 f266:=Tryz.func220.trans (congrArg some (by kernel_rfl))
 f267:=Tryz.func271.trans (congrArg some (by kernel_rfl))
 f314:=Tryz.func279.trans (congrArg some (by kernel_rfl))
 t3:=Tryz.underlying3
 a3:=Tryz.isAgg3
 z3:=Tryz.sizeOf3
 v3:=Tryz.zeroValue3
 t4:=Tryz.underlying4
 a4:=Tryz.isAgg4
 z4:=Tryz.sizeOf4
 v4:=Tryz.zeroValue4
 t5:=Tryz.underlying5
 a5:=Tryz.isAgg5
 z5:=Tryz.sizeOf5
 v5:=Tryz.zeroValue5
 t9:=Tryz.underlying9
 a9:=Tryz.isAgg9
 z9:=Tryz.sizeOf9
 v9:=Tryz.zeroValue9
 t46:=Tryz.underlying201
 a46:=Tryz.isAgg201
 z46:=Tryz.sizeOf201
 v46:=Tryz.zeroValue201
 t51:=Tryz.underlying206
 a51:=Tryz.isAgg206
 z51:=Tryz.sizeOf206
 v51:=Tryz.zeroValue206
 t146:=Tryz.underlying375
 a146:=Tryz.isAgg375
 z146:=Tryz.sizeOf375
 v146:=Tryz.zeroValue375
 g1:=by kernel_rfl }
open Go.RowKit Go.Lib in
theorem Tryz.strings_Index_one (s:ByteArray)(c:UInt8)(w:World):Calls Tryz.prog 246 #[.string s,.string ⟨#[c]⟩] w fun e w'=>e=.returned (.int .i64 (Lib.indexByte s.data.toList c))∧w'=w:=Any.strings_Index_one Tryz.lays143 s c w
def Tryz.lays145_ren:Go.Shelf.Ren:=⟨fun|145=>330|220=>331|219=>257|217=>194|225=>269|224=>270|267=>271|266=>220|314=>279|n=>n,fun|9=>9|4=>4|59=>404|3=>3|5=>5|46=>201|146=>375|51=>206|n=>n,fun|1=>2|n=>n⟩
theorem Tryz.lays145:Go.Proofs.Lays.n145 Tryz.prog Tryz.lays145_ren:={
 mixed:=by kernel_rfl
 f145:=Tryz.func330.trans (congrArg some (by kernel_rfl))
 f217:=Tryz.func194.trans (congrArg some (by kernel_rfl))
 f219:=Tryz.func257.trans (congrArg some (by kernel_rfl))
 f220:=Tryz.func331.trans (congrArg some (by kernel_rfl))
 f224:=Tryz.func270.trans (congrArg some (by kernel_rfl))
 f225:=Tryz.func269.trans (congrArg some (by kernel_rfl))
 f266:=Tryz.func220.trans (congrArg some (by kernel_rfl))
 f267:=Tryz.func271.trans (congrArg some (by kernel_rfl))
 f314:=Tryz.func279.trans (congrArg some (by kernel_rfl))
 t3:=Tryz.underlying3
 a3:=Tryz.isAgg3
 z3:=Tryz.sizeOf3
 v3:=Tryz.zeroValue3
 t4:=Tryz.underlying4
 a4:=Tryz.isAgg4
 z4:=Tryz.sizeOf4
 v4:=Tryz.zeroValue4
 t5:=Tryz.underlying5
 a5:=Tryz.isAgg5
 z5:=Tryz.sizeOf5
 v5:=Tryz.zeroValue5
 t9:=Tryz.underlying9
 a9:=Tryz.isAgg9
 z9:=Tryz.sizeOf9
 v9:=Tryz.zeroValue9
 t46:=Tryz.underlying201
 a46:=Tryz.isAgg201
 z46:=Tryz.sizeOf201
 v46:=Tryz.zeroValue201
 t51:=Tryz.underlying206
 a51:=Tryz.isAgg206
 z51:=Tryz.sizeOf206
 v51:=Tryz.zeroValue206
 t59:=Tryz.underlying404
 a59:=Tryz.isAgg404
 z59:=Tryz.sizeOf404
 v59:=Tryz.zeroValue404
 t146:=Tryz.underlying375
 a146:=Tryz.isAgg375
 z146:=Tryz.sizeOf375
 v146:=Tryz.zeroValue375
 g1:=by kernel_rfl }
open Go.RowKit Go.Lib in
theorem Tryz.strings_Cut (s sep:ByteArray)(m:Int)(w:World)(hs:s.size<4294967281)(hm:w.cell? ⟨2,0,none⟩=some (.int .i64 m)):Calls Tryz.prog 330 #[.string s,.string sep] w fun e w'=>e=.returned (.tuple #[.string ⟨(Lib.cut s.data.toList sep.data.toList).1.toArray⟩,.string ⟨(Lib.cut s.data.toList sep.data.toList).2.1.toArray⟩,.bool (Lib.cut s.data.toList sep.data.toList).2.2])∧∃ n,w'=w.drewN n:=Any.strings_Cut Tryz.lays145 s sep m w hs hm
def Tryz.lays138_ren:Go.Shelf.Ren:=⟨fun|138=>244|195=>254|218=>255|143=>246|219=>257|217=>194|225=>269|224=>270|267=>271|266=>220|314=>279|n=>n,fun|9=>9|3=>3|4=>4|5=>5|0=>0|46=>201|146=>375|51=>206|n=>n,fun|1=>2|n=>n⟩
theorem Tryz.lays138:Go.Proofs.Lays.n138 Tryz.prog Tryz.lays138_ren:={
 mixed:=by kernel_rfl
 f138:=Tryz.func244.trans (congrArg some (by kernel_rfl))
 f143:=Tryz.func246.trans (congrArg some (by kernel_rfl))
 f195:=Tryz.func254.trans (congrArg some (by kernel_rfl))
 f217:=Tryz.func194.trans (congrArg some (by kernel_rfl))
 f218:=Tryz.func255.trans (congrArg some (by kernel_rfl))
 f219:=Tryz.func257.trans (congrArg some (by kernel_rfl))
 f224:=Tryz.func270.trans (congrArg some (by kernel_rfl))
 f225:=Tryz.func269.trans (congrArg some (by kernel_rfl))
 f266:=Tryz.func220.trans (congrArg some (by kernel_rfl))
 f267:=Tryz.func271.trans (congrArg some (by kernel_rfl))
 f314:=Tryz.func279.trans (congrArg some (by kernel_rfl))
 t0:=Tryz.underlying0
 a0:=Tryz.isAgg0
 z0:=Tryz.sizeOf0
 v0:=Tryz.zeroValue0
 t3:=Tryz.underlying3
 a3:=Tryz.isAgg3
 z3:=Tryz.sizeOf3
 v3:=Tryz.zeroValue3
 t4:=Tryz.underlying4
 a4:=Tryz.isAgg4
 z4:=Tryz.sizeOf4
 v4:=Tryz.zeroValue4
 t5:=Tryz.underlying5
 a5:=Tryz.isAgg5
 z5:=Tryz.sizeOf5
 v5:=Tryz.zeroValue5
 t9:=Tryz.underlying9
 a9:=Tryz.isAgg9
 z9:=Tryz.sizeOf9
 v9:=Tryz.zeroValue9
 t46:=Tryz.underlying201
 a46:=Tryz.isAgg201
 z46:=Tryz.sizeOf201
 v46:=Tryz.zeroValue201
 t51:=Tryz.underlying206
 a51:=Tryz.isAgg206
 z51:=Tryz.sizeOf206
 v51:=Tryz.zeroValue206
 t146:=Tryz.underlying375
 a146:=Tryz.isAgg375
 z146:=Tryz.sizeOf375
 v146:=Tryz.zeroValue375
 g1:=by kernel_rfl }
open Go.RowKit Go.Lib in
theorem Tryz.strings_Count_one (s:ByteArray)(c:UInt8)(w:World):Calls Tryz.prog 244 #[.string s,.string ⟨#[c]⟩] w fun e w'=>e=.returned (.int .i64 (Lib.countByte s.data.toList c))∧w'=w:=Any.strings_Count_one Tryz.lays138 s c w
def Tryz.lays207_ren:Go.Shelf.Ren:=⟨fun|207=>154|n=>n,fun|9=>9|4=>4|3=>3|n=>n,fun|n=>n⟩
def Tryz.lays102_ren:Go.Shelf.Ren:=⟨fun|102=>64|209=>108|207=>154|n=>n,fun|9=>9|4=>4|3=>3|n=>n,fun|n=>n⟩
theorem Tryz.lays102:Go.Proofs.Lays.n102 Tryz.prog Tryz.lays102_ren:={
 mixed:=by kernel_rfl
 f102:=Tryz.func64.trans (congrArg some (by kernel_rfl))
 f207:=Tryz.func154.trans (congrArg some (by kernel_rfl))
 f209:=Tryz.func108.trans (congrArg some (by kernel_rfl))
 t3:=Tryz.underlying3
 a3:=Tryz.isAgg3
 z3:=Tryz.sizeOf3
 v3:=Tryz.zeroValue3
 t4:=Tryz.underlying4
 a4:=Tryz.isAgg4
 z4:=Tryz.sizeOf4
 v4:=Tryz.zeroValue4
 t9:=Tryz.underlying9
 a9:=Tryz.isAgg9
 z9:=Tryz.sizeOf9
 v9:=Tryz.zeroValue9 }
open Go.RowKit Go.Lib in
theorem Tryz.strings_TrimSuffix (s p:ByteArray)(w:World)(hs:s.size≤9223372036854775807):Calls Tryz.prog 64 #[.string s,.string p] w fun e w'=>e=.returned (.string ⟨(Lib.trimSuffix s.data.toList p.data.toList).toArray⟩)∧w'=w:=Any.strings_TrimSuffix Tryz.lays102 s p w hs
end Go.Proofs
namespace Go.Proofs.YtckhfapcmjlmbaaGreatDoor
open Go.RowKit Oct
section
theorem sizeBuilder:(Tryz.prog.info? 134).map (·.size)=some 2:=by kernel_rfl
theorem liesBuilder:liesAt Tryz.prog Tryz.prog.depth 134 (2 / Tryz.prog.cellsOf 134) 0 134 1=true:=by kernel_rfl
theorem fW (b:Nat)(w:World)(h0:w.cell? ⟨b,0,none⟩=some (.pointer (some ⟨b,0,none⟩))):Calls Tryz.prog 128 #[.pointer (some ⟨b,0,none⟩)] w fun e w'=>e=.returned (.tuple #[])∧w'=w:=by
 obtain⟨j,hj,_⟩:=Option.map_eq_some_iff.1 sizeBuilder;go_enter Tryz.func128,Tryz.ntmps128;go_wp2;rw[Lib.run_neq_ptr_same w _ Tryz.underlying131 hj];go_wp2;go_end0;exact⟨rfl,rfl⟩
theorem ft (b:Nat)(w:World)(h0:w.cell? ⟨b,0,none⟩=some (.pointer none))(hsh:w.shape? b=some (134,2))(hfz:w.frozen? ⟨b,0,none⟩=false):Calls Tryz.prog 128 #[.pointer (some ⟨b,0,none⟩)] w fun e w'=>e=.returned (.tuple #[])∧w'=w.setCell ⟨b,0,none⟩ (.pointer (some ⟨b,0,none⟩)):=by
 obtain⟨j,hj,hjs⟩:=Option.map_eq_some_iff.1 sizeBuilder;go_enter Tryz.func128,Tryz.ntmps128;go_wp2;rw[Lib.run_to_unsafe w ⟨b,0,none⟩ Tryz.underlying131 Tryz.underlying254 hj (by rw[hjs];decide) hsh (Nat.zero_lt_succ 1)];simp only[Result.andThen];rw[Oper.upon_value];go_wp2;rw[run_callFunc_extern Tryz.func175 (by kernel_rfl) (by kernel_rfl) (by kernel_rfl) (e:=Extern.AbiNoEscape.same) (by kernel_rfl)];rw[Lib.run_noEscape];simp only[Result.andThen];rw[Oper.upon_value];go_wp2;rw[Lib.run_from_unsafe w ⟨b,0,none⟩ Tryz.underlying254 Tryz.underlying131 hj hsh liesBuilder];simp only[Result.andThen];rw[Oper.upon_value];go_wp2;go_end0;exact⟨rfl,rfl⟩
theorem oy (B b:Nat)(bs:List Value)(w:World)(h:Lib.IsBuilder 134 5 B b bs w):Calls Tryz.prog 128 #[.pointer (some ⟨b,0,none⟩)] w fun e w'=>e=.returned (.tuple #[])∧(Lib.BuilderAt 134 5 B b (.pointer (some ⟨b,0,none⟩)) bs w'∧Below B w w'):=by
 rcases h with h|h
 ·refine(ft b w h.cell0 h.shape h.frozen0).mono ?_
  rintro e w' ⟨rfl,rfl⟩;exact⟨rfl,h.used _,(DF B w).setCell (p:=⟨b,0,none⟩) h.1 _⟩
 ·refine(fW b w h.cell0).mono ?_
  rintro e w' ⟨rfl,rfl⟩;exact⟨rfl,h,DF B _⟩
theorem Gw {T:Prop} (h:T:=by
 rcases Nat.lt_or_ge b w1.heap.size with h'|h'
 ·exact h'
 ·simp[Array.getElem?_eq_none h']at hbk
):T:=h
theorem GD {T:Prop} (h:T:=by
 exact Lib.BuilderAt.put (T:=134) (e:=5) hB hb2 (bs':=bs++Lib.strCells s) (by simpa[Lib.strCells_length] using hown') (by decide)
):T:=h
theorem GJ {T:Prop} (h:T:=by
 exact(hb1.grown hgrow (by have:=hb1.size;omega) (fun k hk=>(hown.lt k hk).1)).setCell (p:=⟨b,1,none⟩) hB _
):T:=h
theorem GP {T:Prop} (h:T:=by
 rcases hown'.2 with ⟨hv,_⟩|⟨g,cap,cur,hv,_⟩
 ·exact⟨_,_,_,hv⟩
 ·exact⟨_,_,_,hv⟩
):T:=h
theorem mf (B b:Nat)(bs:List Value)(s:ByteArray)(w:World)(h:Lib.IsBuilder 134 5 B b bs w)(hlen:bs.length+s.size≤140737488355328)(hBw:B≤w.heap.size):Calls Tryz.prog 81 #[.pointer (some ⟨b,0,none⟩),.string s] w fun e w'=>e=.returned (.tuple #[.int .i64 s.size,.nilIface])∧(Lib.BuilderAt 134 5 B b (.pointer (some ⟨b,0,none⟩)) (bs++Lib.strCells s) w'∧Below B w w'):=by
 obtain⟨i0,hi,hz0,hz1,hz2⟩:=info_parts lj;go_enter Tryz.func81,Tryz.ntmps81;go_wp2_with (go_at_call 128;refine(oy B b bs _ h).mono ?_);rintro e w1 ⟨rfl,h1,hb1⟩;obtain⟨hB,v,hbk,hown,hne⟩:=h1;have c0:w1.cell? ⟨b,0,none⟩=some (.pointer (some ⟨b,0,none⟩)):=by rw[Lib.cell_of_heap hbk];rfl
 have c1:w1.cell? ⟨b,1,none⟩=some v:=by rw[Lib.cell_of_heap hbk];rfl
 go_wp2_with (at_builtin;refine Lib.wpList_append_own_string _ rfl _ _ 132 9 rfl B 5 i0 Tryz.underlying132 Tryz.underlying9 hi hz0 hz1 hz2 _ _ _ rfl hown s rfl ?c3 ?c4 ?c5 ?_)
 case c3=>unfold maxLen;omega
 case c4=>omega
 case c5=>have:=hb1.size;omega
 intro v' w2 hown' hgrow _
 have hlt:b<w1.heap.size:=by
  exact Gw
 have hb2:w2.heap[b]?=some (.cells #[.pointer (some ⟨b,0,none⟩),v] 134 (0,0)):=by
  rw[hgrow.block b hlt (fun e=>hne e.symm)];exact hbk
 have d0:w2.cell? ⟨b,0,none⟩=some (.pointer (some ⟨b,0,none⟩)):=by rw[Lib.cell_of_heap hb2];rfl
 have d1:w2.cell? ⟨b,1,none⟩=some v:=by rw[Lib.cell_of_heap hb2];rfl
 have f1:w2.frozen? ⟨b,1,none⟩=false:=Lib.frozen_of_heap hb2 1
 obtain⟨ao,n',cap,rfl⟩:∃ ao n' cap,v'=.slice ao n' cap:=by
  exact GP
 go_wp2;go_ret2;refine⟨rfl,?_,?_⟩
 ·exact GD
 ·exact GJ
def Bld (B b:Nat)(l:LU_)(w:World):Prop:=B≤w.heap.size∧Lib.IsBuilder 134 5 B b (aM l) w
theorem Bld.fresh (w:World):Bld w.heap.size w.heap.size [] (w.alloc (.cells #[.pointer none,.slice none 0 0] 134)):=⟨by simp,Lib.fresh_isBuilder _ _ w⟩
theorem lw (l:LU_):Lib.strCells (bs l)=aM l:=by simp[Lib.strCells,aM,bs]
theorem iA {T e:TypeId}{B b:Nat}{p:Value}{l:List Value}{w w':World}(h:Lib.BuilderAt T e B b p l w)(hB:Below w.heap.size w w'):Lib.BuilderAt T e B b p l w':=by
 have hlt:=h.lt;obtain⟨h1,v,h2,h3,h4⟩:=h;exact⟨h1,v,(hB.block b hlt).trans h2,bD h3 hB,h4⟩
theorem Bld.below {B b:Nat}{l:LU_}{w w':World}(h:Bld B b l w)(hB:Below w.heap.size w w'):Bld B b l w' :=
 ⟨DG h.1 hB.size,h.2.imp (fun h=>iA h hB) (fun h=>iA h hB)⟩
theorem cy (B b:Nat)(l m:LU_)(w:World)(h:Bld B b l w)(hlen:l.length+m.length≤140737488355328):Calls Tryz.prog 81 #[.pointer (some ⟨b,0,none⟩),.string (bs m)] w fun e w'=>e=.returned (.tuple #[.int .i64 m.length,.nilIface])∧Bld B b (l++m) w'∧Below B w w':=by
 refine(mf B b (aM l) (bs m) w h.2 (by rw[aV,bA];exact hlen) h.1).mono ?_;rintro e w' ⟨rfl,h1,h2⟩;refine⟨by rw[bA],⟨DG h.1 h2.size,.inr ?_⟩,h2⟩;rw[lw]at h1;simpa[aM] using h1
theorem gx (B b:Nat)(l:LU_)(w:World)(h:Bld B b l w):Calls Tryz.prog 84 #[.pointer (some ⟨b,0,none⟩)] w fun e w'=>e=.returned (.string (bs l))∧Below B w w' :=
 Tryz.Builder_String_any B b l w h.2 h.1
end
section
def U (x:UInt32):Int:=(x.toNat:Int)
theorem cX (x:UInt32):U x=(x.toNat:Int):=rfl
theorem oB (x:UInt32):x.toNat<4294967296:=x.toNat_lt
@[go_sem] theorem fX (a b:UInt32):bits .xor .u32 (U a) (U b)=U (a ^^^ b):=by
 rw[cX,cX,u32_xor_nat _ _ (oB a) (oB b),cX,UInt32.toNat_xor]
@[go_sem] theorem gw (a b:UInt32):bits .and .u32 (U a) (U b)=U (a &&& b):=by
 rw[cX,cX,u32_and_nat _ _ (oB a) (oB b),cX,UInt32.toNat_and]
@[go_sem] theorem jv (a b:UInt32):bits .or .u32 (U a) (U b)=U (a ||| b):=by
 rw[cX,cX,u32_or_nat _ _ (oB a) (oB b),cX,UInt32.toNat_or]
theorem qx (z:Int):IntKind.u32.wrap z=z%(4294967296:Int):=by
 simp[IntKind.wrap,IntKind.bits,IntKind.signed]
@[go_sem] theorem fY (a b:UInt32):IntKind.u32.wrap (U a+U b)=U (a+b):=by
 rw[qx,cX,cX,cX,UInt32.toNat_add];omega
theorem vg (x:UInt32)(n:Nat)(h:n≤31):U x / 2 ^ n=U (x >>> UInt32.ofNat n):=by
 rw[cX,cX,UInt32.toNat_shiftRight,UInt32.toNat_ofNat_of_lt' (by show n<4294967296;omega),Nat.mod_eq_of_lt (by omega),Nat.shiftRight_eq_div_pow]
 norm_cast
theorem sK (x:UInt32)(n:Nat)(h:n≤31):U x*2 ^ n%4294967296=U (x <<< UInt32.ofNat n):=by
 rw[cX,cX,UInt32.toNat_shiftLeft,UInt32.toNat_ofNat_of_lt' (by show n<4294967296;omega),Nat.mod_eq_of_lt (show n<32 by omega),Nat.shiftLeft_eq];have e:(4294967296:Int)=((2 ^ 32:Nat):Int):=rfl;have e2:(2:Int) ^ n=((2 ^ n:Nat):Int):=by norm_cast
 rw[e,e2,←Int.natCast_mul,←Int.natCast_emod]
@[go_sem] theorem dy (x:UInt32):U x*(16777216:Int)%(4294967296:Int)=U (x <<< 24):=sK x 24 (by omega)
@[go_sem] theorem dz (x:UInt32):U x*(65536:Int)%(4294967296:Int)=U (x <<< 16):=sK x 16 (by omega)
@[go_sem] theorem eC (x:UInt32):U x*(256:Int)%(4294967296:Int)=U (x <<< 8):=sK x 8 (by omega)
@[go_sem] theorem eB (x:UInt32):U x / (8:Int)=U (x >>> 3):=vg x 3 (by omega)
@[go_sem] theorem dx (x:UInt32):U x / (1024:Int)=U (x >>> 10):=vg x 10 (by omega)
@[go_sem] theorem eH (a b:UInt32):(U a+U b)%(4294967296:Int)=U (a+b):=by rw[←qx,fY]
@[go_sem] theorem eG (a b c:UInt32):(U a+U b+U c)%(4294967296:Int)=U (a+b+c):=by
 simp only[cX,UInt32.toNat_add];omega
@[go_sem] theorem eF (a b c d:UInt32):(U a+U b+U c+U d)%(4294967296:Int)=U (a+b+c+d):=by
 simp only[cX,UInt32.toNat_add];omega
@[go_sem] theorem eE (a b c d e:UInt32):(U a+U b+U c+U d+U e)%(4294967296:Int)=U (a+b+c+d+e):=by
 simp only[cX,UInt32.toNat_add];omega
@[go_sem] theorem eD (c:UInt8):(c.toNat:Int)%(4294967296:Int)=U c.toUInt32:=by
 have:=c.toNat_lt;rw[cX,UInt8.toNat_toUInt32];omega
def au (l:List UInt32):List Value:=l.map fun x=>.int .u32 (U x)
theorem aE (l:List UInt32):(au l).length=l.length:=by simp[au]
theorem oI (l:List UInt32)(k:Nat)(h:k<l.length):(au l)[k]?=some (.int .u32 (U l[k])):=by simp[au,h]
theorem fH (l:List UInt32)(k:Nat)(x:UInt32):(au l).set k (.int .u32 (U x))=au (l.set k x):=by simp[au,List.map_set]
theorem eK (l:List UInt32):(au l).toArray.all (·.oneCell')=true:=by
 rw[List.all_toArray,List.all_eq_true];intro v hv;simp only[au,List.mem_map]at hv;obtain⟨x,_,rfl⟩:=hv;rfl
def Blk (w:World)(b:Nat)(t:TypeId)(cs:List Value):Prop:=w.heap[b]?=some (.cells cs.toArray t (0,0))
theorem Blk.lt {w:World}{b:Nat}{t:TypeId}{cs:List Value}(h:Blk w b t cs):b<w.heap.size:=by
 rcases Nat.lt_or_ge b w.heap.size with hn|hn
 ·exact hn
 ·simp[Blk,Array.getElem?_eq_none hn]at h
theorem Blk.cell {w:World}{b:Nat}{t:TypeId}{cs:List Value}(h:Blk w b t cs){k:Nat}{v:Value}(hv:cs[k]?=some v):w.cell? ⟨b,k,none⟩=some v:=by
 rw[cell_of_row w b k _ t _ h];simpa using hv
theorem Blk.free {w:World}{b:Nat}{t:TypeId}{cs:List Value}(h:Blk w b t cs){k:Nat}(hk:k<cs.length):w.frozen? ⟨b,k,none⟩=false:=by
 unfold Blk at h;simp[World.frozen?,h]
theorem Blk.set {w:World}{b:Nat}{t:TypeId}{cs:List Value}(h:Blk w b t cs)(k:Nat)(v:Value):Blk (w.setCell ⟨b,k,none⟩ v) b t (cs.set k v):=by
 unfold Blk at h⊢;simp[World.setCell,Array.getElem?_modify,h]
theorem Blk.row {w:World}{b:Nat}{t:TypeId}{cs:List Value}(h:Blk w b t cs)(cs':List Value):Blk (w.setRow b cs'.toArray) b t cs':=by
 unfold Blk at h⊢;simp[World.setRow,Array.getElem?_modify,h]
theorem Blk.below {w w':World}{b:Nat}{t:TypeId}{cs:List Value}(h:Blk w b t cs)(hB:Below w.heap.size w w'):Blk w' b t cs:=by
 unfold Blk;rw[hB.block b h.lt];exact h
theorem Blk.chg {X:Nat→Prop}{w w':World}{b:Nat}{t:TypeId}{cs:List Value}(h:Blk w b t cs)(hB:Chg X w w')(hX:¬X b):Blk w' b t cs:=hB.at h hX
theorem Blk.new (w:World)(cs:List Value)(t:TypeId):Blk (w.alloc (.cells cs.toArray t)) w.heap.size t cs:=by
 exact heap_alloc_last w _
theorem fU (w:World)(b:Nat)(cs:Array Value)(k:Nat)(h:k≠b):(w.setRow b cs).heap[k]?=w.heap[k]?:=by
 unfold World.setRow;rw[Array.getElem?_modify,if_neg (fun e=>h e.symm)]
theorem iL (w:World)(b:Nat)(cs:Array Value):(w.setRow b cs).heap.size=w.heap.size:=by simp[World.setRow]
theorem cF {B:Nat}{a w:World}(h:Below B a w){b:Nat}(hb:B≤b)(cs:Array Value):Below B a (w.setRow b cs) :=
 ⟨h.os,h.tape,h.output,by rw[iL];exact h.size,fun k hk=>by rw[fU w b cs k (by omega)];exact h.block k hk⟩
theorem nN {X:Nat→Prop}(w:World)(b:Nat)(cs:Array Value)(hX:X b):Chg X w (w.setRow b cs) :=
 ⟨rfl,rfl,rfl,by rw[iL];exact DC _,fun k _ hn=>fU w b cs k fun e=>hn (e▸hX)⟩
section
variable {P:Program}{ops:Array Oper}{rest:List Oper}{op:Oper}{a:Act}{w:World}{Q:Exit→Act→World→Prop}
theorem kO (b:Nat)(cs:List Value){t:TypeId}(h:Blk w b t cs)(d:TypeDesc)(hgd:op.guard=none)(ty:TypeId)(x:Operand)(ho:op.op=.load ty x)(hx:a.eval x=.pointer (some ⟨b,0,none⟩))(hu:P.underlying ty=some d)(hd:(match d with|.struct _|.array _ _=>true|_=>false)=true)(hi:(P.info? ty).map (·.size)=some cs.length)(k:wpList P ops Q rest (a.put op.dst (.agg cs.toArray)) w):wpList P ops Q (op::rest) a w :=
 wpList_plain hgd fun _ hK=>wp_load_row ty x ho b hx t cs.toArray (0,0) d h hu hd (by simpa using hi) (hK _ _ k)
theorem fG (b:Nat)(cs cs':List Value){t:TypeId}(h:Blk w b t cs)(hgd:op.guard=none)(ty:TypeId)(x y:Operand)(ho:op.op=.store ty x y)(hx:a.eval x=.pointer (some ⟨b,0,none⟩))(hy:a.eval y=.agg cs'.toArray)(hi:(P.info? ty).map (·.size)=some cs'.length)(hl:cs.length=cs'.length)(h1:cs'.toArray.all (·.oneCell')=true)(k:wpList P ops Q rest (a.put op.dst undef) (w.setRow b cs'.toArray)):wpList P ops Q (op::rest) a w :=
 wpList_plain hgd fun _ hK=>wp_store_row ty x y ho b cs'.toArray hx hy t cs.toArray h (by simpa using hi) (by simpa using hl) h1 (hK _ _ k)
theorem jr (cs':List Value)(hgd:op.guard=none)(t:TypeId)(parts:Array (Nat×Operand))(ho:op.op=.build t parts)(hb:P.built t (parts.map fun (i,x)=>(i,a.eval x)).toList=some cs'.toArray)(k:wpList P ops Q rest (a.put op.dst (.agg cs'.toArray)) w):wpList P ops Q (op::rest) a w :=
 wpList_build hgd t parts ho (by rw[hb];rfl) (by rw[hb];exact k)
theorem jT {fn:Func}{p:Tmp}{ty t:TypeId}{tmps:Array Value}{cs:List Value}{b:Nat}(hr:fn.results=#[.cell p ty])(hp:tmps.getD p undef=.pointer (some ⟨b,0,none⟩))(h:Blk w b t cs)(d:TypeDesc)(hu:P.underlying ty=some d)(hd:(match d with|.struct _|.array _ _=>true|_=>false)=true)(hi:(P.info? ty).map (·.size)=some cs.length):(results fn tmps).run P w=.ok (.agg cs.toArray) w:=by
 have:=run_loadVar_row w b t ty cs.toArray (0,0) d h hu hd (by simpa using hi);simp only[Array.getD_eq_getD_getElem?]at hp;simp[results,hr,Sem.run_bind,Result.andThen,hp,asAddr,this]
end
theorem cl2 {w:World}{b:Nat}{t:TypeId}{v0 v1:Value}{l:List Value}(h:Blk w b t (v0::v1::l)):w.cell? ⟨b,0,none⟩=some v0∧w.cell? ⟨b,1,none⟩=some v1:=⟨h.cell (k:=0) rfl,h.cell (k:=1) rfl⟩
theorem cl3 {w:World}{b:Nat}{t:TypeId}{v0 v1 v2:Value}{l:List Value}(h:Blk w b t (v0::v1::v2::l)):w.cell? ⟨b,0,none⟩=some v0∧w.cell? ⟨b,1,none⟩=some v1∧w.cell? ⟨b,2,none⟩=some v2:=⟨h.cell (k:=0) rfl,h.cell (k:=1) rfl,h.cell (k:=2) rfl⟩
theorem cl4 {w:World}{b:Nat}{t:TypeId}{v0 v1 v2 v3:Value}{l:List Value}(h:Blk w b t (v0::v1::v2::v3::l)):w.cell? ⟨b,0,none⟩=some v0∧w.cell? ⟨b,1,none⟩=some v1∧w.cell? ⟨b,2,none⟩=some v2∧w.cell? ⟨b,3,none⟩=some v3:=⟨h.cell (k:=0) rfl,h.cell (k:=1) rfl,h.cell (k:=2) rfl,h.cell (k:=3) rfl⟩
theorem cl5 {w:World}{b:Nat}{t:TypeId}{v0 v1 v2 v3 v4:Value}{l:List Value}(h:Blk w b t (v0::v1::v2::v3::v4::l)):w.cell? ⟨b,0,none⟩=some v0∧w.cell? ⟨b,1,none⟩=some v1∧w.cell? ⟨b,2,none⟩=some v2∧w.cell? ⟨b,3,none⟩=some v3∧w.cell? ⟨b,4,none⟩=some v4:=⟨h.cell (k:=0) rfl,h.cell (k:=1) rfl,h.cell (k:=2) rfl,h.cell (k:=3) rfl,h.cell (k:=4) rfl⟩
theorem cl6 {w:World}{b:Nat}{t:TypeId}{v0 v1 v2 v3 v4 v5:Value}{l:List Value}(h:Blk w b t (v0::v1::v2::v3::v4::v5::l)):w.cell? ⟨b,0,none⟩=some v0∧w.cell? ⟨b,1,none⟩=some v1∧w.cell? ⟨b,2,none⟩=some v2∧w.cell? ⟨b,3,none⟩=some v3∧w.cell? ⟨b,4,none⟩=some v4∧w.cell? ⟨b,5,none⟩=some v5:=⟨h.cell (k:=0) rfl,h.cell (k:=1) rfl,h.cell (k:=2) rfl,h.cell (k:=3) rfl,h.cell (k:=4) rfl,h.cell (k:=5) rfl⟩
theorem cl7 {w:World}{b:Nat}{t:TypeId}{v0 v1 v2 v3 v4 v5 v6:Value}{l:List Value}(h:Blk w b t (v0::v1::v2::v3::v4::v5::v6::l)):w.cell? ⟨b,0,none⟩=some v0∧w.cell? ⟨b,1,none⟩=some v1∧w.cell? ⟨b,2,none⟩=some v2∧w.cell? ⟨b,3,none⟩=some v3∧w.cell? ⟨b,4,none⟩=some v4∧w.cell? ⟨b,5,none⟩=some v5∧w.cell? ⟨b,6,none⟩=some v6:=⟨h.cell (k:=0) rfl,h.cell (k:=1) rfl,h.cell (k:=2) rfl,h.cell (k:=3) rfl,h.cell (k:=4) rfl,h.cell (k:=5) rfl,h.cell (k:=6) rfl⟩
theorem cl8 {w:World}{b:Nat}{t:TypeId}{v0 v1 v2 v3 v4 v5 v6 v7:Value}{l:List Value}(h:Blk w b t (v0::v1::v2::v3::v4::v5::v6::v7::l)):w.cell? ⟨b,0,none⟩=some v0∧w.cell? ⟨b,1,none⟩=some v1∧w.cell? ⟨b,2,none⟩=some v2∧w.cell? ⟨b,3,none⟩=some v3∧w.cell? ⟨b,4,none⟩=some v4∧w.cell? ⟨b,5,none⟩=some v5∧w.cell? ⟨b,6,none⟩=some v6∧w.cell? ⟨b,7,none⟩=some v7:=⟨h.cell (k:=0) rfl,h.cell (k:=1) rfl,h.cell (k:=2) rfl,h.cell (k:=3) rfl,h.cell (k:=4) rfl,h.cell (k:=5) rfl,h.cell (k:=6) rfl,h.cell (k:=7) rfl⟩
theorem cl9 {w:World}{b:Nat}{t:TypeId}{v0 v1 v2 v3 v4 v5 v6 v7 v8:Value}{l:List Value}(h:Blk w b t (v0::v1::v2::v3::v4::v5::v6::v7::v8::l)):w.cell? ⟨b,0,none⟩=some v0∧w.cell? ⟨b,1,none⟩=some v1∧w.cell? ⟨b,2,none⟩=some v2∧w.cell? ⟨b,3,none⟩=some v3∧w.cell? ⟨b,4,none⟩=some v4∧w.cell? ⟨b,5,none⟩=some v5∧w.cell? ⟨b,6,none⟩=some v6∧w.cell? ⟨b,7,none⟩=some v7∧w.cell? ⟨b,8,none⟩=some v8:=⟨h.cell (k:=0) rfl,h.cell (k:=1) rfl,h.cell (k:=2) rfl,h.cell (k:=3) rfl,h.cell (k:=4) rfl,h.cell (k:=5) rfl,h.cell (k:=6) rfl,h.cell (k:=7) rfl,h.cell (k:=8) rfl⟩
theorem cl10 {w:World}{b:Nat}{t:TypeId}{v0 v1 v2 v3 v4 v5 v6 v7 v8 v9:Value}{l:List Value}(h:Blk w b t (v0::v1::v2::v3::v4::v5::v6::v7::v8::v9::l)):w.cell? ⟨b,0,none⟩=some v0∧w.cell? ⟨b,1,none⟩=some v1∧w.cell? ⟨b,2,none⟩=some v2∧w.cell? ⟨b,3,none⟩=some v3∧w.cell? ⟨b,4,none⟩=some v4∧w.cell? ⟨b,5,none⟩=some v5∧w.cell? ⟨b,6,none⟩=some v6∧w.cell? ⟨b,7,none⟩=some v7∧w.cell? ⟨b,8,none⟩=some v8∧w.cell? ⟨b,9,none⟩=some v9:=⟨h.cell (k:=0) rfl,h.cell (k:=1) rfl,h.cell (k:=2) rfl,h.cell (k:=3) rfl,h.cell (k:=4) rfl,h.cell (k:=5) rfl,h.cell (k:=6) rfl,h.cell (k:=7) rfl,h.cell (k:=8) rfl,h.cell (k:=9) rfl⟩
theorem fr2 {w:World}{b:Nat}{t:TypeId}{v0 v1:Value}{l:List Value}(h:Blk w b t (v0::v1::l)):w.frozen? ⟨b,0,none⟩=false∧w.frozen? ⟨b,1,none⟩=false:=⟨h.free (k:=0) (by simp),h.free (k:=1) (by simp)⟩
theorem fr3 {w:World}{b:Nat}{t:TypeId}{v0 v1 v2:Value}{l:List Value}(h:Blk w b t (v0::v1::v2::l)):w.frozen? ⟨b,0,none⟩=false∧w.frozen? ⟨b,1,none⟩=false∧w.frozen? ⟨b,2,none⟩=false:=⟨h.free (k:=0) (by simp),h.free (k:=1) (by simp),h.free (k:=2) (by simp)⟩
theorem fr4 {w:World}{b:Nat}{t:TypeId}{v0 v1 v2 v3:Value}{l:List Value}(h:Blk w b t (v0::v1::v2::v3::l)):w.frozen? ⟨b,0,none⟩=false∧w.frozen? ⟨b,1,none⟩=false∧w.frozen? ⟨b,2,none⟩=false∧w.frozen? ⟨b,3,none⟩=false:=⟨h.free (k:=0) (by simp),h.free (k:=1) (by simp),h.free (k:=2) (by simp),h.free (k:=3) (by simp)⟩
theorem fr5 {w:World}{b:Nat}{t:TypeId}{v0 v1 v2 v3 v4:Value}{l:List Value}(h:Blk w b t (v0::v1::v2::v3::v4::l)):w.frozen? ⟨b,0,none⟩=false∧w.frozen? ⟨b,1,none⟩=false∧w.frozen? ⟨b,2,none⟩=false∧w.frozen? ⟨b,3,none⟩=false∧w.frozen? ⟨b,4,none⟩=false:=⟨h.free (k:=0) (by simp),h.free (k:=1) (by simp),h.free (k:=2) (by simp),h.free (k:=3) (by simp),h.free (k:=4) (by simp)⟩
theorem fr6 {w:World}{b:Nat}{t:TypeId}{v0 v1 v2 v3 v4 v5:Value}{l:List Value}(h:Blk w b t (v0::v1::v2::v3::v4::v5::l)):w.frozen? ⟨b,0,none⟩=false∧w.frozen? ⟨b,1,none⟩=false∧w.frozen? ⟨b,2,none⟩=false∧w.frozen? ⟨b,3,none⟩=false∧w.frozen? ⟨b,4,none⟩=false∧w.frozen? ⟨b,5,none⟩=false:=⟨h.free (k:=0) (by simp),h.free (k:=1) (by simp),h.free (k:=2) (by simp),h.free (k:=3) (by simp),h.free (k:=4) (by simp),h.free (k:=5) (by simp)⟩
theorem fr7 {w:World}{b:Nat}{t:TypeId}{v0 v1 v2 v3 v4 v5 v6:Value}{l:List Value}(h:Blk w b t (v0::v1::v2::v3::v4::v5::v6::l)):w.frozen? ⟨b,0,none⟩=false∧w.frozen? ⟨b,1,none⟩=false∧w.frozen? ⟨b,2,none⟩=false∧w.frozen? ⟨b,3,none⟩=false∧w.frozen? ⟨b,4,none⟩=false∧w.frozen? ⟨b,5,none⟩=false∧w.frozen? ⟨b,6,none⟩=false:=⟨h.free (k:=0) (by simp),h.free (k:=1) (by simp),h.free (k:=2) (by simp),h.free (k:=3) (by simp),h.free (k:=4) (by simp),h.free (k:=5) (by simp),h.free (k:=6) (by simp)⟩
theorem fr8 {w:World}{b:Nat}{t:TypeId}{v0 v1 v2 v3 v4 v5 v6 v7:Value}{l:List Value}(h:Blk w b t (v0::v1::v2::v3::v4::v5::v6::v7::l)):w.frozen? ⟨b,0,none⟩=false∧w.frozen? ⟨b,1,none⟩=false∧w.frozen? ⟨b,2,none⟩=false∧w.frozen? ⟨b,3,none⟩=false∧w.frozen? ⟨b,4,none⟩=false∧w.frozen? ⟨b,5,none⟩=false∧w.frozen? ⟨b,6,none⟩=false∧w.frozen? ⟨b,7,none⟩=false:=⟨h.free (k:=0) (by simp),h.free (k:=1) (by simp),h.free (k:=2) (by simp),h.free (k:=3) (by simp),h.free (k:=4) (by simp),h.free (k:=5) (by simp),h.free (k:=6) (by simp),h.free (k:=7) (by simp)⟩
theorem bn_ {w W:World}{D:Nat}{t:TypeId}{cs:List Value}(h:D=w.heap.size)(h2:W=w.alloc (.cells cs.toArray t)):Blk W D t cs:=by rw[h,h2];exact Blk.new w _ _
theorem bm_ {w W:World}{t:TypeId}{cs:List Value}(h2:W=w.alloc (.cells cs.toArray t)):Blk W w.heap.size t cs:=by rw[h2];exact Blk.new w _ _
end
section
variable {P:Program}
theorem ou (z:Value)(n:Nat):madeCells #[z] n=(List.replicate n z).toArray:=by
 apply Array.ext
 ·simp[madeCells]
 ·intro i h1 h2
  simp[madeCells];simp[madeCells,Nat.mod_one]
theorem kE (t e:TypeId)(z:Value)(bytes:Nat)(ht:P.underlying t=some (.slice e))(hinfo:(P.info? e).map (fun i=>(i.zero,i.size,i.bytes))=some (some z,1,bytes))(hz:z.cells=#[z])(n:Nat)(hb:(bytes:Int)*(n:Int)≤281474976710656)(hn:n≤140737488355328)(w:World):(Instr.makeSlice t (.int .i64 (n:Int)) (.int .i64 (n:Int))).run P w=.ok (.slice (some ⟨w.heap.size,0,none⟩) n n) (w.alloc (.cells (List.replicate n z).toArray e)):=by
 obtain⟨i,hi,hz0,hi1,hi2⟩:=info_parts hinfo;have:=run_make (P:=P) w t e i z ht hi hz0 .i64 .i64 n n (by omega) (Int.le_refl _) (by rw[hi2];exact hb) (by omega);rw[this,hz,hi1,Nat.mul_one,DI,ou]
end
section
section
variable {P:Program}
theorem lD (w:World)(bZ:Nat)(t ty e:TypeId)(i:TypeInfo)(z:Value)(size bytes:Nat)(ht:P.underlying t=some (.slice e))(hi:P.info? e=some i)(hz:i.zero=some z)(hsize:i.size=size)(hby:i.bytes=bytes)(hzs:z.cells.size=size)(hsz:0<size)(v:Value)(n:Nat)(xs:List Value)(hown:w.ownsRow bZ e size v n xs)(a:Addr)(m c:Nat)(news:List Value)(hl:news.length=m*size)(hnews:∀ j u,news[j]?=some u→w.cell? (a.add j)=some u)(h1:∀ u∈news,u.oneCell'=true)(h63:n+m≤maxLen)(hbytes:(n+m)*bytes≤140737488355328)(hbase:bZ≤w.heap.size):∃ v' w',(Builtin.append_ #[t,t] ty #[v,.slice (some a) m c]).run P w=.ok v' w'∧w'.ownsRow bZ e size v' (n+m) (xs++news)∧w.grownBy w' v.ownBlock ∧((∀ k,k<w.heap.size→w'.heap[k]?=w.heap[k]?) ∨ ∃ g cap cur cur',v=.slice (some ⟨g,0,none⟩) n cap∧w.heap[g]?=some (.cells cur e (0,0))∧w'.heap[g]?=some (.cells cur' e (0,0))∧cur'.size=cur.size∧cur'.toList.take ((n+m)*size)=xs++news∧(∀ k,k≠g→w'.heap[k]?=w.heap[k]?)):=by
 subst hsize;subst hby;have hsmall:n+m≤9223372036854775807:=by simp only[maxLen]at h63;omega
 have hlen:(xs++news).length=(n+m)*i.size:=by rw[DL,hown.1,hl,Nat.add_mul]
 have grown:∀ (old:Nat),old<n+m→∀ (row:Option Nat),
   (w.drew.alloc (.cells (xs.toArray++news.toArray++Builtin.zeroCells z.cells (grownCap w (n+m) old e-(n+m))) e)).ownsRow bZ e i.size
    (.slice (some ⟨w.heap.size,0,none⟩) (n+m) (grownCap w (n+m) old e)) (n+m) (xs++news) ∧
   w.grownBy (w.drew.alloc (.cells (xs.toArray++news.toArray++Builtin.zeroCells z.cells (grownCap w (n+m) old e-(n+m))) e)) row:=by
  intro old ho row;have hge:=grownCap_ge w (n+m) old e;have hcm:grownCap w (n+m) old e≤maxLen:=grownCap_le_maxLen w (n+m) old e h63;refine⟨⟨hlen,.inr ⟨w.heap.size,_,_,rfl,hbase,heap_alloc_new w.drew _,hge,hcm,?_,?_⟩⟩,⟨rfl,rfl,rfl,by simp,fun k hk _=>by first|exact heap_alloc_old w.drew _ k hk|exact heap_alloc_old w.drew _ hk⟩⟩
  ·simp only[Array.size_append,List.size_toArray,size_zeroCells,hzs,hown.1,hl,←Nat.add_mul]
   congr 1;omega
  ·simp only[Array.toList_append,DK]
   rw[←DK,←hlen];exact List.take_left
 rcases hown.2 with ⟨rfl,rfl⟩|⟨g,cap,cur,rfl,hbg,hg,hnc,hcm,hcs,htake⟩
 ·have hx:xs=[]:=DD (by simpa using hown.1)
  subst hx
  by_cases hm:m=0
  ·subst hm
   have hn:news=[]:=DD (by simpa using hl);subst hn;refine⟨.slice none 0 0,w,?_,World.ownsRow_nil w bZ e i.size,⟨rfl,rfl,rfl,DC _,fun _ _ _=>rfl⟩,.inl fun _ _=>rfl⟩;simp[Builtin.append_,run_underlying ht,sizeOf,typeInfo,hi,Builtin.lenOf,Builtin.firstCells,loadCells,loadCellsFrom]
  ·have hr:=run_append_nil (P:=P) w t ty e i z ht hi hz a m c news hl hnews (by omega) (by omega) (by have hb:=hbytes;simp only[DE]at hb;omega)
   have hgr:=grown 0 (by omega) (Value.ownBlock (.slice none 0 0));simp only[DE,D5,Array.empty_append]at hgr⊢;exact⟨_,_,hr,hgr.1,hgr.2,.inl fun k hk=>hgr.2.block k hk (by simp[Value.ownBlock])⟩
 ·by_cases hroom:n+m≤cap
  ·have hfit:n*i.size+news.length≤cur.size:=by rw[hl,hcs,←Nat.add_mul];exact DV _ hroom
   have hr:=run_append_room (P:=P) w t ty e i ht hi g n cap cur hg a m c news hl hnews h1 hroom hfit;refine⟨_,_,hr,⟨hlen,.inr ⟨g,cap,_,rfl,hbg,setRow_heap w g cur _ e _ hg,hroom,hcm,?_,?_⟩⟩,⟨rfl,rfl,rfl,by simp,fun k _ hk=>setRow_other w g k _ (fun e=>hk (by simp[Value.ownBlock,e]))⟩,.inr ⟨g,cap,cur,_,rfl,hg,setRow_heap w g cur _ e _ hg,?_,?_,fun k hk=>setRow_other w g k _ (fun e=>hk e)⟩⟩
   ·simp only[List.size_toArray,DL,DU,D7,Array.length_toList]
    omega
   ·rw[htake,←hlen]
    exact List.take_left
   ·simp only[List.size_toArray,DL,DU,D7,Array.length_toList]
    omega
   ·rw[htake,←hlen]
    exact List.take_left
  ·have holds:∀ j u,xs[j]?=some u→w.cell? ((⟨g,0,none⟩:Addr).add j)=some u:=hown.cells (g:=g) rfl
   have hr:=run_append_grow (P:=P) w t ty e i z ht hi hz ⟨g,0,none⟩ n cap xs hown.1 holds a m c news hl hnews (by omega) (by omega) (growslice_fits (by omega) hbytes);have hgr:=grown cap (by omega) (Value.ownBlock (.slice (some ⟨g,0,none⟩) n cap));exact⟨_,_,hr,hgr.1,hgr.2,.inl fun k hk=>(grown cap (by omega) none).2.block k hk (by simp)⟩
end
theorem yX {w w':World}{bZ:Nat}{e:TypeId}{size:Nat}{v:Value}{n:Nat}{xs:List Value}(h:w.ownsRow bZ e size v n xs)(h4:∀ k,k<w.heap.size→w'.heap[k]?=w.heap[k]?):w'.ownsRow bZ e size v n xs:=by
 refine⟨h.1,?_⟩;rcases h.2 with h5|⟨g2,c2,cur2,rfl,hb2,hh2,hr⟩
 ·exact .inl h5
 ·refine .inr ⟨g2,c2,cur2,rfl,hb2,?_,hr⟩
  rw[h4 g2 ?_]
  ·exact hh2
  ·rcases Nat.lt_or_ge g2 w.heap.size with hn|hn
   ·exact hn
   ·rw[Array.getElem?_eq_none hn]at hh2;cases hh2
end
section
def iF (w:World)(bZ:Nat)(e:TypeId)(v:Value)(l:LU_):Prop :=
 ∃ g cap cur fz,v=.slice (some ⟨g,0,none⟩) l.length cap∧bZ≤g∧w.heap[g]?=some (.cells cur e fz)∧(fz.2=0∨cur.size≤fz.1)∧l.length≤cap∧cap≤maxLen∧cur.size=cap∧cur.toList.take l.length=aM l
section
variable {P:Program}
theorem iF.slice {w:World}{bZ:Nat}{e:TypeId}{v:Value}{l:LU_}(h:iF w bZ e v l):∃ g cap,v=.slice (some ⟨g,0,none⟩) l.length cap:=by
 obtain⟨g,cap,_,_,hv,_⟩:=h;exact⟨g,cap,hv⟩
theorem iF.below {w w':World}{bZ:Nat}{e:TypeId}{v:Value}{l:LU_}(h:iF w bZ e v l)(hB:Below w.heap.size w w'):iF w' bZ e v l:=by
 obtain⟨g,cap,cur,fz,h1,h2,h3,h4⟩:=h;exact⟨g,cap,cur,fz,h1,h2,(hB.block g (Array.getElem?_eq_some_iff.1 h3).1).trans h3,h4⟩
theorem iF.cell {w:World}{bZ g n cap:Nat}{e:TypeId}{l:LU_}(h:iF w bZ e (.slice (some ⟨g,0,none⟩) n cap) l)(j:Nat)(hj:j<l.length):w.cell? ⟨g,j,none⟩=some (.int .u8 (l[j].toNat:Int)):=by
 obtain⟨g',cap',cur,fz,h1,h2,h3,_,_,_,_,h5⟩:=h;injection h1 with e1 _ _
 cases e1
 rw[cell_of_row w g j cur e fz h3];have:(cur.toList.take l.length)[j]?=some (.int .u8 (l[j].toNat:Int)):=by rw[h5];simp[aM,hj]
 rw[List.getElem?_take,if_pos hj]at this;simpa using this
theorem iF.new (w:World)(e:TypeId)(l:LU_)(hl:l.length≤maxLen):iF (Lib.bytesWorld w e (bs l)) w.heap.size e (.slice (some ⟨w.heap.size,0,none⟩) l.length (grownCap w (bs l).size 0 e)) l:=by
 have hge:=grownCap_ge w (bs l).size 0 e;have hle:=grownCap_le_maxLen w (bs l).size 0 e (by rw[bA];exact hl)
 have hsz:(Lib.bytesCells w e (bs l)).size=grownCap w (bs l).size 0 e:=by
  simp only[Lib.bytesCells,Array.size_append,Array.size_map,Array.size_replicate];have:(bs l).data.size=(bs l).size:=rfl;omega
 refine⟨w.heap.size,_,_,_,rfl,DC _,Lib.bytesWorld_at_new w e (bs l),.inr (DC _),by rw[bA]at hge;exact hge,hle,hsz,?_⟩
 have h1:(Lib.bytesCells w e (bs l)).toList=aM l++List.replicate (grownCap w (bs l).size 0 e-(bs l).size) (.int .u8 0):=by
  simp only[Lib.bytesCells,Array.toList_append,Array.toList_map,it,aM,Array.toList_replicate]
 rw[h1,List.take_append_of_le_length (by rw[aV];exact DC _),DB (by rw[aV];exact DC _)]
theorem ja (w:World)(e:TypeId)(s:ByteArray):Below w.heap.size w (Lib.bytesWorld w e s) :=
 ⟨rfl,rfl,rfl,by rw[Lib.bytesWorld_size];omega,fun k hk=>Lib.bytesWorld_at_old w e s k hk⟩
theorem sI {ops:Array Oper}{rest:List Oper}{o:Oper}{a:Act}{Q:Exit→Act→World→Prop}(wr:World)(c:UInt8)(e:TypeId)(hgd:o.guard=none)(s x:Operand)(t:TypeId)(ho:o.op=.call { callee:=.builtin .append,args:=#[s,x],argTypes:=#[t,t] })(bZ:Nat)(ht:P.underlying t=some (.slice e))(hinfo:(P.info? e).map (fun i=>(i.zero,i.size,i.bytes))=some (some (.int .u8 0),1,1))(v:Value)(l:LU_)(n:Nat)(hn:l.length=n)(u:Value)(hu:u=.int .u8 (c.toNat:Int))(hown:iF wr bZ e v l)(hs:a.eval s=v)(cx:Nat)(hx:a.eval x=.slice (some ⟨wr.heap.size,0,none⟩) 1 cx)(hbytes:n+1≤140737488355328)(hbase:bZ≤wr.heap.size)(h:∀ g cap w',iF w' bZ e (.slice (some ⟨g,0,none⟩) (n+1) cap) (l++[c])→Below bZ wr w'→wpList P ops Q rest (a.put o.dst (.slice (some ⟨g,0,none⟩) (n+1) cap)) w'):wpList P ops Q (o::rest) a (wr.alloc (.cells #[u] e)):=by
 subst hn hu;obtain⟨i,hi,hz,hi1,hi2⟩:=info_parts hinfo;refine wpList_plain hgd fun K hK=>?_;obtain⟨w,hw⟩:=ex_ (wr.alloc (.cells #[.int .u8 (c.toNat:Int)] e));rw[←hw];have hown':iF w bZ e v l:=by rw[hw];exact hown.below (af _ _)
 have hB1:Below bZ wr w:=by rw[hw];exact(DF bZ wr).alloc hbase _
 have hnew:∀ j u,[Value.int .u8 (c.toNat:Int)][j]?=some u→w.cell? ((⟨wr.heap.size,0,none⟩:Addr).add j)=some u:=by
  intro j u hj
  have hj0:j<1:=by
   rcases Nat.lt_or_ge j 1 with h|h
   ·exact h
   ·simp[List.getElem?_eq_none (show [Value.int .u8 (c.toNat:Int)].length≤j from h)]at hj
  rw[hw,Addr.add_lit,DE,World.cell?_alloc_new];simpa using hj
 obtain⟨g,cap,cur,fz,hv,hbg,hg,hfz,hle,hcm,hcs,htk⟩:=id hown'
 have main:∃ g' cap' w',(Builtin.append_ #[t,t] o.type #[v,.slice (some ⟨wr.heap.size,0,none⟩) 1 cx]).run P w=.ok (.slice (some ⟨g',0,none⟩) (l.length+1) cap') w'∧iF w' bZ e (.slice (some ⟨g',0,none⟩) (l.length+1) cap') (l++[c])∧Below bZ w w':=by
  subst hv
  by_cases hroom:l.length+1≤cap
  ·have hlt:l.length<cur.size:=by omega
   have hcell:w.cell? ⟨g,l.length,none⟩=some cur[l.length]:=by rw[cell_of_row w g _ cur e fz hg];simp[hlt]
   have hfro:w.frozen? ⟨g,l.length,none⟩=false:=by
    obtain⟨lo,hh⟩:=fz;simp only at hfz;simp only[World.frozen?,hg,Bool.and_eq_false_iff,decide_eq_false_iff_not];omega
   have hst:(storeCells ⟨g,l.length,none⟩ [Value.int .u8 (c.toNat:Int)] 0).run P w=.ok () (w.setCell ⟨g,l.length,none⟩ (.int .u8 (c.toNat:Int))):=by
    have hadd:(⟨g,l.length,none⟩:Addr).add 0=⟨g,l.length,none⟩:=Addr.add_lit ..;simp only[storeCells,Sem.run_bind,hadd];rw[run_store P w _ _ _ rfl,hcell];simp[hfro]
   have hf:=run_firstCells_some (P:=P) w i.size 1 ⟨wr.heap.size,0,none⟩ 1 cx [.int .u8 (c.toNat:Int)] (by simp[hi1]) hnew;refine⟨g,cap,w.setCell ⟨g,l.length,none⟩ (.int .u8 (c.toNat:Int)),?_,?_,?_⟩
   ·rw[hi1]at hf
    simp[Builtin.append_,run_underlying ht,sizeOf,typeInfo,hi,hi1,Builtin.lenOf,hroom,hf,Addr.add_lit,hst]
   ·refine⟨g,cap,cur.setIfInBounds l.length (.int .u8 (c.toNat:Int)),fz,by simp,hbg,?_,by simpa using hfz,by simpa using hroom,hcm,by simpa using hcs,?_⟩
    ·rw[setCell_eq_setRow w g _ cur e fz _ hg]
     exact setRow_heap w g cur _ e fz hg
    ·rw[Array.toList_setIfInBounds,DL,Ea,List.take_set,Dz (by simpa using hlt),htk]
     rw[List.set_append_right _ _ (by rw[aV];exact DC _),aV,Nat.sub_self,←lV]
     rfl
   ·exact(DF bZ w).setCell (p:=⟨g,l.length,none⟩) hbg _
  ·have holds:∀ j u,(aM l)[j]?=some u→w.cell? ((⟨g,0,none⟩:Addr).add j)=some u:=by
    intro j u hj
    have hjl:j<l.length:=by
     rcases Nat.lt_or_ge j l.length with h|h
     ·exact h
     ·simp[List.getElem?_eq_none (show(aM l).length≤j by rw[aV];exact h)]at hj
    have:=hown'.cell j hjl;rw[Addr.add_lit,DE,this];simp[aM,hjl]at hj;rw[hj]
   have hr:=run_append_grow (P:=P) w t o.type e i (.int .u8 0) ht hi hz ⟨g,0,none⟩ l.length cap (aM l) (by rw[aV,hi1,Nat.mul_one]) holds ⟨wr.heap.size,0,none⟩ 1 cx [.int .u8 (c.toNat:Int)] (by simp[hi1]) hnew (by omega) (by omega)
    (growslice_fits (by omega) (by rw[hi2];omega))
   have hge:=grownCap_ge w (l.length+1) cap e;have hlm:=grownCap_le_maxLen w (l.length+1) cap e (by unfold maxLen;omega);refine⟨_,_,_,hr,?_,(DF bZ w).drew.alloc (by simp;have:=hB1.size;omega) _⟩;refine⟨w.heap.size,_,_,_,by simp,by have:=hB1.size;omega,World.alloc_heap_new w.drew _,.inl rfl,by simpa using hge,hlm,?_,?_⟩
   ·simp only[Array.size_append,List.size_toArray,aV,Ea,size_zeroCells]
    simp[Value.cells];omega
   ·have e1:(aM l++[Value.int .u8 (c.toNat:Int)]).length=(l++[c]).length:=by simp[aV]
    simp only[Array.toList_append,DK];rw[←DK,←e1,List.take_left,lV]
 obtain⟨g',cap',w',hr,h2,h3⟩:=main;unfold Oper.wp execOp;simp only[ho,resolve,invoke,builtin,Sem.run_bind,Sem.run_pure,Result.andThen_ok,List.map_toArray,List.map_cons,List.map_nil,hs,hx,hr];exact hK _ _ (h g' cap' w' h2 (hB1.trans h3))
theorem xz (src dst e:TypeId)(hs:P.underlying src=some (.slice e))(he:P.underlying e=some (.int .u8))(hd:P.underlying dst=some .string)(w:World)(bZ:Nat)(v:Value)(l:LU_)(h:iF w bZ e v l):(convert src dst v).run P w=.ok (.string (bs l)) w:=by
 obtain⟨g,cap,rfl⟩:=h.slice;exact run_convert_bytes_back w src dst e ⟨g,0,none⟩ cap l hs he hd (fun j hj=>by rw[Addr.add_lit,DE];exact h.cell j hj)
end
end
section
def A6 (b:Nat)(w w':World):Prop:=∀ X cs t fz,X≠b→t≠5→w.heap[X]?=some (.cells cs t fz)→w'.heap[X]?=some (.cells cs t fz)
theorem nK (B b:Nat)(bs:List Value)(w:World)(h:Lib.IsBuilder 134 5 B b bs w):Calls Tryz.prog 128 #[.pointer (some ⟨b,0,none⟩)] w fun e w'=>e=.returned (.tuple #[])∧(Lib.BuilderAt 134 5 B b (.pointer (some ⟨b,0,none⟩)) bs w'∧Below B w w'∧A6 b w w'):=by
 rcases h with h|h
 ·refine(ft b w h.cell0 h.shape h.frozen0).mono ?_
  rintro e w' ⟨rfl,rfl⟩;exact⟨rfl,h.used _,(DF B w).setCell (p:=⟨b,0,none⟩) h.1 _,fun X cs t fz hX _ hx=>by rw[heap_setCell_other _ _ _ _ (fun e=>hX (by first|exact e|exact e.symm))];exact hx⟩
 ·refine(fW b w h.cell0).mono ?_
  rintro e w' ⟨rfl,rfl⟩;exact⟨rfl,h,DF B _,fun X cs t fz _ _ hx=>hx⟩
theorem GR {T:Prop} (h:T:=by
 rcases Nat.lt_or_ge X w1.heap.size with h'|h'
 ·exact h'
 ·simp[Array.getElem?_eq_none h']at h1
):T:=h
theorem GS {T:Prop} (h:T:=by
 rw[heap_setCell_other _ _ _ _ (fun e=>hX (by first|exact e|exact e.symm))];exact h2.trans h1
):T:=h
theorem lp (B b:Nat)(bs:List Value)(s:ByteArray)(w:World)(h:Lib.IsBuilder 134 5 B b bs w)(hlen:bs.length+s.size≤140737488355328)(hBw:B≤w.heap.size):Calls Tryz.prog 81 #[.pointer (some ⟨b,0,none⟩),.string s] w fun e w'=>e=.returned (.tuple #[.int .i64 s.size,.nilIface])∧(Lib.BuilderAt 134 5 B b (.pointer (some ⟨b,0,none⟩)) (bs++Lib.strCells s) w'∧Below B w w'∧A6 b w w'):=by
 obtain⟨i0,hi,hz0,hz1,hz2⟩:=info_parts lj;go_enter Tryz.func81,Tryz.ntmps81;go_wp2_with (go_at_call 128;refine(nK B b bs _ h).mono ?_);rintro e w1 ⟨rfl,h1,hb1,hk1⟩;obtain⟨hB,v,hbk,hown,hne⟩:=h1;have c0:w1.cell? ⟨b,0,none⟩=some (.pointer (some ⟨b,0,none⟩)):=by rw[Lib.cell_of_heap hbk];rfl
 have c1:w1.cell? ⟨b,1,none⟩=some v:=by rw[Lib.cell_of_heap hbk];rfl
 go_wp2_with (at_builtin;refine Lib.wpList_append_own_string _ rfl _ _ 132 9 rfl B 5 i0 Tryz.underlying132 Tryz.underlying9 hi hz0 hz1 hz2 _ _ _ rfl hown s rfl ?c3 ?c4 ?c5 ?_)
 case c3=>unfold maxLen;omega
 case c4=>omega
 case c5=>have:=hb1.size;omega
 intro v' w2 hown' hgrow _
 have hlt:b<w1.heap.size:=by
  exact Gw
 have hb2:w2.heap[b]?=some (.cells #[.pointer (some ⟨b,0,none⟩),v] 134 (0,0)):=by
  rw[hgrow.block b hlt (fun e=>hne e.symm)];exact hbk
 have d0:w2.cell? ⟨b,0,none⟩=some (.pointer (some ⟨b,0,none⟩)):=by rw[Lib.cell_of_heap hb2];rfl
 have d1:w2.cell? ⟨b,1,none⟩=some v:=by rw[Lib.cell_of_heap hb2];rfl
 have f1:w2.frozen? ⟨b,1,none⟩=false:=Lib.frozen_of_heap hb2 1
 obtain⟨ao,n',cap,rfl⟩:∃ ao n' cap,v'=.slice ao n' cap:=by
  exact GP
 go_wp2;go_ret2;refine⟨rfl,?_,?_,?_⟩
 ·exact GD
 ·exact GJ
 ·intro X cs t fz hX ht hx
  have h1:=hk1 X cs t fz hX ht hx
  have hlt1:X<w1.heap.size:=by
   exact GR
  have h2:=hgrow.block X hlt1 (fun e=>by
   rcases hown.2 with ⟨hv,_⟩|⟨g,cap,cur,hv,_,hg,_⟩
   ·rw[hv]at e;simp[Value.ownBlock]at e
   ·rw[hv]at e
    simp only[Value.ownBlock,Option.some.injEq]at e;subst e;rw[hg]at h1;injection h1 with h1
    injection h1 with _ h1 _
    exact ht h1.symm)
  exact GS
theorem gT (B b:Nat)(l m:LU_)(w:World)(h:Bld B b l w)(hlen:l.length+m.length≤140737488355328):Calls Tryz.prog 81 #[.pointer (some ⟨b,0,none⟩),.string (bs m)] w fun e w'=>e=.returned (.tuple #[.int .i64 m.length,.nilIface])∧Bld B b (l++m) w'∧Below B w w'∧A6 b w w':=by
 refine(lp B b (aM l) (bs m) w h.2 (by rw[aV,bA];exact hlen) h.1).mono ?_;rintro e w' ⟨rfl,h1,h2,h3⟩;refine⟨by rw[bA],⟨DG h.1 h2.size,.inr ?_⟩,h2,h3⟩;rw[lw]at h1;simpa[aM] using h1
end
section
def cN (x:UInt32)(n:Nat):UInt32:=(x >>> UInt32.ofNat n) ||| (x <<< UInt32.ofNat (32-n))
def lm (b:LU_)(k:Nat):UInt32:=(b.getD k 0).toUInt32
def zJ (b:LU_)(k:Nat):UInt32:=((lm b k <<< 24 ||| lm b (k+1) <<< 16) ||| lm b (k+2) <<< 8) ||| lm b (k+3)
def sg0 (x:UInt32):UInt32:=cN x 7 ^^^ cN x 18 ^^^ (x >>> 3)
def sg1 (x:UInt32):UInt32:=cN x 17 ^^^ cN x 19 ^^^ (x >>> 10)
def mA (b:LU_)(l:List UInt32):UInt32 :=
 if l.length<16 then zJ b (4*l.length)
 else l.getD (l.length-16) 0+sg0 (l.getD (l.length-15) 0)+l.getD (l.length-7) 0+sg1 (l.getD (l.length-2) 0)
def wl (b:LU_):Nat→List UInt32
 | 0=>[]
 | t+1=>wl b t++[mA b (wl b t)]
theorem cR (b:LU_)(t:Nat):(wl b t).length=t:=by induction t with|zero=>rfl|succ t ih=>simp[wl,ih]
def gH (b:LU_)(t:Nat):List UInt32:=wl b t++List.replicate (64-t) 0
theorem eX (b:LU_)(t:Nat)(h:t≤64):(gH b t).length=64:=by simp[gH,cR];omega
theorem jU (b:LU_)(t:Nat)(h:t<64):(gH b t).set t (mA b (wl b t))=gH b (t+1):=by
 have e:64-t=(64-(t+1))+1:=by omega
 have e2:wl b (t+1)=wl b t++[mA b (wl b t)]:=rfl;unfold gH;rw[e2,List.set_append_right _ _ (by rw[cR];exact DC _),cR,Nat.sub_self,e,List.replicate_succ,List.set_cons_zero];simp only[DK,List.singleton_append]
theorem qw (b:LU_):gH b 64=wl b 64:=by simp[gH]
theorem gi (b:LU_)(t k:Nat)(h:k<t)(h':t≤64):(au (gH b t))[k]?=some (.int .u32 (U ((wl b t).getD k 0))):=by
 have hl:k<(wl b t).length:=by rw[cR];exact h
 have hx:k<(gH b t).length:=by rw[eX b t h'];omega
 rw[oI _ _ hx]
 have:(gH b t)[k]=(wl b t).getD k 0:=by
  simp only[gH,Ee hl,List.getD_eq_getElem?_getD,List.getElem?_eq_getElem hl,Option.getD_some]
 rw[this]
theorem oF (b:LU_)(t:Nat)(h:t<16):mA b (wl b t)=zJ b (4*t):=by rw[mA,cR,if_pos h]
theorem mz (b:LU_)(t:Nat)(h:16≤t):mA b (wl b t)=(wl b t).getD (t-16) 0+sg0 ((wl b t).getD (t-15) 0)+(wl b t).getD (t-7) 0+sg1 ((wl b t).getD (t-2) 0):=by rw[mA,cR,if_neg (by omega)]
theorem ir (b:LU_)(k:Nat)(h:k<b.length):b[k].toUInt32=lm b k:=by
 simp[lm,List.getD_eq_getElem?_getD,h]
theorem sG (b:LU_)(k:Nat)(h0:k<b.length)(h1:k+1<b.length)(h2:k+2<b.length)(h3:k+3<b.length):((b[k].toUInt32 <<< 24 ||| b[k+1].toUInt32 <<< 16) ||| b[k+2].toUInt32 <<< 8) ||| b[k+3].toUInt32=zJ b k:=by
 rw[ir,ir,ir,ir];rfl
theorem Blk.ex {w:World}{b:Nat}{t:TypeId}{cs:List Value}(h:Blk w b t cs){k:Nat}(hk:k<cs.length):∃ u,w.cell? ⟨b,k,none⟩=some u:=⟨_,h.cell (List.getElem?_eq_getElem hk)⟩
end
section
theorem eT (x:UInt32)(n:Nat)(w:World)(h1:1≤n)(h2:n≤31):Calls Tryz.prog 179 #[.int .u32 (U x),.int .i64 n] w fun e w'=>e=.returned (.int .u32 (U (cN x n)))∧Bw_ w w':=by
 have n1:(1:Int)≤(n:Int):=by omega
 have n2:(n:Int)≤31:=by omega
 go_enter Tryz.func179,Tryz.ntmps179;go_wp2;go_quiet (fail);rw[vg x n (by omega),sK x (32-n) (by omega),jv];go_wp2;go_ret;exact⟨rfl,C9 _ _⟩
end
