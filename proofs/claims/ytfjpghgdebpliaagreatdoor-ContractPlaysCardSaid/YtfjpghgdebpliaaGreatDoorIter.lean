/- Lemmas. -/
import Derived.Shelf.SlIter.Nil
import Derived.Shelf.SortM.Plain
import Derived.Shelf.SortM.SortNone
import Derived.Shelf.SlMaps.Clone
import Derived.Ground.GgzProg
import Derived.Ground.SlgmProg
import Derived.Ground.SlmcProg
import Derived.Test.YtfjpghgdebpliaaGreatDoorProg
namespace Go.Proofs
open Go.Shelf Go.Proofs.Tryz
theorem iq {G:String→Func}{i:Nat}{F:Func}(n:String)(h:prog.funcs[i]?=some F)(e:F=G n:=by kernel_rfl)(d:(n== "runtime.NumGoroutine")=false:=by decide):∃ m,(m== "runtime.NumGoroutine")=false∧prog.funcs[i]?=some (G m):=⟨n,d,h.trans (congrArg some e)⟩
def Tryz.keysC_ren:Ren:=⟨fun|7=>32|10=>53|n=>n,fun|23=>71|26=>9|3=>29|28=>79|0=>0|27=>78|33=>39|4=>4|n=>n,fun|n=>n⟩
theorem Tryz.keysC:SlLaysZ.n7 prog Tryz.keysC_ren:=by
 constructor
 case f7=>exact iq f32.name func32
 case f10=>exact iq f53.name func53
 all_goals first|kernel_rfl|(intro w;kernel_rfl)
def Tryz.sortedC_ren:Ren:=⟨fun|6=>31|8=>51|9=>52|11=>83|13=>85|12=>84|23=>124|24=>125|14=>115|15=>116|16=>117|17=>118|18=>119|19=>120|20=>121|21=>122|22=>123|25=>148|26=>149|27=>150|28=>151|29=>152|30=>153|31=>167|n=>n,fun|26=>9|28=>79|24=>22|0=>0|3=>3|37=>155|48=>167|50=>118|4=>4|40=>197|39=>196|45=>104|5=>5|9=>9|51=>237|55=>241|57=>253|58=>254|33=>39|n=>n,fun|n=>n⟩
theorem Tryz.sortedC:SlLaysZ.n6 prog Tryz.sortedC_ren:=by
 constructor
 case f6=>exact iq f31.name func31
 case f8=>exact iq f51.name func51
 case f11=>exact iq f83.name func83
 all_goals first|kernel_rfl|(intro w;kernel_rfl)
def Tryz.sortC_ren:Ren:=⟨fun|6=>52|8=>85|9=>84|19=>124|20=>125|21=>115|22=>116|23=>117|24=>118|25=>119|26=>120|27=>121|28=>122|29=>123|36=>148|31=>149|32=>150|37=>151|38=>152|39=>153|41=>167|n=>n,fun|27=>22|29=>9|3=>3|32=>155|26=>22|0=>0|44=>167|46=>118|4=>4|36=>197|35=>196|41=>104|5=>5|9=>9|53=>237|57=>241|63=>253|64=>254|n=>n,fun|n=>n⟩
theorem Tryz.sortC:SlLaysM.n6 prog Tryz.sortC_ren:=by
 constructor
 case f6=>exact iq f52.name func52
 case f9=>exact iq f84.name func84
 case f21=>exact iq f115.name func115
 case f22=>exact iq f116.name func116
 case f23=>exact iq f117.name func117
 case f24=>exact iq f118.name func118
 case f25=>exact iq f119.name func119
 case f26=>exact iq f120.name func120
 case f27=>exact iq f121.name func121
 case f28=>exact iq f122.name func122
 case f29=>exact iq f123.name func123
 case f36=>exact iq f148.name func148
 case f37=>exact iq f151.name func151
 case f38=>exact iq f152.name func152
 case f39=>exact iq f153.name func153
 case f41=>exact iq f167.name func167
 all_goals first|kernel_rfl|(intro w;kernel_rfl)
def Tryz.cloneC_ren:Ren:=⟨fun|5=>33|7=>54|n=>n,fun|23=>71|25=>9|3=>29|4=>4|20=>20|n=>n,fun|n=>n⟩
theorem Tryz.cloneC:SlLaysW.n5 prog Tryz.cloneC_ren:=by
 constructor
 case f5=>exact iq f33.name func33
 all_goals first|kernel_rfl|(intro w;kernel_rfl)
end Go.Proofs
