/-
  The kit's contracts of library functions, laid at the program's numbers.
-/
import Derived.Shelf.SortM.Plain
import Derived.Shelf.SortM.SortNone
import Derived.Test.YtoknnjiangjccaaGreatDoorChecked
set_option linter.all false
namespace Go.Proofs.YtoknnjiangjccaaGreatDoor
open Go Go.Shelf Tryz
set_option maxRecDepth 100000
set_option maxHeartbeats 200000
theorem fz_ {α:Type} {o:Option α} {a b:α} (h:o=some a) (e:a=b:=by kernel_rfl):o=some b:=h.trans (congrArg some e)
def Lay.srts_ren:Go.Shelf.Ren:=⟨fun|6=>132|8=>167|9=>169|19=>198|20=>199|21=>202|22=>203|23=>204|24=>205|25=>206|26=>207|27=>208|28=>209|29=>210|36=>237|31=>233|32=>234|37=>238|38=>239|39=>240|41=>264|n=>n,fun|27=>23|29=>9|3=>3|32=>164|26=>23|0=>0|44=>192|46=>194|4=>4|36=>185|35=>184|41=>189|5=>5|9=>9|53=>210|57=>214|63=>233|64=>104|n=>n,fun|n=>n⟩
theorem Lay.srts:Go.Proofs.SlLaysM.n6 prog Lay.srts_ren:={
 mixed:=by kernel_rfl
 f6:=⟨f132.name,by decide,(fz_ func132)⟩
 f8:=(fz_ func167)
 f9:=⟨f169.name,by decide,(fz_ func169)⟩
 f19:=(fz_ func198)
 f20:=(fz_ func199)
 f21:=⟨f202.name,by decide,(fz_ func202)⟩
 f22:=⟨f203.name,by decide,(fz_ func203)⟩
 f23:=⟨f204.name,by decide,(fz_ func204)⟩
 f24:=⟨f205.name,by decide,(fz_ func205)⟩
 f25:=⟨f206.name,by decide,(fz_ func206)⟩
 f26:=⟨f207.name,by decide,(fz_ func207)⟩
 f27:=⟨f208.name,by decide,(fz_ func208)⟩
 f28:=⟨f209.name,by decide,(fz_ func209)⟩
 f29:=⟨f210.name,by decide,(fz_ func210)⟩
 f31:=(fz_ func233)
 f32:=(fz_ func234)
 f36:=⟨f237.name,by decide,(fz_ func237)⟩
 f37:=⟨f238.name,by decide,(fz_ func238)⟩
 f38:=⟨f239.name,by decide,(fz_ func239)⟩
 f39:=⟨f240.name,by decide,(fz_ func240)⟩
 f41:=⟨f264.name,by decide,(fz_ func264)⟩
 t0:=underlying0
 a0:=isAgg0
 z0:=sizeOf0
 v0:=zeroValue0
 t3:=underlying3
 a3:=isAgg3
 z3:=sizeOf3
 v3:=zeroValue3
 t4:=underlying4
 a4:=isAgg4
 z4:=sizeOf4
 v4:=zeroValue4
 t5:=underlying5
 a5:=isAgg5
 z5:=sizeOf5
 v5:=zeroValue5
 t9:=underlying9
 a9:=isAgg9
 z9:=sizeOf9
 v9:=zeroValue9
 t26:=underlying23
 a26:=isAgg23
 z26:=sizeOf23
 v26:=zeroValue23
 t27:=underlying23
 a27:=isAgg23
 z27:=sizeOf23
 v27:=zeroValue23
 t29:=underlying9
 a29:=isAgg9
 z29:=sizeOf9
 v29:=zeroValue9
 t32:=underlying164
 a32:=isAgg164
 z32:=sizeOf164
 v32:=zeroValue164
 t35:=underlying184
 a35:=isAgg184
 z35:=sizeOf184
 v35:=zeroValue184
 t36:=underlying185
 a36:=isAgg185
 z36:=sizeOf185
 v36:=zeroValue185
 t41:=underlying189
 a41:=isAgg189
 z41:=sizeOf189
 v41:=zeroValue189
 t44:=underlying192
 a44:=isAgg192
 z44:=sizeOf192
 v44:=zeroValue192
 t46:=underlying194
 a46:=isAgg194
 z46:=sizeOf194
 v46:=zeroValue194
 t53:=underlying210
 a53:=isAgg210
 z53:=sizeOf210
 v53:=zeroValue210
 t57:=underlying214
 a57:=isAgg214
 z57:=sizeOf214
 v57:=zeroValue214
 t63:=underlying233
 a63:=isAgg233
 z63:=sizeOf233
 v63:=zeroValue233
 t64:=underlying104
 a64:=isAgg104
 z64:=sizeOf104
 v64:=zeroValue104}
end Go.Proofs.YtoknnjiangjccaaGreatDoor
