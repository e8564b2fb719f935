/-
  The kit's contracts of library functions, laid at the program's numbers.
-/
import Derived.Shelf.SortM.Plain
import Derived.Shelf.SortM.SortNone
import Derived.Test.YtmnnglbioibmfaaGreatDoorChecked
set_option linter.all false
namespace Go.Proofs.YtmnnglbioibmfaaGreatDoor
open Go Go.Shelf Tryz
set_option maxRecDepth 100000
set_option maxHeartbeats 200000
theorem fz_ {α:Type} {o:Option α} {a b:α} (h:o=some a) (e:a=b:=by kernel_rfl):o=some b:=h.trans (congrArg some e)
def Lay.srts_ren:Go.Shelf.Ren:=⟨fun|6=>111|8=>135|9=>137|19=>163|20=>164|21=>167|22=>168|23=>169|24=>170|25=>171|26=>172|27=>173|28=>174|29=>175|36=>198|31=>194|32=>195|37=>199|38=>200|39=>201|41=>221|n=>n,fun|27=>23|29=>9|3=>3|32=>142|26=>23|0=>0|44=>169|46=>171|4=>4|36=>162|35=>161|41=>166|5=>5|9=>9|53=>187|57=>191|63=>209|64=>105|n=>n,fun|n=>n⟩
theorem Lay.srts:Go.Proofs.SlLaysM.n6 prog Lay.srts_ren:={
 mixed:=by kernel_rfl
 f6:=⟨f111.name,by decide,(fz_ func111)⟩
 f8:=(fz_ func135)
 f9:=⟨f137.name,by decide,(fz_ func137)⟩
 f19:=(fz_ func163)
 f20:=(fz_ func164)
 f21:=⟨f167.name,by decide,(fz_ func167)⟩
 f22:=⟨f168.name,by decide,(fz_ func168)⟩
 f23:=⟨f169.name,by decide,(fz_ func169)⟩
 f24:=⟨f170.name,by decide,(fz_ func170)⟩
 f25:=⟨f171.name,by decide,(fz_ func171)⟩
 f26:=⟨f172.name,by decide,(fz_ func172)⟩
 f27:=⟨f173.name,by decide,(fz_ func173)⟩
 f28:=⟨f174.name,by decide,(fz_ func174)⟩
 f29:=⟨f175.name,by decide,(fz_ func175)⟩
 f31:=(fz_ func194)
 f32:=(fz_ func195)
 f36:=⟨f198.name,by decide,(fz_ func198)⟩
 f37:=⟨f199.name,by decide,(fz_ func199)⟩
 f38:=⟨f200.name,by decide,(fz_ func200)⟩
 f39:=⟨f201.name,by decide,(fz_ func201)⟩
 f41:=⟨f221.name,by decide,(fz_ func221)⟩
 t0:=underlying0
 a0:=isAgg0
 z0:=sizeOf0
 v0:=zeroValue0
 t3:=underlying3
 a3:=isAgg3
 z3:=sizeOf3
 v3:=zeroValue3
 t4:=underlying4
 a4:=isAgg4
 z4:=sizeOf4
 v4:=zeroValue4
 t5:=underlying5
 a5:=isAgg5
 z5:=sizeOf5
 v5:=zeroValue5
 t9:=underlying9
 a9:=isAgg9
 z9:=sizeOf9
 v9:=zeroValue9
 t26:=underlying23
 a26:=isAgg23
 z26:=sizeOf23
 v26:=zeroValue23
 t27:=underlying23
 a27:=isAgg23
 z27:=sizeOf23
 v27:=zeroValue23
 t29:=underlying9
 a29:=isAgg9
 z29:=sizeOf9
 v29:=zeroValue9
 t32:=underlying142
 a32:=isAgg142
 z32:=sizeOf142
 v32:=zeroValue142
 t35:=underlying161
 a35:=isAgg161
 z35:=sizeOf161
 v35:=zeroValue161
 t36:=underlying162
 a36:=isAgg162
 z36:=sizeOf162
 v36:=zeroValue162
 t41:=underlying166
 a41:=isAgg166
 z41:=sizeOf166
 v41:=zeroValue166
 t44:=underlying169
 a44:=isAgg169
 z44:=sizeOf169
 v44:=zeroValue169
 t46:=underlying171
 a46:=isAgg171
 z46:=sizeOf171
 v46:=zeroValue171
 t53:=underlying187
 a53:=isAgg187
 z53:=sizeOf187
 v53:=zeroValue187
 t57:=underlying191
 a57:=isAgg191
 z57:=sizeOf191
 v57:=zeroValue191
 t63:=underlying209
 a63:=isAgg209
 z63:=sizeOf209
 v63:=zeroValue209
 t64:=underlying105
 a64:=isAgg105
 z64:=sizeOf105
 v64:=zeroValue105}
end Go.Proofs.YtmnnglbioibmfaaGreatDoor
