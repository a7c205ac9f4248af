/-
  The library's contracts at this program, by the kit's shelf. Written by the kit's tools.
-/
import Derived.Shelf.Small.Bits
import Derived.Shelf.Strconv.Itoa0
import Derived.Shelf.SlSortCmp.WholeK
import Derived.Ground.SlsfProg
import Derived.Test.YtpeipocojmjbfaaGreatDoorProg
set_option linter.unusedVariables false
set_option maxHeartbeats 16000000
namespace Go.Proofs
open Tryz
open Go.Shelf

def sortDists_ren:Go.Shelf.Ren:=⟨λ|6=>93|15=>151|14=>150|28=>192|29=>193|20=>184|21=>185|22=>186|23=>187|24=>188|25=>189|26=>190|27=>191|46=>215|47=>216|48=>217|49=>218|50=>219|57=>228|n=>n,λ|22=>93|24=>97|25=>185|3=>3|39=>246|0=>0|53=>286|55=>79|4=>4|46=>280|45=>279|50=>64|5=>5|9=>9|66=>308|70=>312|76=>318|77=>52|n=>n,λ|n=>n⟩

theorem sortDists:Go.Proofs.SlLaysF0.n6 prog sortDists_ren:={
 mixed:=by kernel_rfl
 f6:=⟨f93.name,by decide,func93.trans (congrArg some (by kernel_rfl))⟩
 f14:=⟨f150.name,by decide,func150.trans (congrArg some (by kernel_rfl))⟩
 f15:=func151.trans (congrArg some (by kernel_rfl))
 f20:=⟨f184.name,by decide,func184.trans (congrArg some (by kernel_rfl))⟩
 f21:=⟨f185.name,by decide,func185.trans (congrArg some (by kernel_rfl))⟩
 f22:=⟨f186.name,by decide,func186.trans (congrArg some (by kernel_rfl))⟩
 f23:=⟨f187.name,by decide,func187.trans (congrArg some (by kernel_rfl))⟩
 f24:=⟨f188.name,by decide,func188.trans (congrArg some (by kernel_rfl))⟩
 f25:=⟨f189.name,by decide,func189.trans (congrArg some (by kernel_rfl))⟩
 f26:=⟨f190.name,by decide,func190.trans (congrArg some (by kernel_rfl))⟩
 f27:=⟨f191.name,by decide,func191.trans (congrArg some (by kernel_rfl))⟩
 f28:=func192.trans (congrArg some (by kernel_rfl))
 f29:=func193.trans (congrArg some (by kernel_rfl))
 f46:=⟨f215.name,by decide,func215.trans (congrArg some (by kernel_rfl))⟩
 f47:=func216.trans (congrArg some (by kernel_rfl))
 f48:=func217.trans (congrArg some (by kernel_rfl))
 f49:=⟨f218.name,by decide,func218.trans (congrArg some (by kernel_rfl))⟩
 f50:=⟨f219.name,by decide,func219.trans (congrArg some (by kernel_rfl))⟩
 f57:=⟨f228.name,by decide,func228.trans (congrArg some (by kernel_rfl))⟩
 t0:=underlying0
 a0:=isAgg0
 z0:=sizeOf0
 v0:=zeroValue0
 t3:=underlying3
 a3:=isAgg3
 z3:=sizeOf3
 v3:=zeroValue3
 t4:=underlying4
 a4:=isAgg4
 z4:=sizeOf4
 v4:=zeroValue4
 t5:=underlying5
 a5:=isAgg5
 z5:=sizeOf5
 v5:=zeroValue5
 t9:=underlying9
 a9:=isAgg9
 z9:=sizeOf9
 v9:=zeroValue9
 t22:=underlying93
 a22:=isAgg93
 z22:=sizeOf93
 v22:=zeroValue93
 t25:=underlying185
 a25:=isAgg185
 z25:=sizeOf185
 v25:=zeroValue185
 t39:=underlying246
 a39:=isAgg246
 z39:=sizeOf246
 v39:=zeroValue246
 t45:=underlying279
 a45:=isAgg279
 z45:=sizeOf279
 v45:=zeroValue279
 t46:=underlying280
 a46:=isAgg280
 z46:=sizeOf280
 v46:=zeroValue280
 t50:=underlying64
 a50:=isAgg64
 z50:=sizeOf64
 v50:=zeroValue64
 t53:=underlying286
 a53:=isAgg286
 z53:=sizeOf286
 v53:=zeroValue286
 t55:=underlying79
 a55:=isAgg79
 z55:=sizeOf79
 v55:=zeroValue79
 t66:=underlying308
 a66:=isAgg308
 z66:=sizeOf308
 v66:=zeroValue308
 t70:=underlying312
 a70:=isAgg312
 z70:=sizeOf312
 v70:=zeroValue312
 t76:=underlying318
 a76:=isAgg318
 z76:=sizeOf318
 v76:=zeroValue318
 t77:=underlying52
 a77:=isAgg52
 z77:=sizeOf52
 v77:=zeroValue52}
end Go.Proofs
