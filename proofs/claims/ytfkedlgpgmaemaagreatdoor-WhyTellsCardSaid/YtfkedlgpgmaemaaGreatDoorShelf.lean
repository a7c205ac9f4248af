/-
  The library's contracts at this program, by the kit's shelf. Written by the kit's tools.
-/
import Derived.Shelf.Small.Bits
import Derived.Shelf.Strconv.Itoa0
import Derived.Ground.SlgcProg
import Derived.Shelf.SlicesG.Cmp
import Derived.Shelf.SlSortCmp.WholeK
import Derived.Ground.SlsfProg
import Derived.Test.YtfkedlgpgmaemaaGreatDoorProg
set_option linter.unusedVariables false
set_option maxHeartbeats 16000000
namespace Go.Proofs
open Tryz
open Go.Shelf

open Go.Lib in

open Go.Lib in

def sortDists_ren:Go.Shelf.Ren:=⟨λ|6=>84|15=>143|14=>142|28=>188|29=>189|20=>180|21=>181|22=>182|23=>183|24=>184|25=>185|26=>186|27=>187|46=>212|47=>213|48=>214|49=>215|50=>216|57=>225|n=>n,λ|22=>88|24=>99|25=>171|3=>3|39=>241|0=>0|53=>280|55=>79|4=>4|46=>274|45=>273|50=>64|5=>5|9=>9|66=>305|70=>309|76=>315|77=>52|n=>n,λ|n=>n⟩

theorem sortDists:Go.Proofs.SlLaysF0.n6 prog sortDists_ren:={
 mixed:=by kernel_rfl
 f6:=⟨f84.name,by decide,func84.trans (congrArg some (by kernel_rfl))⟩
 f14:=⟨f142.name,by decide,func142.trans (congrArg some (by kernel_rfl))⟩
 f15:=func143.trans (congrArg some (by kernel_rfl))
 f20:=⟨f180.name,by decide,func180.trans (congrArg some (by kernel_rfl))⟩
 f21:=⟨f181.name,by decide,func181.trans (congrArg some (by kernel_rfl))⟩
 f22:=⟨f182.name,by decide,func182.trans (congrArg some (by kernel_rfl))⟩
 f23:=⟨f183.name,by decide,func183.trans (congrArg some (by kernel_rfl))⟩
 f24:=⟨f184.name,by decide,func184.trans (congrArg some (by kernel_rfl))⟩
 f25:=⟨f185.name,by decide,func185.trans (congrArg some (by kernel_rfl))⟩
 f26:=⟨f186.name,by decide,func186.trans (congrArg some (by kernel_rfl))⟩
 f27:=⟨f187.name,by decide,func187.trans (congrArg some (by kernel_rfl))⟩
 f28:=func188.trans (congrArg some (by kernel_rfl))
 f29:=func189.trans (congrArg some (by kernel_rfl))
 f46:=⟨f212.name,by decide,func212.trans (congrArg some (by kernel_rfl))⟩
 f47:=func213.trans (congrArg some (by kernel_rfl))
 f48:=func214.trans (congrArg some (by kernel_rfl))
 f49:=⟨f215.name,by decide,func215.trans (congrArg some (by kernel_rfl))⟩
 f50:=⟨f216.name,by decide,func216.trans (congrArg some (by kernel_rfl))⟩
 f57:=⟨f225.name,by decide,func225.trans (congrArg some (by kernel_rfl))⟩
 t0:=underlying0
 a0:=isAgg0
 z0:=sizeOf0
 v0:=zeroValue0
 t3:=underlying3
 a3:=isAgg3
 z3:=sizeOf3
 v3:=zeroValue3
 t4:=underlying4
 a4:=isAgg4
 z4:=sizeOf4
 v4:=zeroValue4
 t5:=underlying5
 a5:=isAgg5
 z5:=sizeOf5
 v5:=zeroValue5
 t9:=underlying9
 a9:=isAgg9
 z9:=sizeOf9
 v9:=zeroValue9
 t22:=underlying88
 a22:=isAgg88
 z22:=sizeOf88
 v22:=zeroValue88
 t25:=underlying171
 a25:=isAgg171
 z25:=sizeOf171
 v25:=zeroValue171
 t39:=underlying241
 a39:=isAgg241
 z39:=sizeOf241
 v39:=zeroValue241
 t45:=underlying273
 a45:=isAgg273
 z45:=sizeOf273
 v45:=zeroValue273
 t46:=underlying274
 a46:=isAgg274
 z46:=sizeOf274
 v46:=zeroValue274
 t50:=underlying64
 a50:=isAgg64
 z50:=sizeOf64
 v50:=zeroValue64
 t53:=underlying280
 a53:=isAgg280
 z53:=sizeOf280
 v53:=zeroValue280
 t55:=underlying79
 a55:=isAgg79
 z55:=sizeOf79
 v55:=zeroValue79
 t66:=underlying305
 a66:=isAgg305
 z66:=sizeOf305
 v66:=zeroValue305
 t70:=underlying309
 a70:=isAgg309
 z70:=sizeOf309
 v70:=zeroValue309
 t76:=underlying315
 a76:=isAgg315
 z76:=sizeOf315
 v76:=zeroValue315
 t77:=underlying52
 a77:=isAgg52
 z77:=sizeOf52
 v77:=zeroValue52}
end Go.Proofs
