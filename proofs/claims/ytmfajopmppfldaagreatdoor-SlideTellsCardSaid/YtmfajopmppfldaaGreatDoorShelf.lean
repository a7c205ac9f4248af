/-
  The library's contracts at this program, by the kit's shelf. Written by the kit's tools.
-/
import Derived.Shelf.Small.Bits
import Derived.Shelf.Strconv.Itoa0
import Derived.Shelf.Sort.Plain
import Derived.Ground.Names2Prog
import Derived.Shelf.Slices.CompactI
import Derived.Shelf.Slices.In.SortNone
import Derived.Ground.SlgcProg
import Derived.Shelf.SlicesG.Cmp
import Derived.Shelf.SlSortCmp.WholeK
import Derived.Ground.SlsfProg
import Derived.Test.YtmfajopmppfldaaGreatDoorProg
set_option linter.unusedVariables false
set_option maxHeartbeats 16000000
namespace Go.Proofs
open Tryz
open Go.Shelf

def lays189_ren:Go.Shelf.Ren:=⟨λ|189=>78|125=>121|257=>120|128=>161|129=>162|294=>152|295=>153|296=>154|297=>155|298=>156|299=>157|216=>158|300=>159|301=>160|328=>185|329=>186|330=>187|331=>188|332=>189|215=>190|343=>200|n=>n,λ|28=>82|3=>3|46=>211|0=>0|51=>248|53=>55|4=>4|183=>242|182=>241|131=>128|5=>5|9=>9|218=>262|222=>266|228=>273|229=>146|n=>n,λ|n=>n⟩

theorem lays189:Go.Proofs.Lays.n189 prog lays189_ren:={
 mixed:=by kernel_rfl
 f125:=func121.trans (congrArg some (by kernel_rfl))
 f128:=func161.trans (congrArg some (by kernel_rfl))
 f129:=func162.trans (congrArg some (by kernel_rfl))
 f189:=func78.trans (congrArg some (by kernel_rfl))
 f215:=func190.trans (congrArg some (by kernel_rfl))
 f216:=func158.trans (congrArg some (by kernel_rfl))
 f257:=func120.trans (congrArg some (by kernel_rfl))
 f294:=func152.trans (congrArg some (by kernel_rfl))
 f295:=func153.trans (congrArg some (by kernel_rfl))
 f296:=func154.trans (congrArg some (by kernel_rfl))
 f297:=func155.trans (congrArg some (by kernel_rfl))
 f298:=func156.trans (congrArg some (by kernel_rfl))
 f299:=func157.trans (congrArg some (by kernel_rfl))
 f300:=func159.trans (congrArg some (by kernel_rfl))
 f301:=func160.trans (congrArg some (by kernel_rfl))
 f328:=func185.trans (congrArg some (by kernel_rfl))
 f329:=func186.trans (congrArg some (by kernel_rfl))
 f330:=func187.trans (congrArg some (by kernel_rfl))
 f331:=func188.trans (congrArg some (by kernel_rfl))
 f332:=func189.trans (congrArg some (by kernel_rfl))
 f343:=func200.trans (congrArg some (by kernel_rfl))
 t0:=underlying0
 a0:=isAgg0
 z0:=sizeOf0
 v0:=zeroValue0
 t3:=underlying3
 a3:=isAgg3
 z3:=sizeOf3
 v3:=zeroValue3
 t4:=underlying4
 a4:=isAgg4
 z4:=sizeOf4
 v4:=zeroValue4
 t5:=underlying5
 a5:=isAgg5
 z5:=sizeOf5
 v5:=zeroValue5
 t9:=underlying9
 a9:=isAgg9
 z9:=sizeOf9
 v9:=zeroValue9
 t28:=underlying82
 a28:=isAgg82
 z28:=sizeOf82
 v28:=zeroValue82
 t46:=underlying211
 a46:=isAgg211
 z46:=sizeOf211
 v46:=zeroValue211
 t51:=underlying248
 a51:=isAgg248
 z51:=sizeOf248
 v51:=zeroValue248
 t53:=underlying55
 a53:=isAgg55
 z53:=sizeOf55
 v53:=zeroValue55
 t131:=underlying128
 a131:=isAgg128
 z131:=sizeOf128
 v131:=zeroValue128
 t182:=underlying241
 a182:=isAgg241
 z182:=sizeOf241
 v182:=zeroValue241
 t183:=underlying242
 a183:=isAgg242
 z183:=sizeOf242
 v183:=zeroValue242
 t218:=underlying262
 a218:=isAgg262
 z218:=sizeOf262
 v218:=zeroValue262
 t222:=underlying266
 a222:=isAgg266
 z222:=sizeOf266
 v222:=zeroValue266
 t228:=underlying273
 a228:=isAgg273
 z228:=sizeOf273
 v228:=zeroValue273
 t229:=underlying146
 a229:=isAgg146
 z229:=sizeOf146
 v229:=zeroValue146}

open Go.Sort Go.RowKit in
theorem slices_Sort_int(blk off cap:Nat)(zs:List Int)(w:World)(hH:Holds (Value.int .i64) w blk off zs.toArray)(hblk:blk<w.heap.size)(hsz:zs.length<4611686018427387904):
  Calls prog 78 #[.slice (some ⟨blk,off,none⟩) zs.length cap] w λ e w'=>
   e=.returned (.tuple #[])/\∃ n os,w'=grow (putRow (Value.int .i64) (Sort.ahead w n) blk off (zs.mergeSort λ x y=>decide (x<=y)).toArray) os:=Any.slices_Sort_int lays189 blk off cap zs w hH hblk hsz

def laysNm220_ren:Go.Shelf.Ren:=⟨λ|20=>139|n=>n,λ|22=>82|3=>3|4=>4|0=>0|n=>n,λ|n=>n⟩

theorem laysNm220:Go.Proofs.Lays2.n20 prog laysNm220_ren:={
 mixed:=by kernel_rfl
 f20:=func139.trans (congrArg some (by kernel_rfl))
 t0:=underlying0
 a0:=isAgg0
 z0:=sizeOf0
 v0:=zeroValue0
 t3:=underlying3
 a3:=isAgg3
 z3:=sizeOf3
 v3:=zeroValue3
 t4:=underlying4
 a4:=isAgg4
 z4:=sizeOf4
 v4:=zeroValue4
 t22:=underlying82
 a22:=isAgg82
 z22:=sizeOf82
 v22:=zeroValue82
 i3:=by kernel_rfl}

open Go.RowKit Go.Lib Go.Sort in

open Go.RowKit Go.Lib Go.Sort in

theorem slices_Compact_int(blk off cap:Nat)(zs:List Int)(w:World)(hH:Holds (Value.int .i64) w blk off zs.toArray)(hsz:zs.length<=9223372036854775807)(hcap:zs.length<=cap):
  Calls prog 139 #[.slice (some ⟨blk,off,none⟩) zs.length cap] w λ e w'=>e=.returned (.slice (some ⟨blk,off,none⟩) (Lib.compact zs).length cap)/\∃ q,w'=putRow (Value.int .i64) (Sort.ahead w q) blk off (Lib.compact zs++List.replicate (zs.length-(Lib.compact zs).length) 0).toArray:=Any.slices_Compact_int laysNm220 blk off cap zs w hH hsz hcap

open Go.RowKit Go.Lib Go.Sort in

theorem slices_Compact_int_empty(a:Option Addr)(cap:Nat)(w:World):
  Calls prog 139 #[.slice a 0 cap] w λ e w'=>e=.returned (.slice a 0 cap)/\w'=w:=Any.slices_Compact_int_empty laysNm220 a cap w

open Go.RowKit Go.Sort in

theorem slices_Sort_int_none(p:Option Addr)(cap:Nat)(w:World):
  Calls prog 78 #[.slice p 0 cap] w λ e w'=>e=.returned (.tuple #[])/\w'=w:=Any.slices_Sort_int_none lays189 p cap w

open Go.Lib in

open Go.Lib in

def sortRuns_ren:Go.Shelf.Ren:=⟨λ|6=>196|15=>121|14=>201|28=>161|29=>162|20=>202|21=>203|22=>204|23=>205|24=>206|25=>207|26=>208|27=>209|46=>210|47=>186|48=>187|49=>211|50=>212|57=>213|n=>n,λ|22=>163|24=>225|25=>269|3=>3|39=>211|0=>0|53=>248|55=>55|4=>4|46=>242|45=>241|50=>128|5=>5|9=>9|66=>262|70=>266|76=>273|77=>146|n=>n,λ|n=>n⟩

theorem sortRuns:Go.Proofs.SlLaysF0.n6 prog sortRuns_ren:={
 mixed:=by kernel_rfl
 f6:=⟨f196.name,by decide,func196.trans (congrArg some (by kernel_rfl))⟩
 f14:=⟨f201.name,by decide,func201.trans (congrArg some (by kernel_rfl))⟩
 f15:=func121.trans (congrArg some (by kernel_rfl))
 f20:=⟨f202.name,by decide,func202.trans (congrArg some (by kernel_rfl))⟩
 f21:=⟨f203.name,by decide,func203.trans (congrArg some (by kernel_rfl))⟩
 f22:=⟨f204.name,by decide,func204.trans (congrArg some (by kernel_rfl))⟩
 f23:=⟨f205.name,by decide,func205.trans (congrArg some (by kernel_rfl))⟩
 f24:=⟨f206.name,by decide,func206.trans (congrArg some (by kernel_rfl))⟩
 f25:=⟨f207.name,by decide,func207.trans (congrArg some (by kernel_rfl))⟩
 f26:=⟨f208.name,by decide,func208.trans (congrArg some (by kernel_rfl))⟩
 f27:=⟨f209.name,by decide,func209.trans (congrArg some (by kernel_rfl))⟩
 f28:=func161.trans (congrArg some (by kernel_rfl))
 f29:=func162.trans (congrArg some (by kernel_rfl))
 f46:=⟨f210.name,by decide,func210.trans (congrArg some (by kernel_rfl))⟩
 f47:=func186.trans (congrArg some (by kernel_rfl))
 f48:=func187.trans (congrArg some (by kernel_rfl))
 f49:=⟨f211.name,by decide,func211.trans (congrArg some (by kernel_rfl))⟩
 f50:=⟨f212.name,by decide,func212.trans (congrArg some (by kernel_rfl))⟩
 f57:=⟨f213.name,by decide,func213.trans (congrArg some (by kernel_rfl))⟩
 t0:=underlying0
 a0:=isAgg0
 z0:=sizeOf0
 v0:=zeroValue0
 t3:=underlying3
 a3:=isAgg3
 z3:=sizeOf3
 v3:=zeroValue3
 t4:=underlying4
 a4:=isAgg4
 z4:=sizeOf4
 v4:=zeroValue4
 t5:=underlying5
 a5:=isAgg5
 z5:=sizeOf5
 v5:=zeroValue5
 t9:=underlying9
 a9:=isAgg9
 z9:=sizeOf9
 v9:=zeroValue9
 t22:=underlying163
 a22:=isAgg163
 z22:=sizeOf163
 v22:=zeroValue163
 t25:=underlying269
 a25:=isAgg269
 z25:=sizeOf269
 v25:=zeroValue269
 t39:=underlying211
 a39:=isAgg211
 z39:=sizeOf211
 v39:=zeroValue211
 t45:=underlying241
 a45:=isAgg241
 z45:=sizeOf241
 v45:=zeroValue241
 t46:=underlying242
 a46:=isAgg242
 z46:=sizeOf242
 v46:=zeroValue242
 t50:=underlying128
 a50:=isAgg128
 z50:=sizeOf128
 v50:=zeroValue128
 t53:=underlying248
 a53:=isAgg248
 z53:=sizeOf248
 v53:=zeroValue248
 t55:=underlying55
 a55:=isAgg55
 z55:=sizeOf55
 v55:=zeroValue55
 t66:=underlying262
 a66:=isAgg262
 z66:=sizeOf262
 v66:=zeroValue262
 t70:=underlying266
 a70:=isAgg266
 z70:=sizeOf266
 v70:=zeroValue266
 t76:=underlying273
 a76:=isAgg273
 z76:=sizeOf273
 v76:=zeroValue273
 t77:=underlying146
 a77:=isAgg146
 z77:=sizeOf146
 v77:=zeroValue146}
end Go.Proofs
