/-
 The library's contracts at this program, by the kit's shelf. Written by the kit's tools.
-/
import Derived.Shelf.Small.Bits
import Derived.Shelf.Small.Wraps
import Derived.Shelf.Strconv.Itoa0
import Derived.Ground.Names2Prog
import Derived.Shelf.Slices.SearchI
import Derived.Ground.SlgnProg
import Derived.Shelf.SlicesE.Clone
import Derived.Shelf.SlSortCmp.WholeK
import Derived.Ground.SlsfProg
import Derived.Test.YtgccjhnafhlndaaGreatDoorProg
namespace Go.Proofs
open Go.Shelf

open Go.RowKit in

open Go.RowKit in

open Go.RowKit Go.Lib in

open Go.RowKit Go.Lib in

open Go.RowKit Go.Lib in

def Tryz.sortRuns_ren : Go.Shelf.Ren := ⟨λ | 6 => 54 | 15 => 89 | 14 => 88 | 28 => 118 | 29 => 119 | 20 => 110 | 21 => 111 | 22 => 112 | 23 => 113 | 24 => 114 | 25 => 115 | 26 => 116 | 27 => 117 | 46 => 126 | 47 => 127 | 48 => 128 | 49 => 129 | 50 => 130 | 57 => 133 | n => n, λ | 22 => 33 | 24 => 39 | 25 => 108 | 3 => 3 | 39 => 155 | 0 => 0 | 53 => 183 | 55 => 51 | 4 => 4 | 46 => 177 | 45 => 176 | 50 => 47 | 5 => 5 | 9 => 9 | 66 => 187 | 70 => 191 | 76 => 197 | 77 => 198 | n => n, λ | n => n⟩

theorem Tryz.sortRuns : Go.Proofs.SlLaysF0.n6 Tryz.prog Tryz.sortRuns_ren := {
 mixed := by kernel_rfl
 f6 := ⟨Tryz.f54.name, by decide, Tryz.func54.trans (congrArg some (by kernel_rfl))⟩
 f14 := ⟨Tryz.f88.name, by decide, Tryz.func88.trans (congrArg some (by kernel_rfl))⟩
 f15 := Tryz.func89.trans (congrArg some (by kernel_rfl))
 f20 := ⟨Tryz.f110.name, by decide, Tryz.func110.trans (congrArg some (by kernel_rfl))⟩
 f21 := ⟨Tryz.f111.name, by decide, Tryz.func111.trans (congrArg some (by kernel_rfl))⟩
 f22 := ⟨Tryz.f112.name, by decide, Tryz.func112.trans (congrArg some (by kernel_rfl))⟩
 f23 := ⟨Tryz.f113.name, by decide, Tryz.func113.trans (congrArg some (by kernel_rfl))⟩
 f24 := ⟨Tryz.f114.name, by decide, Tryz.func114.trans (congrArg some (by kernel_rfl))⟩
 f25 := ⟨Tryz.f115.name, by decide, Tryz.func115.trans (congrArg some (by kernel_rfl))⟩
 f26 := ⟨Tryz.f116.name, by decide, Tryz.func116.trans (congrArg some (by kernel_rfl))⟩
 f27 := ⟨Tryz.f117.name, by decide, Tryz.func117.trans (congrArg some (by kernel_rfl))⟩
 f28 := Tryz.func118.trans (congrArg some (by kernel_rfl))
 f29 := Tryz.func119.trans (congrArg some (by kernel_rfl))
 f46 := ⟨Tryz.f126.name, by decide, Tryz.func126.trans (congrArg some (by kernel_rfl))⟩
 f47 := Tryz.func127.trans (congrArg some (by kernel_rfl))
 f48 := Tryz.func128.trans (congrArg some (by kernel_rfl))
 f49 := ⟨Tryz.f129.name, by decide, Tryz.func129.trans (congrArg some (by kernel_rfl))⟩
 f50 := ⟨Tryz.f130.name, by decide, Tryz.func130.trans (congrArg some (by kernel_rfl))⟩
 f57 := ⟨Tryz.f133.name, by decide, Tryz.func133.trans (congrArg some (by kernel_rfl))⟩
 t0 := Tryz.underlying0
 a0 := Tryz.isAgg0
 z0 := Tryz.sizeOf0
 v0 := Tryz.zeroValue0
 t3 := Tryz.underlying3
 a3 := Tryz.isAgg3
 z3 := Tryz.sizeOf3
 v3 := Tryz.zeroValue3
 t4 := Tryz.underlying4
 a4 := Tryz.isAgg4
 z4 := Tryz.sizeOf4
 v4 := Tryz.zeroValue4
 t5 := Tryz.underlying5
 a5 := Tryz.isAgg5
 z5 := Tryz.sizeOf5
 v5 := Tryz.zeroValue5
 t9 := Tryz.underlying9
 a9 := Tryz.isAgg9
 z9 := Tryz.sizeOf9
 v9 := Tryz.zeroValue9
 t22 := Tryz.underlying33
 a22 := Tryz.isAgg33
 z22 := Tryz.sizeOf33
 v22 := Tryz.zeroValue33
 t25 := Tryz.underlying108
 a25 := Tryz.isAgg108
 z25 := Tryz.sizeOf108
 v25 := Tryz.zeroValue108
 t39 := Tryz.underlying155
 a39 := Tryz.isAgg155
 z39 := Tryz.sizeOf155
 v39 := Tryz.zeroValue155
 t45 := Tryz.underlying176
 a45 := Tryz.isAgg176
 z45 := Tryz.sizeOf176
 v45 := Tryz.zeroValue176
 t46 := Tryz.underlying177
 a46 := Tryz.isAgg177
 z46 := Tryz.sizeOf177
 v46 := Tryz.zeroValue177
 t50 := Tryz.underlying47
 a50 := Tryz.isAgg47
 z50 := Tryz.sizeOf47
 v50 := Tryz.zeroValue47
 t53 := Tryz.underlying183
 a53 := Tryz.isAgg183
 z53 := Tryz.sizeOf183
 v53 := Tryz.zeroValue183
 t55 := Tryz.underlying51
 a55 := Tryz.isAgg51
 z55 := Tryz.sizeOf51
 v55 := Tryz.zeroValue51
 t66 := Tryz.underlying187
 a66 := Tryz.isAgg187
 z66 := Tryz.sizeOf187
 v66 := Tryz.zeroValue187
 t70 := Tryz.underlying191
 a70 := Tryz.isAgg191
 z70 := Tryz.sizeOf191
 v70 := Tryz.zeroValue191
 t76 := Tryz.underlying197
 a76 := Tryz.isAgg197
 z76 := Tryz.sizeOf197
 v76 := Tryz.zeroValue197
 t77 := Tryz.underlying198
 a77 := Tryz.isAgg198
 z77 := Tryz.sizeOf198
 v77 := Tryz.zeroValue198 }
end Go.Proofs
