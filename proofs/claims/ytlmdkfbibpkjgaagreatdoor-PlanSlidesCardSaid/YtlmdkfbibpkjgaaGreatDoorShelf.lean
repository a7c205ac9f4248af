/-
 The library's contracts at this program, by the kit's shelf. Written by the kit's tools.
-/
import Derived.Shelf.Small.Bits
import Derived.Shelf.Small.Wraps
import Derived.Shelf.Strconv.Itoa0
import Derived.Shelf.Sort.Plain
import Derived.Ground.Names2Prog
import Derived.Shelf.Slices.CompactI
import Derived.Shelf.Slices.SearchI
import Derived.Shelf.Slices.Cells
import Derived.Shelf.Slices.In.SortNone
import Derived.Ground.SlgnProg
import Derived.Shelf.SlicesE.Clone
import Derived.Shelf.SlSortCmp.WholeK
import Derived.Ground.SlsfProg
import Derived.Test.YtlmdkfbibpkjgaaGreatDoorProg
namespace Go.Proofs
open Go.Shelf

open Go.RowKit in

open Go.RowKit in

def Tryz.lays189_ren : Go.Shelf.Ren := ⟨λ | 189 => 67 | 125 => 103 | 257 => 102 | 128 => 138 | 129 => 139 | 294 => 129 | 295 => 130 | 296 => 131 | 297 => 132 | 298 => 133 | 299 => 134 | 216 => 135 | 300 => 136 | 301 => 137 | 328 => 149 | 329 => 150 | 330 => 151 | 331 => 152 | 332 => 153 | 215 => 147 | 343 => 164 | n => n, λ | 28 => 43 | 3 => 3 | 46 => 175 | 0 => 0 | 51 => 208 | 53 => 56 | 4 => 4 | 183 => 202 | 182 => 201 | 131 => 28 | 5 => 5 | 9 => 9 | 218 => 212 | 222 => 216 | 228 => 227 | 229 => 228 | n => n, λ | n => n⟩

theorem Tryz.lays189 : Go.Proofs.Lays.n189 Tryz.prog Tryz.lays189_ren := {
 mixed := by kernel_rfl
 f125 := Tryz.func103.trans (congrArg some (by kernel_rfl))
 f128 := Tryz.func138.trans (congrArg some (by kernel_rfl))
 f129 := Tryz.func139.trans (congrArg some (by kernel_rfl))
 f189 := Tryz.func67.trans (congrArg some (by kernel_rfl))
 f215 := Tryz.func147.trans (congrArg some (by kernel_rfl))
 f216 := Tryz.func135.trans (congrArg some (by kernel_rfl))
 f257 := Tryz.func102.trans (congrArg some (by kernel_rfl))
 f294 := Tryz.func129.trans (congrArg some (by kernel_rfl))
 f295 := Tryz.func130.trans (congrArg some (by kernel_rfl))
 f296 := Tryz.func131.trans (congrArg some (by kernel_rfl))
 f297 := Tryz.func132.trans (congrArg some (by kernel_rfl))
 f298 := Tryz.func133.trans (congrArg some (by kernel_rfl))
 f299 := Tryz.func134.trans (congrArg some (by kernel_rfl))
 f300 := Tryz.func136.trans (congrArg some (by kernel_rfl))
 f301 := Tryz.func137.trans (congrArg some (by kernel_rfl))
 f328 := Tryz.func149.trans (congrArg some (by kernel_rfl))
 f329 := Tryz.func150.trans (congrArg some (by kernel_rfl))
 f330 := Tryz.func151.trans (congrArg some (by kernel_rfl))
 f331 := Tryz.func152.trans (congrArg some (by kernel_rfl))
 f332 := Tryz.func153.trans (congrArg some (by kernel_rfl))
 f343 := Tryz.func164.trans (congrArg some (by kernel_rfl))
 t0 := Tryz.underlying0
 a0 := Tryz.isAgg0
 z0 := Tryz.sizeOf0
 v0 := Tryz.zeroValue0
 t3 := Tryz.underlying3
 a3 := Tryz.isAgg3
 z3 := Tryz.sizeOf3
 v3 := Tryz.zeroValue3
 t4 := Tryz.underlying4
 a4 := Tryz.isAgg4
 z4 := Tryz.sizeOf4
 v4 := Tryz.zeroValue4
 t5 := Tryz.underlying5
 a5 := Tryz.isAgg5
 z5 := Tryz.sizeOf5
 v5 := Tryz.zeroValue5
 t9 := Tryz.underlying9
 a9 := Tryz.isAgg9
 z9 := Tryz.sizeOf9
 v9 := Tryz.zeroValue9
 t28 := Tryz.underlying43
 a28 := Tryz.isAgg43
 z28 := Tryz.sizeOf43
 v28 := Tryz.zeroValue43
 t46 := Tryz.underlying175
 a46 := Tryz.isAgg175
 z46 := Tryz.sizeOf175
 v46 := Tryz.zeroValue175
 t51 := Tryz.underlying208
 a51 := Tryz.isAgg208
 z51 := Tryz.sizeOf208
 v51 := Tryz.zeroValue208
 t53 := Tryz.underlying56
 a53 := Tryz.isAgg56
 z53 := Tryz.sizeOf56
 v53 := Tryz.zeroValue56
 t131 := Tryz.underlying28
 a131 := Tryz.isAgg28
 z131 := Tryz.sizeOf28
 v131 := Tryz.zeroValue28
 t182 := Tryz.underlying201
 a182 := Tryz.isAgg201
 z182 := Tryz.sizeOf201
 v182 := Tryz.zeroValue201
 t183 := Tryz.underlying202
 a183 := Tryz.isAgg202
 z183 := Tryz.sizeOf202
 v183 := Tryz.zeroValue202
 t218 := Tryz.underlying212
 a218 := Tryz.isAgg212
 z218 := Tryz.sizeOf212
 v218 := Tryz.zeroValue212
 t222 := Tryz.underlying216
 a222 := Tryz.isAgg216
 z222 := Tryz.sizeOf216
 v222 := Tryz.zeroValue216
 t228 := Tryz.underlying227
 a228 := Tryz.isAgg227
 z228 := Tryz.sizeOf227
 v228 := Tryz.zeroValue227
 t229 := Tryz.underlying228
 a229 := Tryz.isAgg228
 z229 := Tryz.sizeOf228
 v229 := Tryz.zeroValue228 }

open Go.Sort Go.RowKit in
theorem Tryz.slices_Sort_int (blk off cap : Nat) (zs : List Int) (w : World) (hH : Holds (Value.int .i64) w blk off zs.toArray) (hblk : blk < w.heap.size) (hsz : zs.length < 4611686018427387904) :
  Calls Tryz.prog 67 #[.slice (some ⟨blk, off, none⟩) zs.length cap] w λ e w' =>
   e = .returned (.tuple #[]) /\ ∃ n os, w' = grow (putRow (Value.int .i64) (Sort.ahead w n) blk off (zs.mergeSort λ x y => decide (x <= y)).toArray) os := Any.slices_Sort_int Tryz.lays189 blk off cap zs w hH hblk hsz

def Tryz.laysNm220_ren : Go.Shelf.Ren := ⟨λ | 20 => 68 | n => n, λ | 22 => 43 | 3 => 3 | 4 => 4 | 0 => 0 | n => n, λ | n => n⟩

theorem Tryz.laysNm220 : Go.Proofs.Lays2.n20 Tryz.prog Tryz.laysNm220_ren := {
 mixed := by kernel_rfl
 f20 := Tryz.func68.trans (congrArg some (by kernel_rfl))
 t0 := Tryz.underlying0
 a0 := Tryz.isAgg0
 z0 := Tryz.sizeOf0
 v0 := Tryz.zeroValue0
 t3 := Tryz.underlying3
 a3 := Tryz.isAgg3
 z3 := Tryz.sizeOf3
 v3 := Tryz.zeroValue3
 t4 := Tryz.underlying4
 a4 := Tryz.isAgg4
 z4 := Tryz.sizeOf4
 v4 := Tryz.zeroValue4
 t22 := Tryz.underlying43
 a22 := Tryz.isAgg43
 z22 := Tryz.sizeOf43
 v22 := Tryz.zeroValue43
 i3 := by kernel_rfl }

open Go.RowKit Go.Lib Go.Sort in

open Go.RowKit Go.Lib Go.Sort in

theorem Tryz.slices_Compact_int (blk off cap : Nat) (zs : List Int) (w : World) (hH : Holds (Value.int .i64) w blk off zs.toArray) (hsz : zs.length <= 9223372036854775807) (hcap : zs.length <= cap) :
  Calls Tryz.prog 68 #[.slice (some ⟨blk, off, none⟩) zs.length cap] w λ e w' => e = .returned (.slice (some ⟨blk, off, none⟩) (Lib.compact zs).length cap) /\ ∃ q, w' = putRow (Value.int .i64) (Sort.ahead w q) blk off (Lib.compact zs ++ List.replicate (zs.length - (Lib.compact zs).length) 0).toArray := Any.slices_Compact_int Tryz.laysNm220 blk off cap zs w hH hsz hcap

open Go.RowKit Go.Lib Go.Sort in

theorem Tryz.slices_Compact_int_empty (a : Option Addr) (cap : Nat) (w : World) :
  Calls Tryz.prog 68 #[.slice a 0 cap] w λ e w' => e = .returned (.slice a 0 cap) /\ w' = w := Any.slices_Compact_int_empty Tryz.laysNm220 a cap w

open Go.RowKit Go.Lib in

open Go.RowKit Go.Lib in

open Go.RowKit Go.Lib Go.Sort in

open Go.RowKit Go.Sort in

theorem Tryz.slices_Sort_int_none (p : Option Addr) (cap : Nat) (w : World) :
  Calls Tryz.prog 67 #[.slice p 0 cap] w λ e w' => e = .returned (.tuple #[]) /\ w' = w := Any.slices_Sort_int_none Tryz.lays189 p cap w

open Go.RowKit Go.Lib in

open Go.RowKit Go.Lib in

def Tryz.sortRuns_ren : Go.Shelf.Ren := ⟨λ | 6 => 126 | 15 => 103 | 14 => 148 | 28 => 138 | 29 => 139 | 20 => 156 | 21 => 157 | 22 => 158 | 23 => 159 | 24 => 160 | 25 => 161 | 26 => 162 | 27 => 163 | 46 => 166 | 47 => 150 | 48 => 151 | 49 => 167 | 50 => 168 | 57 => 172 | n => n, λ | 22 => 32 | 24 => 68 | 25 => 196 | 3 => 3 | 39 => 175 | 0 => 0 | 53 => 208 | 55 => 56 | 4 => 4 | 46 => 202 | 45 => 201 | 50 => 28 | 5 => 5 | 9 => 9 | 66 => 212 | 70 => 216 | 76 => 227 | 77 => 228 | n => n, λ | n => n⟩

theorem Tryz.sortRuns : Go.Proofs.SlLaysF0.n6 Tryz.prog Tryz.sortRuns_ren := {
 mixed := by kernel_rfl
 f6 := ⟨Tryz.f126.name, by decide, Tryz.func126.trans (congrArg some (by kernel_rfl))⟩
 f14 := ⟨Tryz.f148.name, by decide, Tryz.func148.trans (congrArg some (by kernel_rfl))⟩
 f15 := Tryz.func103.trans (congrArg some (by kernel_rfl))
 f20 := ⟨Tryz.f156.name, by decide, Tryz.func156.trans (congrArg some (by kernel_rfl))⟩
 f21 := ⟨Tryz.f157.name, by decide, Tryz.func157.trans (congrArg some (by kernel_rfl))⟩
 f22 := ⟨Tryz.f158.name, by decide, Tryz.func158.trans (congrArg some (by kernel_rfl))⟩
 f23 := ⟨Tryz.f159.name, by decide, Tryz.func159.trans (congrArg some (by kernel_rfl))⟩
 f24 := ⟨Tryz.f160.name, by decide, Tryz.func160.trans (congrArg some (by kernel_rfl))⟩
 f25 := ⟨Tryz.f161.name, by decide, Tryz.func161.trans (congrArg some (by kernel_rfl))⟩
 f26 := ⟨Tryz.f162.name, by decide, Tryz.func162.trans (congrArg some (by kernel_rfl))⟩
 f27 := ⟨Tryz.f163.name, by decide, Tryz.func163.trans (congrArg some (by kernel_rfl))⟩
 f28 := Tryz.func138.trans (congrArg some (by kernel_rfl))
 f29 := Tryz.func139.trans (congrArg some (by kernel_rfl))
 f46 := ⟨Tryz.f166.name, by decide, Tryz.func166.trans (congrArg some (by kernel_rfl))⟩
 f47 := Tryz.func150.trans (congrArg some (by kernel_rfl))
 f48 := Tryz.func151.trans (congrArg some (by kernel_rfl))
 f49 := ⟨Tryz.f167.name, by decide, Tryz.func167.trans (congrArg some (by kernel_rfl))⟩
 f50 := ⟨Tryz.f168.name, by decide, Tryz.func168.trans (congrArg some (by kernel_rfl))⟩
 f57 := ⟨Tryz.f172.name, by decide, Tryz.func172.trans (congrArg some (by kernel_rfl))⟩
 t0 := Tryz.underlying0
 a0 := Tryz.isAgg0
 z0 := Tryz.sizeOf0
 v0 := Tryz.zeroValue0
 t3 := Tryz.underlying3
 a3 := Tryz.isAgg3
 z3 := Tryz.sizeOf3
 v3 := Tryz.zeroValue3
 t4 := Tryz.underlying4
 a4 := Tryz.isAgg4
 z4 := Tryz.sizeOf4
 v4 := Tryz.zeroValue4
 t5 := Tryz.underlying5
 a5 := Tryz.isAgg5
 z5 := Tryz.sizeOf5
 v5 := Tryz.zeroValue5
 t9 := Tryz.underlying9
 a9 := Tryz.isAgg9
 z9 := Tryz.sizeOf9
 v9 := Tryz.zeroValue9
 t22 := Tryz.underlying32
 a22 := Tryz.isAgg32
 z22 := Tryz.sizeOf32
 v22 := Tryz.zeroValue32
 t25 := Tryz.underlying196
 a25 := Tryz.isAgg196
 z25 := Tryz.sizeOf196
 v25 := Tryz.zeroValue196
 t39 := Tryz.underlying175
 a39 := Tryz.isAgg175
 z39 := Tryz.sizeOf175
 v39 := Tryz.zeroValue175
 t45 := Tryz.underlying201
 a45 := Tryz.isAgg201
 z45 := Tryz.sizeOf201
 v45 := Tryz.zeroValue201
 t46 := Tryz.underlying202
 a46 := Tryz.isAgg202
 z46 := Tryz.sizeOf202
 v46 := Tryz.zeroValue202
 t50 := Tryz.underlying28
 a50 := Tryz.isAgg28
 z50 := Tryz.sizeOf28
 v50 := Tryz.zeroValue28
 t53 := Tryz.underlying208
 a53 := Tryz.isAgg208
 z53 := Tryz.sizeOf208
 v53 := Tryz.zeroValue208
 t55 := Tryz.underlying56
 a55 := Tryz.isAgg56
 z55 := Tryz.sizeOf56
 v55 := Tryz.zeroValue56
 t66 := Tryz.underlying212
 a66 := Tryz.isAgg212
 z66 := Tryz.sizeOf212
 v66 := Tryz.zeroValue212
 t70 := Tryz.underlying216
 a70 := Tryz.isAgg216
 z70 := Tryz.sizeOf216
 v70 := Tryz.zeroValue216
 t76 := Tryz.underlying227
 a76 := Tryz.isAgg227
 z76 := Tryz.sizeOf227
 v76 := Tryz.zeroValue227
 t77 := Tryz.underlying228
 a77 := Tryz.isAgg228
 z77 := Tryz.sizeOf228
 v77 := Tryz.zeroValue228 }
end Go.Proofs
