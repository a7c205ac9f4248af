/-
 What the functions of package word return, each by a walk: whatever the memory, which they leave as it is.
-/
import Derived.Test.YtllpibknkajfnaaGreatDoorProg
import Derived.Test.YtllpibknkajfnaaGreatDoorWordMath
import Derived.WalkKit
import Derived.WalkLawsBesides
import Derived.Lib.Hide
import Derived.Deep.QuietTactic
import Derived.BigQuiet
namespace Go.Proofs.YtllpibknkajfnaaGreatDoor
open Go.RowKit

theorem ret2 {k j : IntKind} {a b c d : Int} (h : a = b) (h' : c = d) : Ending.returned (.tuple #[.int k a, .int j c]) = .returned (.tuple #[.int k b, .int j d]) := by rw [h, h']
theorem ret1 {k : IntKind} {a b : Int} (h : a = b) : Ending.returned (.int k a) = .returned (.int k b) := by rw [h]

namespace Wd
def addS (a b : Int) : Int := if a + b < 18446744073709551616 then a + b else 0
def addE (a b : Int) : Int := if a + b < 18446744073709551616 then 0 else 10
def subS (a b : Int) : Int := if a < b then 0 else a - b
def subE (a b : Int) : Int := if a < b then 10 else 0
def mulS (a b : Int) : Int := if a * b < 18446744073709551616 then a * b else 0
def mulE (a b : Int) : Int := if a * b < 18446744073709551616 then 0 else 10
def upS (n : Int) : Int := if n < 1 then 0 else (n - 1) / 2 + 1
def downS (n : Int) : Int := if n < 1 then 0 else n / 2
end Wd

section
variable (w : World)

theorem wrap_mod (n : Int) : IntKind.u64.wrap n = n % 18446744073709551616 := IntKind.wrap_u64 n

theorem wrap_of {n : Int} (h0 : 0 ≤ n) (h1 : n < 18446744073709551616) : IntKind.u64.wrap n = n := by rw [wrap_mod]; omega

theorem Wd.and_one' {v : Int} (k : Nat) (h0 : 0 ≤ v) (h1 : v < 18446744073709551616) : bits BinOp.and IntKind.u64 (v / 2 ^ k) 1 = ((v.toNat / 2 ^ k % 2 : Nat) : Int) := by
 obtain ⟨V, rfl⟩ := Int.eq_ofNat_of_zero_le h0
 have e : ((V : Int) / 2 ^ k) = ((V / 2 ^ k : Nat) : Int) := by simp
 have hl : V / 2 ^ k < 18446744073709551616 := Nat.lt_of_le_of_lt (Nat.div_le_self _ _) (by omega)
 rw [e]
 have := u64_and_nat (V / 2 ^ k) 1 hl (by decide)
 rw [show ((1 : Nat) : Int) = 1 from rfl] at this
 rw [this, Wd.and_one, Int.toNat_natCast]

theorem Low_any (v : Int) (h0 : 0 ≤ v) (h1 : v < 18446744073709551616) :
  Calls Tryz.prog 137 #[.int .u64 v] w fun e w' => w = w' ∧ e = .returned (.int .i64 (Wd.low v.toNat)) := by
 have A1 := Lib.hid (fun k => Wd.and_one' (v := v) k h0 h1)
 go_enter Tryz.func137, Tryz.ntmps137
 go_wp2
 go_loop [4] (fun i => ∃ k : Nat, k ≤ 64 ∧ i = .int .i64 k ∧ ∀ j, j < k → v.toNat / 2 ^ j % 2 ≠ 1) (fun i => 64 - (intOf i).toNat)
 case atStart => exact ⟨0, by omega, rfl, fun _ h => by omega⟩
 case round =>
  obtain ⟨k, hk, rfl, hb⟩ := hrel
  have hb := Lib.hid hb
  by_cases hlt : k < 64
  ·have A2 := Lib.hid (A1.out k)
   by_cases ht : v.toNat / 2 ^ k % 2 = 1
   ·have t : (bits BinOp.and IntKind.u64 (v / 2 ^ k) 1 == 1) = true := by rw [A2.out, ht]; rfl
    have ht := Lib.hid ht
    go_wp2
    go_ret
    exact ⟨rfl, ret1 (by rw [Wd.low_eq hk hb.out (fun _ => ht.out)])⟩
   ·have t : (bits BinOp.and IntKind.u64 (v / 2 ^ k) 1 == 1) = false := by rw [A2.out, beq_eq_false_iff_ne]; omega
    have ht := Lib.hid ht
    go_wp2
    go_round
    case rel =>
     refine ⟨k + 1, by omega, by go_num, fun j hj => ?_⟩
     by_cases e : j = k
     ·subst e; exact ht.out
     ·exact hb.out j (by omega)
    case measure => simp [intOf]; omega
  ·go_wp2
   go_ret
   exact ⟨rfl, ret1 (by rw [Wd.low_eq (Nat.le_refl 64) (fun j hj => hb.out j (by omega)) (fun h => by omega)]; rfl)⟩

end
end Go.Proofs.YtllpibknkajfnaaGreatDoor
