/-
  What the functions of package word return, each by a walk: whatever the memory, which they leave as it is.
-/
import Derived.Test.YtgccjhnafhlndaaGreatDoorProg
import Derived.Test.YtgccjhnafhlndaaGreatDoorWordMath
import Derived.WalkKit
import Derived.WalkLawsBesides
import Derived.Lib.Hide
import Derived.Deep.QuietTactic
import Derived.BigQuiet
namespace Go.Proofs.YtgccjhnafhlndaaGreatDoor
open Go.RowKit

namespace Wd
def addS (a b : Int) : Int := if a + b < 18446744073709551616 then a + b else 0
def addE (a b : Int) : Int := if a + b < 18446744073709551616 then 0 else 10
def subS (a b : Int) : Int := if a < b then 0 else a - b
def subE (a b : Int) : Int := if a < b then 10 else 0
def mulS (a b : Int) : Int := if a * b < 18446744073709551616 then a * b else 0
def mulE (a b : Int) : Int := if a * b < 18446744073709551616 then 0 else 10
def upS (n : Int) : Int := if n < 1 then 0 else (n - 1) / 2 + 1
def downS (n : Int) : Int := if n < 1 then 0 else n / 2
end Wd

section
variable (w : World)

theorem wrap_mod (n : Int) : IntKind.u64.wrap n = n % 18446744073709551616 := IntKind.wrap_u64 n

theorem wrap_of {n : Int} (h0 : 0 ≤ n) (h1 : n < 18446744073709551616) : IntKind.u64.wrap n = n := by rw [wrap_mod]; omega

theorem Wd.and_one' {v : Int} (k : Nat) (h0 : 0 ≤ v) (h1 : v < 18446744073709551616) : bits BinOp.and IntKind.u64 (v / 2 ^ k) 1 = ((v.toNat / 2 ^ k % 2 : Nat) : Int) := by
  obtain ⟨V, rfl⟩ := Int.eq_ofNat_of_zero_le h0
  have e : ((V : Int) / 2 ^ k) = ((V / 2 ^ k : Nat) : Int) := by simp
  have hl : V / 2 ^ k < 18446744073709551616 := Nat.lt_of_le_of_lt (Nat.div_le_self _ _) (by omega)
  rw [e]
  have := u64_and_nat (V / 2 ^ k) 1 hl (by decide)
  rw [show ((1 : Nat) : Int) = 1 from rfl] at this
  rw [this, Wd.and_one, Int.toNat_natCast]

end
end Go.Proofs.YtgccjhnafhlndaaGreatDoor
