/-
 Plain facts on words of 64 bits as integers: a piece, a word in which a piece was laid, how many bits are 1, the lowest one. No program in sight.
 What the functions of package word return, each by a walk: whatever the memory, which they leave as it is.
-/
import Derived.Test.YtgccjhnafhlndaaGreatDoorProg
import Derived.WalkKit
import Derived.WalkLawsBesides
import Derived.Lib.Hide
import Derived.Deep.QuietTactic
import Derived.BigQuiet
namespace Go.Proofs.YtgccjhnafhlndaaGreatDoor.Wd

theorem two64 : (2 : Nat) ^ 64 = 18446744073709551616 := by decide

def En : Nat -> Nat -> Nat
 | 0, _ => 0
 | k + 1, v => v % 2 + En k (v / 2)

theorem onesF_zero (k : Nat) : En k 0 = 0 := by
 induction k with
 | zero => rfl
 | succ k ih => simp [En, ih]

theorem onesF_le (k v : Nat) : En k v <= k := by
 induction k generalizing v with
 | zero => simp [En]
 | succ k ih => have := ih (v / 2); simp only [En]; omega

theorem and_pred_even (m : Nat) (h : 0 < m) : (2 * m) &&& (2 * m - 1) = 2 * (m &&& (m - 1)) := by
 apply Nat.eq_of_testBit_eq
 intro i
 cases i with
 | zero => simp
 | succ i =>
  have e1 : (2 * m) / 2 = m := by omega
  have e2 : (2 * m - 1) / 2 = m - 1 := by omega
  have e3 : (2 * (m &&& (m - 1))) / 2 = m &&& (m - 1) := by omega
  rw [Nat.testBit_and, Nat.testBit_succ, Nat.testBit_succ, Nat.testBit_succ, e1, e2, e3, Nat.testBit_and]

theorem and_pred_odd (m : Nat) : (2 * m + 1) &&& (2 * m) = 2 * m := by
 apply Nat.eq_of_testBit_eq
 intro i
 cases i with
 | zero => simp
 | succ i =>
  have e1 : (2 * m + 1) / 2 = m := by omega
  have e2 : (2 * m) / 2 = m := by omega
  rw [Nat.testBit_and, Nat.testBit_succ, Nat.testBit_succ, e1, e2, Bool.and_self]

theorem onesF_and_pred {k v : Nat} (h : v < 2 ^ k) (h0 : v ≠ 0) : En k (v &&& (v - 1)) + 1 = En k v := by
 induction k generalizing v with
 | zero => simp at h; omega
 | succ k ih =>
  rw [Nat.pow_succ] at h
  rcases Nat.mod_two_eq_zero_or_one v with h1 | h1
  ·obtain ⟨m, rfl⟩ : ∃ m, v = 2 * m := ⟨v / 2, by omega⟩
   have hm : 0 < m := by omega
   rw [and_pred_even m hm, En, En]
   have e1 : (2 * (m &&& (m - 1))) / 2 = m &&& (m - 1) := by omega
   have e2 : (2 * m) / 2 = m := by omega
   have := ih (v := m) (by omega) (by omega)
   rw [e1, e2]; omega
  ·obtain ⟨m, rfl⟩ : ∃ m, v = 2 * m + 1 := ⟨v / 2, by omega⟩
   have e0 : 2 * m + 1 - 1 = 2 * m := by omega
   rw [e0, and_pred_odd, En, En]
   have e1 : (2 * m) / 2 = m := by omega
   have e2 : (2 * m + 1) / 2 = m := by omega
   rw [e1, e2]; omega

@[irreducible] def ones (v : Nat) : Nat := En 64 v
theorem ones_zero : ones 0 = 0 := by unfold ones; exact onesF_zero 64
theorem ones_le (v : Nat) : ones v <= 64 := by unfold ones; exact onesF_le 64 v
theorem ones_and_pred {v : Nat} (h : v < 18446744073709551616) (h0 : v ≠ 0) : ones (v &&& (v - 1)) + 1 = ones v := by
 unfold ones; exact onesF_and_pred (by rw [two64]; exact h) h0

theorem mask_lt {at_ n : Nat} (hn : at_ + n <= 64) : (2 ^ n - 1) * 2 ^ at_ < 2 ^ 64 := by
 have h1 : (2 ^ n - 1) * 2 ^ at_ < 2 ^ n * 2 ^ at_ := Nat.mul_lt_mul_of_pos_right (by have := Nat.two_pow_pos n; omega) (Nat.two_pow_pos _)
 have h2 : 2 ^ n * 2 ^ at_ <= 2 ^ 64 := by rw [<- Nat.pow_add]; exact Nat.pow_le_pow_right (by decide) (by omega)
 exact Nat.lt_of_lt_of_le h1 h2

theorem tb_not {m : Nat} (hm : m < 2 ^ 64) (i : Nat) : (18446744073709551615 - m).testBit i = (decide (i < 64) && !m.testBit i) := by
 have e : 18446744073709551615 - m = 2 ^ 64 - (m + 1) := by rw [two64, Nat.add_comm, Nat.sub_add_eq]
 rw [e]; exact Nat.testBit_two_pow_sub_succ hm i

theorem testBit_div (v i : Nat) : v.testBit i = decide (v / 2 ^ i % 2 = 1) := by
 rw [Nat.testBit_eq_decide_div_mod_eq]

theorem and_one (v : Nat) : v &&& 1 = v % 2 := Nat.and_one_is_mod v

end Go.Proofs.YtgccjhnafhlndaaGreatDoor.Wd

namespace Go.Proofs.YtgccjhnafhlndaaGreatDoor
open Go.RowKit

namespace Wd
def addS (a b : Int) : Int := if a + b < 18446744073709551616 then a + b else 0
def addE (a b : Int) : Int := if a + b < 18446744073709551616 then 0 else 10
def subS (a b : Int) : Int := if a < b then 0 else a - b
def subE (a b : Int) : Int := if a < b then 10 else 0
def mulS (a b : Int) : Int := if a * b < 18446744073709551616 then a * b else 0
def mulE (a b : Int) : Int := if a * b < 18446744073709551616 then 0 else 10
def upS (n : Int) : Int := if n < 1 then 0 else (n - 1) / 2 + 1
def downS (n : Int) : Int := if n < 1 then 0 else n / 2
end Wd

section
variable (w : World)

theorem wrap_mod (n : Int) : IntKind.u64.wrap n = n % 18446744073709551616 := IntKind.wrap_u64 n

theorem wrap_of {n : Int} (h0 : 0 <= n) (h1 : n < 18446744073709551616) : IntKind.u64.wrap n = n := by rw [wrap_mod]; omega

theorem Wd.and_one' {v : Int} (k : Nat) (h0 : 0 <= v) (h1 : v < 18446744073709551616) : bits BinOp.and IntKind.u64 (v / 2 ^ k) 1 = ((v.toNat / 2 ^ k % 2 : Nat) : Int) := by
 obtain ⟨V, rfl⟩ := Int.eq_ofNat_of_zero_le h0
 have e : ((V : Int) / 2 ^ k) = ((V / 2 ^ k : Nat) : Int) := by simp
 have hl : V / 2 ^ k < 18446744073709551616 := Nat.lt_of_le_of_lt (Nat.div_le_self _ _) (by omega)
 rw [e]
 have := u64_and_nat (V / 2 ^ k) 1 hl (by decide)
 rw [show ((1 : Nat) : Int) = 1 from rfl] at this
 rw [this, Wd.and_one, Int.toNat_natCast]

end
end Go.Proofs.YtgccjhnafhlndaaGreatDoor
