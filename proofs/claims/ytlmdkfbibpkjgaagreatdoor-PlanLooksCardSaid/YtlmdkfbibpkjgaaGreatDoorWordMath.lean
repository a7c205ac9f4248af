/-
 Plain facts on words of 64 bits as integers: a piece, a word in which a piece was laid, how many bits are 1, the lowest one. No program in sight.
 What the functions of package word return, each by a walk: whatever the memory, which they leave as it is.
-/
import Derived.Test.YtlmdkfbibpkjgaaGreatDoorProg
import Derived.WalkKit
import Derived.WalkLawsBesides
import Derived.Lib.Hide
import Derived.Deep.QuietTactic
import Derived.BigQuiet
namespace Go.Proofs.YtlmdkfbibpkjgaaGreatDoor.Wd

theorem Ei : (2 : Nat) ^ 64 = 18446744073709551616 := by decide

def EA : Nat -> Nat -> Nat
 | 0, _ => 0
 | k + 1, v => v % 2 + EA k (v / 2)

theorem onesF_zero (k : Nat) : EA k 0 = 0 := by
 induction k with
 | zero => rfl
 | succ k ih => simp [EA, ih]

theorem onesF_le (k v : Nat) : EA k v <= k := by
 induction k generalizing v with
 | zero => simp [EA]
 | succ k ih => have := ih (v / 2); simp only [EA]; omega

theorem and_pred_even (m : Nat) (h : 0 < m) : (2 * m) &&& (2 * m - 1) = 2 * (m &&& (m - 1)) := by
 apply Nat.eq_of_testBit_eq
 intro i
 cases i with
 | zero => simp
 | succ i =>
  have e1 : (2 * m) / 2 = m := by omega
  have e2 : (2 * m - 1) / 2 = m - 1 := by omega
  have e3 : (2 * (m &&& (m - 1))) / 2 = m &&& (m - 1) := by omega
  rw [Nat.testBit_and, Nat.testBit_succ, Nat.testBit_succ, Nat.testBit_succ, e1, e2, e3, Nat.testBit_and]

theorem and_pred_odd (m : Nat) : (2 * m + 1) &&& (2 * m) = 2 * m := by
 apply Nat.eq_of_testBit_eq
 intro i
 cases i with
 | zero => simp
 | succ i =>
  have e1 : (2 * m + 1) / 2 = m := by omega
  have e2 : (2 * m) / 2 = m := by omega
  rw [Nat.testBit_and, Nat.testBit_succ, Nat.testBit_succ, e1, e2, Bool.and_self]

theorem onesF_and_pred {k v : Nat} (h : v < 2 ^ k) (h0 : v ≠ 0) : EA k (v &&& (v - 1)) + 1 = EA k v := by
 induction k generalizing v with
 | zero => simp at h; omega
 | succ k ih =>
  rw [Nat.pow_succ] at h
  rcases Nat.mod_two_eq_zero_or_one v with h1 | h1
  ·obtain ⟨m, rfl⟩ : ∃ m, v = 2 * m := ⟨v / 2, by omega⟩
   have hm : 0 < m := by omega
   rw [and_pred_even m hm, EA, EA]
   have e1 : (2 * (m &&& (m - 1))) / 2 = m &&& (m - 1) := by omega
   have e2 : (2 * m) / 2 = m := by omega
   have := ih (v := m) (by omega) (by omega)
   rw [e1, e2]; omega
  ·obtain ⟨m, rfl⟩ : ∃ m, v = 2 * m + 1 := ⟨v / 2, by omega⟩
   have e0 : 2 * m + 1 - 1 = 2 * m := by omega
   rw [e0, and_pred_odd, EA, EA]
   have e1 : (2 * m) / 2 = m := by omega
   have e2 : (2 * m + 1) / 2 = m := by omega
   rw [e1, e2]; omega

@[irreducible] def ones (v : Nat) : Nat := EA 64 v
theorem ones_zero : ones 0 = 0 := by unfold ones; exact onesF_zero 64
theorem ones_le (v : Nat) : ones v <= 64 := by unfold ones; exact onesF_le 64 v
theorem ones_and_pred {v : Nat} (h : v < 18446744073709551616) (h0 : v ≠ 0) : ones (v &&& (v - 1)) + 1 = ones v := by
 unfold ones; exact onesF_and_pred (by rw [Ei]; exact h) h0

def lowF (v : Nat) : Nat -> Nat -> Nat
 | 0, i => i
 | f + 1, i => if v / 2 ^ i % 2 = 1 then i else lowF v f (i + 1)

def low (v : Nat) : Nat := lowF v 64 0

theorem lowF_go {v : Nat} : ∀ (f i j : Nat), i <= j -> j <= i + f -> (∀ k, i <= k -> k < j -> v / 2 ^ k % 2 ≠ 1) -> (j < i + f -> v / 2 ^ j % 2 = 1) -> lowF v f i = j
 | 0, i, j, h1, h2, _, _ => by simp only [lowF]; omega
 | f + 1, i, j, h1, h2, h3, h4 => by
  simp only [lowF]
  by_cases e : i = j
  ·subst e; rw [if_pos (h4 (by omega))]
  ·rw [if_neg (h3 i (Nat.le_refl _) (by omega))]
   exact lowF_go f (i + 1) j (by omega) (by omega) (λ k hk => h3 k (by omega)) (λ h => h4 (by omega))

theorem low_eq {v j : Nat} (h2 : j <= 64) (h3 : ∀ k, k < j -> v / 2 ^ k % 2 ≠ 1) (h4 : j < 64 -> v / 2 ^ j % 2 = 1) : low v = j :=
 lowF_go 64 0 j (Nat.zero_le _) (by omega) (λ k _ => h3 k) (λ h => h4 (by omega))

theorem lowF_spec {v : Nat} : ∀ (f i : Nat), i <= lowF v f i /\ lowF v f i <= i + f /\ (∀ k, i <= k -> k < lowF v f i -> v / 2 ^ k % 2 ≠ 1) /\ (lowF v f i < i + f -> v / 2 ^ lowF v f i % 2 = 1)
 | 0, i => ⟨by simp [lowF], by simp [lowF], λ k h1 h2 => by simp only [lowF] at h2; omega, λ h => by simp only [lowF] at h; omega⟩
 | f + 1, i => by
  simp only [lowF]
  by_cases e : v / 2 ^ i % 2 = 1
  ·rw [if_pos e]; exact ⟨Nat.le_refl _, by omega, λ k h1 h2 => by omega, λ _ => e⟩
  ·rw [if_neg e]
   obtain ⟨a, b, c, d⟩ := lowF_spec f (i + 1) (v := v)
   refine ⟨by omega, by omega, λ k h1 h2 => ?_, λ h => d (by omega)⟩
   by_cases ek : k = i
   ·subst ek; exact e
   ·exact c k (by omega) h2

theorem low_le (v : Nat) : low v <= 64 := by have := (lowF_spec (v := v) 64 0).2.1; simpa [low] using this
theorem low_below {v k : Nat} (h : k < low v) : v / 2 ^ k % 2 ≠ 1 := (lowF_spec (v := v) 64 0).2.2.1 k (Nat.zero_le _) h
theorem low_is {v : Nat} (h : low v < 64) : v / 2 ^ low v % 2 = 1 := (lowF_spec (v := v) 64 0).2.2.2 (by simpa [low] using h)

theorem mask_lt {at_ n : Nat} (hn : at_ + n <= 64) : (2 ^ n - 1) * 2 ^ at_ < 2 ^ 64 := by
 have h1 : (2 ^ n - 1) * 2 ^ at_ < 2 ^ n * 2 ^ at_ := Nat.mul_lt_mul_of_pos_right (by have := Nat.two_pow_pos n; omega) (Nat.two_pow_pos _)
 have h2 : 2 ^ n * 2 ^ at_ <= 2 ^ 64 := by rw [<- Nat.pow_add]; exact Nat.pow_le_pow_right (by decide) (by omega)
 exact Nat.lt_of_lt_of_le h1 h2

theorem tb_not {m : Nat} (hm : m < 2 ^ 64) (i : Nat) : (18446744073709551615 - m).testBit i = (decide (i < 64) && !m.testBit i) := by
 have e : 18446744073709551615 - m = 2 ^ 64 - (m + 1) := by rw [Ei, Nat.add_comm, Nat.sub_add_eq]
 rw [e]; exact Nat.testBit_two_pow_sub_succ hm i

theorem Ej (v i : Nat) : v.testBit i = decide (v / 2 ^ i % 2 = 1) := by
 rw [Nat.testBit_eq_decide_div_mod_eq]

theorem and_one (v : Nat) : v &&& 1 = v % 2 := Nat.and_one_is_mod v

end Go.Proofs.YtlmdkfbibpkjgaaGreatDoor.Wd

namespace Go.Proofs.YtlmdkfbibpkjgaaGreatDoor
open Go.RowKit

theorem ret2 {k j : IntKind} {a b c d : Int} (h : a = b) (h' : c = d) : Ending.returned (.tuple #[.int k a, .int j c]) = .returned (.tuple #[.int k b, .int j d]) := by rw [h, h']
theorem ret1 {k : IntKind} {a b : Int} (h : a = b) : Ending.returned (.int k a) = .returned (.int k b) := by rw [h]

namespace Wd
def addS (a b : Int) : Int := if a + b < 18446744073709551616 then a + b else 0
def addE (a b : Int) : Int := if a + b < 18446744073709551616 then 0 else 10
def subS (a b : Int) : Int := if a < b then 0 else a - b
def subE (a b : Int) : Int := if a < b then 10 else 0
def mulS (a b : Int) : Int := if a * b < 18446744073709551616 then a * b else 0
def mulE (a b : Int) : Int := if a * b < 18446744073709551616 then 0 else 10
def upS (n : Int) : Int := if n < 1 then 0 else (n - 1) / 2 + 1
def downS (n : Int) : Int := if n < 1 then 0 else n / 2
end Wd

section
variable (w : World)

theorem wrap_mod (n : Int) : IntKind.u64.wrap n = n % 18446744073709551616 := IntKind.wrap_u64 n

theorem wrap_of {n : Int} (h0 : 0 <= n) (h1 : n < 18446744073709551616) : IntKind.u64.wrap n = n := by rw [wrap_mod]; omega

theorem Wd.and_one' {v : Int} (k : Nat) (h0 : 0 <= v) (h1 : v < 18446744073709551616) : bits BinOp.and IntKind.u64 (v / 2 ^ k) 1 = ((v.toNat / 2 ^ k % 2 : Nat) : Int) := by
 obtain ⟨V, rfl⟩ := Int.eq_ofNat_of_zero_le h0
 have e : ((V : Int) / 2 ^ k) = ((V / 2 ^ k : Nat) : Int) := by simp
 have hl : V / 2 ^ k < 18446744073709551616 := Nat.lt_of_le_of_lt (Nat.div_le_self _ _) (by omega)
 rw [e]
 have := u64_and_nat (V / 2 ^ k) 1 hl (by decide)
 rw [show ((1 : Nat) : Int) = 1 from rfl] at this
 rw [this, Wd.and_one, Int.toNat_natCast]

theorem Low_any (v : Int) (h0 : 0 <= v) (h1 : v < 18446744073709551616) :
  Calls Tryz.prog 75 #[.int .u64 v] w λ e w' => w = w' /\ e = .returned (.int .i64 (Wd.low v.toNat)) := by
 have A1 := Lib.hid (λ k => Wd.and_one' (v := v) k h0 h1)
 go_enter Tryz.func75, Tryz.ntmps75
 go_wp2
 go_loop [4] (λ i => ∃ k : Nat, k <= 64 /\ i = .int .i64 k /\ ∀ j, j < k -> v.toNat / 2 ^ j % 2 ≠ 1) (λ i => 64 - (intOf i).toNat)
 case atStart => exact ⟨0, by omega, rfl, λ _ h => by omega⟩
 case round =>
  obtain ⟨k, hk, rfl, hb⟩ := hrel
  have hb := Lib.hid hb
  by_cases hlt : k < 64
  ·have A2 := Lib.hid (A1.out k)
   by_cases ht : v.toNat / 2 ^ k % 2 = 1
   ·have t : (bits BinOp.and IntKind.u64 (v / 2 ^ k) 1 == 1) = true := by rw [A2.out, ht]; rfl
    have ht := Lib.hid ht
    go_wp2
    go_ret
    exact ⟨rfl, ret1 (by rw [Wd.low_eq hk hb.out (λ _ => ht.out)])⟩
   ·have t : (bits BinOp.and IntKind.u64 (v / 2 ^ k) 1 == 1) = false := by rw [A2.out, beq_eq_false_iff_ne]; omega
    have ht := Lib.hid ht
    go_wp2
    go_round
    case rel =>
     refine ⟨k + 1, by omega, by go_num, λ j hj => ?_⟩
     by_cases e : j = k
     ·subst e; exact ht.out
     ·exact hb.out j (by omega)
    case measure => simp [intOf]; omega
  ·go_wp2
   go_ret
   exact ⟨rfl, ret1 (by rw [Wd.low_eq (Nat.le_refl 64) (λ j hj => hb.out j (by omega)) (λ h => by omega)]; rfl)⟩

end
end Go.Proofs.YtlmdkfbibpkjgaaGreatDoor
