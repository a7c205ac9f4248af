/-
  Plain facts on words of 64 bits as integers: a piece, a word in which a piece was laid, how many bits are 1, the lowest one. No program in sight.
-/
namespace Go.Proofs.YtgccjhnafhlndaaGreatDoor.Wd

theorem two64 : (2 : Nat) ^ 64 = 18446744073709551616 := by decide

/-- How many of the k lowest bits are 1. -/
def onesF : Nat → Nat → Nat
  | 0, _ => 0
  | k + 1, v => v % 2 + onesF k (v / 2)

theorem onesF_zero (k : Nat) : onesF k 0 = 0 := by
  induction k with
  | zero => rfl
  | succ k ih => simp [onesF, ih]

theorem onesF_le (k v : Nat) : onesF k v ≤ k := by
  induction k generalizing v with
  | zero => simp [onesF]
  | succ k ih => have := ih (v / 2); simp only [onesF]; omega

theorem and_pred_even (m : Nat) (h : 0 < m) : (2 * m) &&& (2 * m - 1) = 2 * (m &&& (m - 1)) := by
  apply Nat.eq_of_testBit_eq
  intro i
  cases i with
  | zero => simp
  | succ i =>
    have e1 : (2 * m) / 2 = m := by omega
    have e2 : (2 * m - 1) / 2 = m - 1 := by omega
    have e3 : (2 * (m &&& (m - 1))) / 2 = m &&& (m - 1) := by omega
    rw [Nat.testBit_and, Nat.testBit_succ, Nat.testBit_succ, Nat.testBit_succ, e1, e2, e3, Nat.testBit_and]

theorem and_pred_odd (m : Nat) : (2 * m + 1) &&& (2 * m) = 2 * m := by
  apply Nat.eq_of_testBit_eq
  intro i
  cases i with
  | zero => simp
  | succ i =>
    have e1 : (2 * m + 1) / 2 = m := by omega
    have e2 : (2 * m) / 2 = m := by omega
    rw [Nat.testBit_and, Nat.testBit_succ, Nat.testBit_succ, e1, e2, Bool.and_self]

theorem onesF_and_pred {k v : Nat} (h : v < 2 ^ k) (h0 : v ≠ 0) : onesF k (v &&& (v - 1)) + 1 = onesF k v := by
  induction k generalizing v with
  | zero => simp at h; omega
  | succ k ih =>
    rw [Nat.pow_succ] at h
    rcases Nat.mod_two_eq_zero_or_one v with h1 | h1
    · obtain ⟨m, rfl⟩ : ∃ m, v = 2 * m := ⟨v / 2, by omega⟩
      have hm : 0 < m := by omega
      rw [and_pred_even m hm, onesF, onesF]
      have e1 : (2 * (m &&& (m - 1))) / 2 = m &&& (m - 1) := by omega
      have e2 : (2 * m) / 2 = m := by omega
      have := ih (v := m) (by omega) (by omega)
      rw [e1, e2]; omega
    · obtain ⟨m, rfl⟩ : ∃ m, v = 2 * m + 1 := ⟨v / 2, by omega⟩
      have e0 : 2 * m + 1 - 1 = 2 * m := by omega
      rw [e0, and_pred_odd, onesF, onesF]
      have e1 : (2 * m) / 2 = m := by omega
      have e2 : (2 * m + 1) / 2 = m := by omega
      rw [e1, e2]; omega

/-- How many bits are 1. -/
@[irreducible] def ones (v : Nat) : Nat := onesF 64 v
theorem ones_zero : ones 0 = 0 := by unfold ones; exact onesF_zero 64
theorem ones_le (v : Nat) : ones v ≤ 64 := by unfold ones; exact onesF_le 64 v
theorem ones_and_pred {v : Nat} (h : v < 18446744073709551616) (h0 : v ≠ 0) : ones (v &&& (v - 1)) + 1 = ones v := by
  unfold ones; exact onesF_and_pred (by rw [two64]; exact h) h0

theorem mask_lt {at_ n : Nat} (hn : at_ + n ≤ 64) : (2 ^ n - 1) * 2 ^ at_ < 2 ^ 64 := by
  have h1 : (2 ^ n - 1) * 2 ^ at_ < 2 ^ n * 2 ^ at_ := Nat.mul_lt_mul_of_pos_right (by have := Nat.two_pow_pos n; omega) (Nat.two_pow_pos _)
  have h2 : 2 ^ n * 2 ^ at_ ≤ 2 ^ 64 := by rw [← Nat.pow_add]; exact Nat.pow_le_pow_right (by decide) (by omega)
  exact Nat.lt_of_lt_of_le h1 h2

theorem tb_not {m : Nat} (hm : m < 2 ^ 64) (i : Nat) : (18446744073709551615 - m).testBit i = (decide (i < 64) && !m.testBit i) := by
  have e : 18446744073709551615 - m = 2 ^ 64 - (m + 1) := by rw [two64, Nat.add_comm, Nat.sub_add_eq]
  rw [e]; exact Nat.testBit_two_pow_sub_succ hm i

theorem testBit_div (v i : Nat) : v.testBit i = decide (v / 2 ^ i % 2 = 1) := by
  rw [Nat.testBit_eq_decide_div_mod_eq]

theorem and_one (v : Nat) : v &&& 1 = v % 2 := Nat.and_one_is_mod v

end Go.Proofs.YtgccjhnafhlndaaGreatDoor.Wd
