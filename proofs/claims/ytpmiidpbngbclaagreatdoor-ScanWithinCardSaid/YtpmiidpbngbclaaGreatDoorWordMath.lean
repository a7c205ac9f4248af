/-
  Plain facts on words of 64 bits as integers: a piece, a word in which a piece was laid, how many bits are 1, the lowest one. No program in sight.
-/
namespace Go.Proofs.YtpmiidpbngbclaaGreatDoor.Wd

theorem two64 : (2 : Nat) ^ 64 = 18446744073709551616 := by decide

/-- How many of the k lowest bits are 1. -/
def onesF : Nat → Nat → Nat
  | 0, _ => 0
  | k + 1, v => v % 2 + onesF k (v / 2)

theorem onesF_zero (k : Nat) : onesF k 0 = 0 := by
  induction k with
  | zero => rfl
  | succ k ih => simp [onesF, ih]

theorem onesF_le (k v : Nat) : onesF k v ≤ k := by
  induction k generalizing v with
  | zero => simp [onesF]
  | succ k ih => have := ih (v / 2); simp only [onesF]; omega

theorem onesF_pos {k v : Nat} (h : v < 2 ^ k) (h0 : v ≠ 0) : 0 < onesF k v := by
  induction k generalizing v with
  | zero => simp at h; omega
  | succ k ih =>
    simp only [onesF]
    by_cases h1 : v % 2 = 1
    · omega
    · have h2 : v / 2 < 2 ^ k := by rw [Nat.pow_succ] at h; omega
      have := ih h2 (by omega)
      omega

theorem onesF_last (k v : Nat) : onesF (k + 1) v = onesF k v + v / 2 ^ k % 2 := by
  induction k generalizing v with
  | zero => simp [onesF]
  | succ k ih =>
    rw [onesF, ih (v / 2)]
    simp only [onesF, Nat.pow_succ, Nat.div_div_eq_div_mul, Nat.mul_comm 2]
    omega

theorem onesF_add (a b lo hi : Nat) (h : lo < 2 ^ a) : onesF (a + b) (lo + 2 ^ a * hi) = onesF a lo + onesF b hi := by
  induction a generalizing lo with
  | zero => simp at h; subst h; simp [onesF]
  | succ a ih =>
    have e : a + 1 + b = (a + b) + 1 := by omega
    rw [e, onesF, onesF]
    rw [Nat.pow_succ] at *
    have e2 : 2 ^ a * 2 * hi = 2 * (2 ^ a * hi) := by rw [Nat.mul_comm (2 ^ a) 2, Nat.mul_assoc]
    rw [e2]
    have h1 : (lo + 2 * (2 ^ a * hi)) % 2 = lo % 2 := by omega
    have h2 : (lo + 2 * (2 ^ a * hi)) / 2 = lo / 2 + 2 ^ a * hi := by omega
    rw [h1, h2, ih (lo / 2) (by omega)]
    omega

theorem onesF_more {a v : Nat} (b : Nat) (h : v < 2 ^ a) : onesF (a + b) v = onesF a v := by
  have := onesF_add a b v 0 h
  simpa [onesF_zero] using this

theorem and_pred_even (m : Nat) (h : 0 < m) : (2 * m) &&& (2 * m - 1) = 2 * (m &&& (m - 1)) := by
  apply Nat.eq_of_testBit_eq
  intro i
  cases i with
  | zero => simp
  | succ i =>
    have e1 : (2 * m) / 2 = m := by omega
    have e2 : (2 * m - 1) / 2 = m - 1 := by omega
    have e3 : (2 * (m &&& (m - 1))) / 2 = m &&& (m - 1) := by omega
    rw [Nat.testBit_and, Nat.testBit_succ, Nat.testBit_succ, Nat.testBit_succ, e1, e2, e3, Nat.testBit_and]

theorem and_pred_odd (m : Nat) : (2 * m + 1) &&& (2 * m) = 2 * m := by
  apply Nat.eq_of_testBit_eq
  intro i
  cases i with
  | zero => simp
  | succ i =>
    have e1 : (2 * m + 1) / 2 = m := by omega
    have e2 : (2 * m) / 2 = m := by omega
    rw [Nat.testBit_and, Nat.testBit_succ, Nat.testBit_succ, e1, e2, Bool.and_self]

theorem onesF_and_pred {k v : Nat} (h : v < 2 ^ k) (h0 : v ≠ 0) : onesF k (v &&& (v - 1)) + 1 = onesF k v := by
  induction k generalizing v with
  | zero => simp at h; omega
  | succ k ih =>
    rw [Nat.pow_succ] at h
    rcases Nat.mod_two_eq_zero_or_one v with h1 | h1
    · obtain ⟨m, rfl⟩ : ∃ m, v = 2 * m := ⟨v / 2, by omega⟩
      have hm : 0 < m := by omega
      rw [and_pred_even m hm, onesF, onesF]
      have e1 : (2 * (m &&& (m - 1))) / 2 = m &&& (m - 1) := by omega
      have e2 : (2 * m) / 2 = m := by omega
      have := ih (v := m) (by omega) (by omega)
      rw [e1, e2]; omega
    · obtain ⟨m, rfl⟩ : ∃ m, v = 2 * m + 1 := ⟨v / 2, by omega⟩
      have e0 : 2 * m + 1 - 1 = 2 * m := by omega
      rw [e0, and_pred_odd, onesF, onesF]
      have e1 : (2 * m) / 2 = m := by omega
      have e2 : (2 * m + 1) / 2 = m := by omega
      rw [e1, e2]; omega

/-- How many bits are 1. -/
@[irreducible] def ones (v : Nat) : Nat := onesF 64 v
theorem ones_zero : ones 0 = 0 := by unfold ones; exact onesF_zero 64
theorem ones_le (v : Nat) : ones v ≤ 64 := by unfold ones; exact onesF_le 64 v
theorem ones_and_pred {v : Nat} (h : v < 18446744073709551616) (h0 : v ≠ 0) : ones (v &&& (v - 1)) + 1 = ones v := by
  unfold ones; exact onesF_and_pred (by rw [two64]; exact h) h0

theorem and_le_pred (v : Nat) : v &&& (v - 1) ≤ v := Nat.and_le_left

/-- The lowest bit that is 1. -/
def lowF (v : Nat) : Nat → Nat → Nat
  | 0, i => i
  | f + 1, i => if v / 2 ^ i % 2 = 1 then i else lowF v f (i + 1)

def low (v : Nat) : Nat := lowF v 64 0

theorem lowF_go {v : Nat} : ∀ (f i j : Nat), i ≤ j → j ≤ i + f → (∀ k, i ≤ k → k < j → v / 2 ^ k % 2 ≠ 1) → (j < i + f → v / 2 ^ j % 2 = 1) → lowF v f i = j
  | 0, i, j, h1, h2, _, _ => by simp only [lowF]; omega
  | f + 1, i, j, h1, h2, h3, h4 => by
    simp only [lowF]
    by_cases e : i = j
    · subst e; rw [if_pos (h4 (by omega))]
    · rw [if_neg (h3 i (Nat.le_refl _) (by omega))]
      exact lowF_go f (i + 1) j (by omega) (by omega) (fun k hk => h3 k (by omega)) (fun h => h4 (by omega))

theorem low_eq {v j : Nat} (h2 : j ≤ 64) (h3 : ∀ k, k < j → v / 2 ^ k % 2 ≠ 1) (h4 : j < 64 → v / 2 ^ j % 2 = 1) : low v = j :=
  lowF_go 64 0 j (Nat.zero_le _) (by omega) (fun k _ => h3 k) (fun h => h4 (by omega))

theorem lowF_spec {v : Nat} : ∀ (f i : Nat), i ≤ lowF v f i ∧ lowF v f i ≤ i + f ∧ (∀ k, i ≤ k → k < lowF v f i → v / 2 ^ k % 2 ≠ 1) ∧ (lowF v f i < i + f → v / 2 ^ lowF v f i % 2 = 1)
  | 0, i => ⟨by simp [lowF], by simp [lowF], fun k h1 h2 => by simp only [lowF] at h2; omega, fun h => by simp only [lowF] at h; omega⟩
  | f + 1, i => by
    simp only [lowF]
    by_cases e : v / 2 ^ i % 2 = 1
    · rw [if_pos e]; exact ⟨Nat.le_refl _, by omega, fun k h1 h2 => by omega, fun _ => e⟩
    · rw [if_neg e]
      obtain ⟨a, b, c, d⟩ := lowF_spec f (i + 1) (v := v)
      refine ⟨by omega, by omega, fun k h1 h2 => ?_, fun h => d (by omega)⟩
      by_cases ek : k = i
      · subst ek; exact e
      · exact c k (by omega) h2

theorem low_le (v : Nat) : low v ≤ 64 := by have := (lowF_spec (v := v) 64 0).2.1; simpa [low] using this
theorem low_below {v k : Nat} (h : k < low v) : v / 2 ^ k % 2 ≠ 1 := (lowF_spec (v := v) 64 0).2.2.1 k (Nat.zero_le _) h
theorem low_is {v : Nat} (h : low v < 64) : v / 2 ^ low v % 2 = 1 := (lowF_spec (v := v) 64 0).2.2.2 (by simpa [low] using h)

/-- A piece of n bits from 'at' on. -/
def piece (v at_ n : Nat) : Nat := v / 2 ^ at_ % 2 ^ n

/-- A word in which a piece was laid. -/
def laid (v at_ n x : Nat) : Nat := v % 2 ^ at_ + 2 ^ at_ * (x + 2 ^ n * (v / 2 ^ (at_ + n)))

theorem piece_lt (v at_ n : Nat) : piece v at_ n < 2 ^ n := Nat.mod_lt _ (Nat.two_pow_pos n)

theorem split3 (v at_ n : Nat) : v % 2 ^ at_ + 2 ^ at_ * (piece v at_ n + 2 ^ n * (v / 2 ^ (at_ + n))) = v := by
  unfold piece
  rw [Nat.pow_add, ← Nat.div_div_eq_div_mul, Nat.mod_add_div, Nat.mod_add_div]

theorem laid_mod (v at_ n x : Nat) : laid v at_ n x % 2 ^ at_ = v % 2 ^ at_ := by
  unfold laid; rw [Nat.add_mul_mod_self_left, Nat.mod_mod]

theorem laid_div (v at_ n x : Nat) : laid v at_ n x / 2 ^ at_ = x + 2 ^ n * (v / 2 ^ (at_ + n)) := by
  unfold laid
  rw [Nat.add_mul_div_left _ _ (Nat.two_pow_pos _), Nat.div_eq_of_lt (Nat.mod_lt _ (Nat.two_pow_pos _)), Nat.zero_add]

theorem piece_laid {v at_ n x : Nat} (h : x < 2 ^ n) : piece (laid v at_ n x) at_ n = x := by
  unfold piece; rw [laid_div, Nat.add_mul_mod_self_left, Nat.mod_eq_of_lt h]

theorem laid_high {v at_ n x : Nat} (h : x < 2 ^ n) : laid v at_ n x / 2 ^ (at_ + n) = v / 2 ^ (at_ + n) := by
  rw [Nat.pow_add, ← Nat.div_div_eq_div_mul, laid_div, Nat.add_mul_div_left _ _ (Nat.two_pow_pos _), Nat.div_eq_of_lt h, Nat.zero_add, Nat.pow_add]

theorem laid_back {v at_ n x : Nat} (h : x < 2 ^ n) : laid (laid v at_ n x) at_ n (piece v at_ n) = v := by
  have h1 := laid_mod v at_ n x
  have h2 := laid_high (v := v) (at_ := at_) h
  rw [show laid (laid v at_ n x) at_ n (piece v at_ n) = laid v at_ n x % 2 ^ at_ + 2 ^ at_ * (piece v at_ n + 2 ^ n * (laid v at_ n x / 2 ^ (at_ + n))) from rfl, h1, h2]
  exact split3 v at_ n

theorem laid_lt {v at_ n x : Nat} (hv : v < 2 ^ 64) (hn : at_ + n ≤ 64) (h : x < 2 ^ n) : laid v at_ n x < 2 ^ 64 := by
  have h1 := laid_high (v := v) (at_ := at_) h
  have h2 : v / 2 ^ (at_ + n) < 2 ^ (64 - (at_ + n)) := by
    rw [Nat.div_lt_iff_lt_mul (Nat.two_pow_pos _), ← Nat.pow_add]
    have e : 64 - (at_ + n) + (at_ + n) = 64 := by omega
    rw [e]; exact hv
  rw [← h1, Nat.div_lt_iff_lt_mul (Nat.two_pow_pos _), ← Nat.pow_add] at h2
  have e : 64 - (at_ + n) + (at_ + n) = 64 := by omega
  rwa [e] at h2

theorem ones_laidK {K v at_ n x : Nat} (hn : at_ + n ≤ K) (h : x < 2 ^ n) :
    onesF K (laid v at_ n x) + onesF K (piece v at_ n) = onesF K v + onesF K x := by
  obtain ⟨c, rfl⟩ : ∃ c, K = at_ + (n + c) := ⟨K - at_ - n, by omega⟩
  have key : ∀ y, y < 2 ^ n → onesF (at_ + (n + c)) (v % 2 ^ at_ + 2 ^ at_ * (y + 2 ^ n * (v / 2 ^ (at_ + n)))) = onesF at_ (v % 2 ^ at_) + (onesF n y + onesF c (v / 2 ^ (at_ + n))) := by
    intro y hy
    rw [← onesF_add n _ y _ hy, ← onesF_add at_ _ _ _ (Nat.mod_lt _ (Nat.two_pow_pos _))]
  have small : ∀ y, y < 2 ^ n → onesF (at_ + (n + c)) y = onesF n y := by
    intro y hy
    rw [show at_ + (n + c) = n + (at_ + c) by omega]
    exact onesF_more (at_ + c) hy
  have hp := piece_lt v at_ n
  have k1 := key x h
  have k2 := key _ hp
  rw [split3] at k2
  rw [show laid v at_ n x = v % 2 ^ at_ + 2 ^ at_ * (x + 2 ^ n * (v / 2 ^ (at_ + n))) from rfl, k1, k2, small x h, small _ hp]
  omega

theorem ones_laid {v at_ n x : Nat} (hn : at_ + n ≤ 64) (h : x < 2 ^ n) :
    ones (laid v at_ n x) + ones (piece v at_ n) = ones v + ones x := by unfold ones; exact ones_laidK hn h

theorem testBit_laid {v at_ n x : Nat} (h : x < 2 ^ n) (i : Nat) :
    (laid v at_ n x).testBit i = if i < at_ then v.testBit i else if i < at_ + n then x.testBit (i - at_) else v.testBit i := by
  by_cases h1 : i < at_
  · rw [if_pos h1]
    have e := Nat.testBit_mod_two_pow (laid v at_ n x) at_ i
    have e' := Nat.testBit_mod_two_pow v at_ i
    rw [laid_mod] at e
    rw [e'] at e
    simpa [h1] using e.symm
  · rw [if_neg h1]
    have e : (laid v at_ n x).testBit i = (laid v at_ n x / 2 ^ at_).testBit (i - at_) := by
      rw [Nat.testBit_div_two_pow]; congr 1; omega
    rw [e, laid_div]
    by_cases h2 : i < at_ + n
    · rw [if_pos h2, Nat.add_comm, Nat.testBit_two_pow_mul_add _ h, if_pos (by omega)]
    · rw [if_neg h2, Nat.add_comm, Nat.testBit_two_pow_mul_add _ h, if_neg (by omega), Nat.testBit_div_two_pow]
      congr 1; omega

theorem testBit_mask (n i : Nat) : (2 ^ n - 1).testBit i = decide (i < n) := Nat.testBit_two_pow_sub_one n i

theorem mask_lt {at_ n : Nat} (hn : at_ + n ≤ 64) : (2 ^ n - 1) * 2 ^ at_ < 2 ^ 64 := by
  have h1 : (2 ^ n - 1) * 2 ^ at_ < 2 ^ n * 2 ^ at_ := Nat.mul_lt_mul_of_pos_right (by have := Nat.two_pow_pos n; omega) (Nat.two_pow_pos _)
  have h2 : 2 ^ n * 2 ^ at_ ≤ 2 ^ 64 := by rw [← Nat.pow_add]; exact Nat.pow_le_pow_right (by decide) (by omega)
  exact Nat.lt_of_lt_of_le h1 h2

theorem tb_not {m : Nat} (hm : m < 2 ^ 64) (i : Nat) : (18446744073709551615 - m).testBit i = (decide (i < 64) && !m.testBit i) := by
  have e : 18446744073709551615 - m = 2 ^ 64 - (m + 1) := by rw [two64, Nat.add_comm, Nat.sub_add_eq]
  rw [e]; exact Nat.testBit_two_pow_sub_succ hm i

/-- What the program lays. -/
theorem lay_eq {v at_ n x : Nat} (hv : v < 2 ^ 64) (hn : at_ + n ≤ 64) (h : x < 2 ^ n) :
    (v &&& (18446744073709551615 - (2 ^ n - 1) * 2 ^ at_)) ||| x * 2 ^ at_ = laid v at_ n x := by
  have hm := mask_lt (at_ := at_) (n := n) hn
  apply Nat.eq_of_testBit_eq
  intro i
  rw [Nat.testBit_or, Nat.testBit_and, tb_not hm, testBit_laid h]
  have tm : ∀ y j, (y * 2 ^ at_).testBit j = (decide (at_ ≤ j) && y.testBit (j - at_)) := fun y j => by
    rw [Nat.mul_comm, Nat.testBit_two_pow_mul]
  rw [tm, tm, testBit_mask]
  by_cases h1 : i < at_
  · have c : decide (at_ ≤ i) = false := by simp; omega
    have c2 : decide (i < 64) = true := by simp; omega
    rw [if_pos h1, c, c2]; simp
  · have c : decide (at_ ≤ i) = true := by simp; omega
    rw [if_neg h1, c]
    by_cases h2 : i < at_ + n
    · have c2 : decide (i - at_ < n) = true := by simp; omega
      rw [if_pos h2, c2]; simp
    · have c2 : decide (i - at_ < n) = false := by simp; omega
      have c3 : x.testBit (i - at_) = false := Nat.testBit_lt_two_pow (Nat.lt_of_lt_of_le h (Nat.pow_le_pow_right (by decide) (by omega)))
      rw [if_neg h2, c2, c3]
      by_cases h3 : i < 64
      · simp [h3]
      · have c4 : v.testBit i = false := Nat.testBit_lt_two_pow (Nat.lt_of_lt_of_le hv (Nat.pow_le_pow_right (by decide) (by omega)))
        simp [c4]

/-- No other bit is another one. -/
theorem laid_same {v at_ n x : Nat} (hn : at_ + n ≤ 64) (h : x < 2 ^ n) :
    (v ^^^ laid v at_ n x) &&& (18446744073709551615 - (2 ^ n - 1) * 2 ^ at_) = 0 := by
  have hm := mask_lt (at_ := at_) (n := n) hn
  apply Nat.eq_of_testBit_eq
  intro i
  rw [Nat.testBit_and, Nat.testBit_xor, tb_not hm, testBit_laid h]
  have tm : ∀ y j, (y * 2 ^ at_).testBit j = (decide (at_ ≤ j) && y.testBit (j - at_)) := fun y j => by
    rw [Nat.mul_comm, Nat.testBit_two_pow_mul]
  rw [tm, testBit_mask]
  by_cases h1 : i < at_
  · rw [if_pos h1]; simp
  · have c : decide (at_ ≤ i) = true := by simp; omega
    rw [if_neg h1, c]
    by_cases h2 : i < at_ + n
    · have c2 : decide (i - at_ < n) = true := by simp; omega
      rw [if_pos h2, c2]; simp
    · rw [if_neg h2]; simp

/-- A word, bit by bit from above. -/
def fromTop (f : Nat → Nat) : Nat → Nat
  | 0 => 0
  | k + 1 => f k * 2 ^ k + fromTop f k

/-- How the document's loops gather a word: the bits from i on. -/
theorem gather (v i : Nat) : v / 2 ^ i = 2 * (v / 2 ^ (i + 1)) + v / 2 ^ i % 2 := by
  rw [Nat.pow_succ, ← Nat.div_div_eq_div_mul]; omega

theorem testBit_div (v i : Nat) : v.testBit i = decide (v / 2 ^ i % 2 = 1) := by
  rw [Nat.testBit_eq_decide_div_mod_eq]

theorem div_laid {v at_ n x : Nat} (h : x < 2 ^ n) (i : Nat) : laid v at_ n x / 2 ^ i % 2 = if at_ ≤ i ∧ i < at_ + n then x / 2 ^ (i - at_) % 2 else v / 2 ^ i % 2 := by
  have key : ∀ a b : Nat, (decide (a % 2 = 1) = decide (b % 2 = 1)) → a % 2 = b % 2 := fun a b e => by
    have := decide_eq_decide.1 e; omega
  have t := testBit_laid (v := v) (at_ := at_) h i
  by_cases h1 : i < at_
  · rw [if_pos h1, testBit_div, testBit_div] at t
    rw [if_neg (by omega)]; exact key _ _ t
  · rw [if_neg h1] at t
    by_cases h2 : i < at_ + n
    · rw [if_pos h2, testBit_div, testBit_div] at t
      rw [if_pos (by omega)]; exact key _ _ t
    · rw [if_neg h2, testBit_div, testBit_div] at t
      rw [if_neg (by omega)]; exact key _ _ t

theorem and_one (v : Nat) : v &&& 1 = v % 2 := Nat.and_one_is_mod v

theorem mul_over {a b : Nat} (h0 : a ≠ 0) (h : 18446744073709551616 ≤ a * b) : a * b % 18446744073709551616 / a ≠ b := by
  have h1 : a * b % 18446744073709551616 < b * a := by
    have := Nat.mod_lt (a * b) (by decide : 0 < 18446744073709551616)
    rw [Nat.mul_comm b a]; omega
  have := (Nat.div_lt_iff_lt_mul (Nat.pos_of_ne_zero h0)).2 h1
  omega

theorem mul_ref {a b : Nat} (h0 : 0 < a) : (18446744073709551615 / a < b) ↔ 18446744073709551616 ≤ a * b := by
  rw [Nat.div_lt_iff_lt_mul h0, Nat.mul_comm b a]; omega

end Go.Proofs.YtpmiidpbngbclaaGreatDoor.Wd
