/-
  Plain facts on rows of bits: counting, the next one, the one ahead, the runs. No program in sight.
-/
import Derived.Test.YtpjcgjbobljaeaaBitsAt
namespace Go.Proofs.Ytpjcgjbobljaeaa
set_option linter.unusedVariables false

/-- How many of n bits from a on are set. -/
def cntB (g : Nat → Bool) (a : Nat) : Nat → Nat
  | 0 => 0
  | n + 1 => cntB g a n + (if g (a + n) then 1 else 0)

theorem cntB_congr {g h : Nat → Bool} {a : Nat} : ∀ (n : Nat), (∀ t, a ≤ t → t < a + n → g t = h t) → cntB g a n = cntB h a n
  | 0, _ => rfl
  | n + 1, e => by
    simp only [cntB]
    rw [cntB_congr n (fun t h1 h2 => e t h1 (by omega)), e (a + n) (by omega) (by omega)]

theorem cntB_add (g : Nat → Bool) (a m : Nat) : ∀ (n : Nat), cntB g a (m + n) = cntB g a m + cntB g (a + m) n
  | 0 => by simp [cntB]
  | n + 1 => by
    rw [← Nat.add_assoc]
    simp only [cntB]
    rw [cntB_add g a m n, show a + (m + n) = a + m + n by omega]; omega

theorem cntB_zero {g : Nat → Bool} {a : Nat} : ∀ (n : Nat), (∀ t, a ≤ t → t < a + n → g t = false) → cntB g a n = 0
  | 0, _ => rfl
  | n + 1, e => by
    simp only [cntB]
    rw [cntB_zero n (fun t h1 h2 => e t h1 (by omega)), e (a + n) (by omega) (by omega)]; rfl

theorem cntB_all {g : Nat → Bool} {a : Nat} : ∀ (n : Nat), (∀ t, a ≤ t → t < a + n → g t = true) → cntB g a n = n
  | 0, _ => rfl
  | n + 1, e => by
    simp only [cntB]
    rw [cntB_all n (fun t h1 h2 => e t h1 (by omega)), e (a + n) (by omega) (by omega)]; rfl

theorem cntB_le (g : Nat → Bool) (a : Nat) : ∀ (n : Nat), cntB g a n ≤ n
  | 0 => Nat.le_refl _
  | n + 1 => by have := cntB_le g a n; simp only [cntB]; split <;> omega

theorem cntB_shift {g h : Nat → Bool} {a b : Nat} : ∀ (n : Nat), (∀ t, t < n → g (a + t) = h (b + t)) → cntB g a n = cntB h b n
  | 0, _ => rfl
  | n + 1, e => by
    simp only [cntB]
    rw [cntB_shift n (fun t h1 => e t (by omega)), e n (by omega)]

theorem onesF_cnt (v : Nat) : ∀ (k : Nat), Wd.onesF k v = cntB v.testBit 0 k
  | 0 => rfl
  | k + 1 => by
    rw [Wd.onesF_last, onesF_cnt v k]
    simp only [cntB, Nat.zero_add]
    have h := Wd.testBit_div v k
    rcases Nat.mod_two_eq_zero_or_one (v / 2 ^ k) with e | e <;> rw [e] at h ⊢ <;> rw [h] <;> simp

theorem ones_piece (v b c : Nat) (h : b + c ≤ 64) : Wd.ones (v &&& pmk b c) = cntB v.testBit b c := by
  unfold Wd.ones
  rw [onesF_cnt, show (64 : Nat) = b + (c + (64 - b - c)) by omega, cntB_add, cntB_add]
  have key : ∀ t, (v &&& pmk b c).testBit t = (v.testBit t && decide (b ≤ t ∧ t < b + c)) := fun t => by rw [Nat.testBit_and, testBit_pmask]
  rw [cntB_zero b (fun t h1 h2 => by rw [key]; simp; omega), cntB_zero (64 - b - c) (fun t h1 h2 => by rw [key]; simp; omega)]
  rw [Nat.zero_add, Nat.zero_add, Nat.add_zero]
  exact cntB_congr c (fun t h1 h2 => by rw [key]; simp; omega)

/-- The least one from i on, below n. -/
def nextF (g : Nat → Bool) : Nat → Nat → Option Nat
  | 0, _ => none
  | f + 1, i => if g i then some i else nextF g f (i + 1)
def nextB (g : Nat → Bool) (n i : Nat) : Option Nat := nextF g (n - i) i

theorem nextF_some {g : Nat → Bool} : ∀ (f i j : Nat), i ≤ j → j < i + f → g j = true → (∀ t, i ≤ t → t < j → g t = false) → nextF g f i = some j
  | 0, i, j, h1, h2, _, _ => by omega
  | f + 1, i, j, h1, h2, h3, h4 => by
    simp only [nextF]
    by_cases e : i = j
    · subst e; rw [if_pos h3]
    · rw [h4 i (Nat.le_refl _) (by omega)]; simp only [Bool.false_eq_true, if_false]
      exact nextF_some f (i + 1) j (by omega) (by omega) h3 (fun t ht => h4 t (by omega))

theorem nextF_none {g : Nat → Bool} : ∀ (f i : Nat), (∀ t, i ≤ t → t < i + f → g t = false) → nextF g f i = none
  | 0, i, _ => rfl
  | f + 1, i, h => by
    simp only [nextF]
    rw [h i (Nat.le_refl _) (by omega)]; simp only [Bool.false_eq_true, if_false]
    exact nextF_none f (i + 1) (fun t h1 h2 => h t (by omega) (by omega))

theorem nextF_spec {g : Nat → Bool} : ∀ (f i : Nat), (∃ j, nextF g f i = some j ∧ i ≤ j ∧ j < i + f ∧ g j = true ∧ ∀ t, i ≤ t → t < j → g t = false) ∨ (nextF g f i = none ∧ ∀ t, i ≤ t → t < i + f → g t = false)
  | 0, i => .inr ⟨rfl, fun t h1 h2 => by omega⟩
  | f + 1, i => by
    simp only [nextF]
    by_cases e : g i = true
    · rw [if_pos e]; exact .inl ⟨i, rfl, Nat.le_refl _, by omega, e, fun t h1 h2 => by omega⟩
    · rw [if_neg e]
      have e' : g i = false := by simpa using e
      rcases nextF_spec f (i + 1) (g := g) with ⟨j, h1, h2, h3, h4, h5⟩ | ⟨h1, h2⟩
      · exact .inl ⟨j, h1, by omega, by omega, h4, fun t a b => by by_cases k : t = i; subst k; exact e'; exact h5 t (by omega) b⟩
      · exact .inr ⟨h1, fun t a b => by by_cases k : t = i; subst k; exact e'; exact h2 t (by omega) (by omega)⟩

theorem nextB_some {g : Nat → Bool} {n i j : Nat} (h1 : i ≤ j) (h2 : j < n) (h3 : g j = true) (h4 : ∀ t, i ≤ t → t < j → g t = false) : nextB g n i = some j :=
  nextF_some (n - i) i j h1 (by omega) h3 h4

theorem nextB_none {g : Nat → Bool} {n i : Nat} (h : ∀ t, i ≤ t → t < n → g t = false) : nextB g n i = none :=
  nextF_none (n - i) i (fun t h1 h2 => h t h1 (by omega))

theorem nextB_spec (g : Nat → Bool) (n i : Nat) : (∃ j, nextB g n i = some j ∧ i ≤ j ∧ j < n ∧ g j = true ∧ ∀ t, i ≤ t → t < j → g t = false) ∨ (nextB g n i = none ∧ ∀ t, i ≤ t → t < n → g t = false) := by
  rcases nextF_spec (n - i) i (g := g) with ⟨j, h1, h2, h3, h4, h5⟩ | ⟨h1, h2⟩
  · exact .inl ⟨j, h1, h2, by omega, h4, h5⟩
  · exact .inr ⟨h1, fun t a b => h2 t a (by omega)⟩

theorem nextB_congr {g h : Nat → Bool} {n : Nat} (e : ∀ t, t < n → g t = h t) (i : Nat) : nextB g n i = nextB h n i := by
  rcases nextB_spec h n i with ⟨j, h1, h2, h3, h4, h5⟩ | ⟨h1, h2⟩
  · rw [h1]; exact nextB_some h2 h3 (by rw [e j h3]; exact h4) (fun t a b => by rw [e t (by omega)]; exact h5 t a b)
  · rw [h1]; exact nextB_none (fun t a b => by rw [e t b]; exact h2 t a b)

/-- The greatest one below i. -/
def prevB (g : Nat → Bool) : Nat → Option Nat
  | 0 => none
  | i + 1 => if g i then some i else prevB g i

theorem prevB_some {g : Nat → Bool} : ∀ {i j : Nat}, j < i → g j = true → (∀ t, j < t → t < i → g t = false) → prevB g i = some j
  | 0, j, h, _, _ => by omega
  | i + 1, j, h1, h2, h3 => by
    simp only [prevB]
    by_cases e : i = j
    · subst e; rw [if_pos h2]
    · rw [h3 i (by omega) (by omega)]; simp only [Bool.false_eq_true, if_false]
      exact prevB_some (by omega) h2 (fun t a b => h3 t a (by omega))

theorem prevB_none {g : Nat → Bool} : ∀ {i : Nat}, (∀ t, t < i → g t = false) → prevB g i = none
  | 0, _ => rfl
  | i + 1, h => by
    simp only [prevB]
    rw [h i (by omega)]; simp only [Bool.false_eq_true, if_false]
    exact prevB_none (fun t a => h t (by omega))

theorem prevB_skip {g : Nat → Bool} {a : Nat} : ∀ {b : Nat}, a ≤ b → (∀ t, a ≤ t → t < b → g t = false) → prevB g b = prevB g a
  | 0, h, _ => by have : a = 0 := by omega
                  rw [this]
  | b + 1, h, e => by
    by_cases k : a = b + 1
    · rw [k]
    · simp only [prevB]
      rw [e b (by omega) (by omega)]; simp only [Bool.false_eq_true, if_false]
      exact prevB_skip (by omega) (fun t x y => e t x (by omega))

theorem prevB_spec (g : Nat → Bool) : ∀ (i : Nat), (∃ j, prevB g i = some j ∧ j < i ∧ g j = true ∧ ∀ t, j < t → t < i → g t = false) ∨ (prevB g i = none ∧ ∀ t, t < i → g t = false)
  | 0 => .inr ⟨rfl, fun t h => by omega⟩
  | i + 1 => by
    simp only [prevB]
    by_cases e : g i = true
    · rw [if_pos e]; exact .inl ⟨i, rfl, by omega, e, fun t a b => by omega⟩
    · rw [if_neg e]
      have e' : g i = false := by simpa using e
      rcases prevB_spec g i with ⟨j, h1, h2, h3, h4⟩ | ⟨h1, h2⟩
      · exact .inl ⟨j, h1, by omega, h3, fun t a b => by by_cases k : t = i; subst k; exact e'; exact h4 t a (by omega)⟩
      · exact .inr ⟨h1, fun t a => by by_cases k : t = i; subst k; exact e'; exact h2 t (by omega)⟩

/-- All runs from i on: f is fuel. -/
def runsF (g : Nat → Bool) (n : Nat) : Nat → Nat → List (Nat × Nat)
  | 0, _ => []
  | f + 1, i => match nextB g n i with
    | none => []
    | some a => let e := (nextB (fun t => !g t) n a).getD n; (a, e - a) :: runsF g n f e
def runsB (g : Nat → Bool) (n : Nat) : List (Nat × Nat) := runsF g n (n + 1) 0

end Go.Proofs.Ytpjcgjbobljaeaa
