/-
  Pins, plain: a row of addresses in order, each as often as it is pinned; each once. No program in sight.
-/
import Derived.Test.YtapmbignpdkfbaaSortP
namespace Go.Proofs.Ytapmbignpdkfbaa
set_option linter.unusedVariables false

/-- A row in order with one more. -/
def insL : List Nat → Nat → List Nat
  | [], a => [a]
  | x :: xs, a => if x < a then x :: insL xs a else a :: x :: xs

/-- A row without neighbours that are alike. -/
def onceL' : Option Nat → List Nat → List Nat
  | _, [] => []
  | p, x :: xs => if p = some x then onceL' (some x) xs else x :: onceL' (some x) xs

def onceU (xs : List Nat) : List Nat := onceL' none xs

theorem insL_count (xs : List Nat) (a x : Nat) : (insL xs a).count x = if x = a then xs.count x + 1 else xs.count x := by
  induction xs with
  | nil =>
    unfold insL
    by_cases h : x = a
    · subst h; simp
    · rw [if_neg h]; simp [Ne.symm h]
  | cons y ys ih =>
    unfold insL
    split
    · rw [List.count_cons, ih, List.count_cons]
      split <;> split <;> omega
    · by_cases h : x = a
      · subst h; simp
      · rw [if_neg h, List.count_cons (b := a)]
        have : (a == x) = false := by simp; omega
        simp [this]

theorem insL_len (xs : List Nat) (a : Nat) : (insL xs a).length = xs.length + 1 := by
  induction xs with
  | nil => rfl
  | cons y ys ih =>
    unfold insL
    split
    · simp [ih]
    · simp

theorem insL_mem (xs : List Nat) (a x : Nat) : x ∈ insL xs a ↔ x = a ∨ x ∈ xs := by
  rw [← List.count_pos_iff, insL_count, ← List.count_pos_iff]
  split <;> omega

theorem insL_sorted {xs : List Nat} (h : xs.Pairwise (· ≤ ·)) (a : Nat) : (insL xs a).Pairwise (· ≤ ·) := by
  induction xs with
  | nil => simp [insL]
  | cons y ys ih =>
    obtain ⟨h1, h2⟩ := List.pairwise_cons.1 h
    unfold insL
    split
    · refine List.pairwise_cons.2 ⟨fun z hz => ?_, ih h2⟩
      rcases (insL_mem _ _ _).1 hz with rfl | hz
      · omega
      · exact h1 z hz
    · refine List.pairwise_cons.2 ⟨fun z hz => ?_, h⟩
      rcases List.mem_cons.1 hz with rfl | hz
      · omega
      · have := h1 z hz; omega

/-- The place at which it is put. -/
theorem insL_at {xs : List Nat} (h : xs.Pairwise (· ≤ ·)) (a i : Nat) (hi : i ≤ xs.length) (h1 : ∀ k, k < i → xs.getD k 0 < a) (h2 : i < xs.length → ¬ xs.getD i 0 < a) : insL xs a = xs.take i ++ a :: xs.drop i := by
  induction xs generalizing i with
  | nil => simp [insL]
  | cons y ys ih =>
    unfold insL
    cases i with
    | zero =>
      have := h2 (by simp)
      simp at this
      rw [if_neg (by omega)]
      simp
    | succ i =>
      have h3 := h1 0 (by omega)
      simp at h3
      rw [if_pos h3, ih (List.pairwise_cons.1 h).2 i (by simpa using hi) (fun k hk => by simpa using h1 (k + 1) (by omega)) (fun hk => by simpa using h2 (by simpa using hk))]
      simp

theorem erase_at (xs : List Nat) (a i : Nat) (hi : i < xs.length) (h1 : ∀ k, k < i → xs.getD k 0 ≠ a) (h2 : xs.getD i 0 = a) : xs.erase a = xs.take i ++ xs.drop (i + 1) := by
  induction xs generalizing i with
  | nil => simp at hi
  | cons y ys ih =>
    cases i with
    | zero =>
      simp at h2
      subst h2
      simp
    | succ i =>
      have h3 := h1 0 (by omega)
      simp at h3
      rw [List.erase_cons_tail (by simpa using h3), ih i (by simpa using hi) (fun k hk => by simpa using h1 (k + 1) (by omega)) (by simpa using h2)]
      simp

theorem once_mem {xs : List Nat} (h : xs.Pairwise (· ≤ ·)) : ∀ p, (∀ q, p = some q → ∀ x ∈ xs, q ≤ x) → ∀ x, x ∈ onceL' p xs ↔ x ∈ xs ∧ p ≠ some x := by
  induction xs with
  | nil => intro p _ x; simp [onceL']
  | cons y ys ih =>
    intro p hp x
    obtain ⟨h1, h2⟩ := List.pairwise_cons.1 h
    have ih' := ih h2 (some y) (fun q hq z hz => by injection hq with hq; subst hq; exact h1 z hz) x
    unfold onceL'
    split
    · rename_i e
      rw [ih', e]
      constructor
      · rintro ⟨a, b⟩
        exact ⟨List.mem_cons_of_mem _ a, b⟩
      · rintro ⟨a, b⟩
        rcases List.mem_cons.1 a with rfl | a
        · exact absurd rfl b
        · exact ⟨a, b⟩
    · rename_i e
      rw [List.mem_cons, ih', List.mem_cons]
      constructor
      · rintro (rfl | ⟨a, b⟩)
        · exact ⟨.inl rfl, e⟩
        · refine ⟨.inr a, fun hx => ?_⟩
          have h3 := hp x hx y List.mem_cons_self
          have h4 := h1 x a
          have : x = y := by omega
          subst this
          exact b rfl
      · rintro ⟨rfl | a, b⟩
        · exact .inl rfl
        · by_cases hxy : x = y
          · exact .inl hxy
          · exact .inr ⟨a, fun hh => by injection hh with hh; exact hxy hh.symm⟩

theorem once_rise {xs : List Nat} (h : xs.Pairwise (· ≤ ·)) : ∀ p, (∀ q, p = some q → ∀ x ∈ xs, q ≤ x) → (onceL' p xs).Pairwise (· < ·) ∧ ∀ q, p = some q → ∀ x ∈ onceL' p xs, q < x := by
  induction xs with
  | nil => intro p _; simp [onceL']
  | cons y ys ih =>
    intro p hp
    obtain ⟨h1, h2⟩ := List.pairwise_cons.1 h
    obtain ⟨i1, i2⟩ := ih h2 (some y) (fun q hq z hz => by injection hq with hq; subst hq; exact h1 z hz)
    unfold onceL'
    split
    · rename_i e
      exact ⟨i1, fun q hq x hx => by rw [e] at hq; exact i2 q hq x hx⟩
    · rename_i e
      refine ⟨List.pairwise_cons.2 ⟨fun z hz => i2 y rfl z hz, i1⟩, fun q hq x hx => ?_⟩
      have h3 := hp q hq y List.mem_cons_self
      have h4 : q ≠ y := fun hh => e (by rw [hq, hh])
      rcases List.mem_cons.1 hx with rfl | hx
      · omega
      · have := i2 y rfl x hx; omega

theorem onceU_mem {xs : List Nat} (h : xs.Pairwise (· ≤ ·)) (x : Nat) : x ∈ onceU xs ↔ x ∈ xs := by
  have := once_mem h none (fun q hq => by cases hq) x
  unfold onceU
  rw [this]
  simp

theorem onceU_rise {xs : List Nat} (h : xs.Pairwise (· ≤ ·)) : (onceU xs).Pairwise (· < ·) := (once_rise h none (fun q hq => by cases hq)).1

theorem onceU_len (xs : List Nat) : (onceU xs).length ≤ xs.length := by
  have : ∀ p, (onceL' p xs).length ≤ xs.length := by
    induction xs with
    | nil => intro p; simp [onceL']
    | cons y ys ih =>
      intro p
      unfold onceL'
      split
      · have := ih (some y); simp; omega
      · have := ih (some y); simp; omega
  exact this none

/-- Two rows that rise and have the same numbers are one. -/
theorem riseU_uniq : ∀ {xs ys : List Nat}, xs.Pairwise (· < ·) → ys.Pairwise (· < ·) → (∀ x, x ∈ xs ↔ x ∈ ys) → xs = ys
  | [], [], _, _, _ => rfl
  | [], y :: ys, _, _, h => absurd ((h y).2 (by simp)) (by simp)
  | x :: xs, [], _, _, h => absurd ((h x).1 (by simp)) (by simp)
  | x :: xs, y :: ys, hx, hy, h => by
    obtain ⟨x1, x2⟩ := List.pairwise_cons.1 hx
    obtain ⟨y1, y2⟩ := List.pairwise_cons.1 hy
    have e : x = y := by
      have a := (h x).1 (by simp)
      have b := (h y).2 (by simp)
      rcases List.mem_cons.1 a with a | a
      · exact a
      · rcases List.mem_cons.1 b with b | b
        · exact b.symm
        · have := x1 y b
          have := y1 x a
          omega
    subst e
    rw [riseU_uniq x2 y2 fun z => ?_]
    constructor
    · intro hz
      rcases List.mem_cons.1 ((h z).1 (List.mem_cons_of_mem _ hz)) with a | a
      · subst a; have := x1 z hz; omega
      · exact a
    · intro hz
      rcases List.mem_cons.1 ((h z).2 (List.mem_cons_of_mem _ hz)) with a | a
      · subst a; have := y1 z hz; omega
      · exact a

theorem sum_zero (ks : List Nat) : (ks.map fun a => ([] : List Nat).count a).sum = 0 := by
  induction ks with
  | nil => rfl
  | cons k ks ih => simpa using ih

/-- Sums over each once are the whole. -/
theorem sum_once {xs : List Nat} (h : xs.Pairwise (· ≤ ·)) : ((onceU xs).map fun a => xs.count a).sum = xs.length := by
  have gen : ∀ (ks : List Nat), ks.Nodup → ∀ (ys : List Nat), (∀ y ∈ ys, y ∈ ks) → (ks.map fun a => ys.count a).sum = ys.length := by
    intro ks hk ys
    induction ys with
    | nil => intro _; exact sum_zero ks
    | cons y ys ih =>
      intro hm
      have h1 := ih (fun z hz => hm z (List.mem_cons_of_mem _ hz))
      have h2 : ∀ (ks : List Nat), ks.Nodup → (ks.map fun a => (y :: ys).count a).sum = (ks.map fun a => ys.count a).sum + ks.count y := by
        intro ks
        induction ks with
        | nil => intro _; simp
        | cons k ks ihk =>
          intro hn
          obtain ⟨n1, n2⟩ := List.nodup_cons.1 hn
          have e0 := ihk n2
          simp only [List.map_cons, List.sum_cons]
          rw [e0, List.count_cons (l := ys), List.count_cons (l := ks)]
          by_cases e : y = k
          · subst e; simp; omega
          · have e1 : (y == k) = false := by simp [e]
            have e2 : (k == y) = false := by simp; omega
            simp [e1, e2]; omega
      rw [h2 ks hk, h1, List.length_cons]
      have : ks.count y = 1 := by
        have h3 := List.count_pos_iff.2 (hm y List.mem_cons_self)
        have h4 := List.nodup_iff_count.1 hk y
        omega
      omega
  exact gen _ ((onceU_rise h).imp fun h => by omega) xs fun y hy => (onceU_mem h y).2 hy

theorem nodup_sub_len : ∀ {xs ys : List Nat}, xs.Nodup → (∀ x ∈ xs, x ∈ ys) → xs.length ≤ ys.length
  | [], ys, _, _ => by simp
  | x :: xs, ys, h, hs => by
    obtain ⟨h1, h2⟩ := List.nodup_cons.1 h
    have h3 := nodup_sub_len (xs := xs) (ys := ys.erase x) h2 fun z hz => by
      have h4 := hs z (List.mem_cons_of_mem _ hz)
      exact (List.mem_erase_of_ne fun e => h1 (by rw [← e]; exact hz)).2 h4
    rw [List.length_erase_of_mem (hs x List.mem_cons_self)] at h3
    have := List.length_pos_of_mem (hs x List.mem_cons_self)
    simp
    omega

end Go.Proofs.Ytapmbignpdkfbaa
