/-
  The document's Runs, walked: the runs of a growing beginning.
-/
import Derived.Test.YtpjcgjbobljaeaaBitsRunsWalk
import Derived.Test.YtpjcgjbobljaeaaBitsRefAsk
namespace Go.Proofs.Ytpjcgjbobljaeaa
open Go.RowKit
set_option linter.unusedVariables false

/-- l is the runs of f between c and n. -/
inductive RunsOf (f : Nat → Bool) (n : Nat) : Nat → List (Nat × Nat) → Prop
  | nil (c : Nat) : (∀ t, c ≤ t → t < n → f t = false) → RunsOf f n c []
  | cons (c a k : Nat) (l : List (Nat × Nat)) : c ≤ a → 0 < k → a + k ≤ n → (∀ t, c ≤ t → t < a → f t = false) → (∀ t, a ≤ t → t < a + k → f t = true) → (a + k < n → f (a + k) = false) → RunsOf f n (a + k) l → RunsOf f n c ((a, k) :: l)

theorem RunsOf.unique {f : Nat → Bool} {n c : Nat} {l : List (Nat × Nat)} (h : RunsOf f n c l) : ∀ {m : List (Nat × Nat)}, RunsOf f n c m → l = m := by
  induction h with
  | nil c h => intro m hm; cases hm with
    | nil => rfl
    | cons _ a k l' h1 h2 h3 h4 h5 h6 h7 => have := h a h1 (by omega); rw [h5 a (Nat.le_refl _) (by omega)] at this; cases this
  | cons c a k l h1 h2 h3 h4 h5 h6 h7 ih => intro m hm; cases hm with
    | nil _ h => have := h a h1 (by omega); rw [h5 a (Nat.le_refl _) (by omega)] at this; cases this
    | cons _ a' k' l' g1 g2 g3 g4 g5 g6 g7 =>
      have ha : a = a' := by
        rcases Nat.lt_trichotomy a a' with e | e | e
        · have := g4 a h1 e; rw [h5 a (Nat.le_refl _) (by omega)] at this; cases this
        · exact e
        · have := h4 a' g1 e; rw [g5 a' (Nat.le_refl _) (by omega)] at this; cases this
      subst ha
      have hk : k = k' := by
        rcases Nat.lt_trichotomy k k' with e | e | e
        · have := h6 (by omega); rw [g5 (a + k) (by omega) (by omega)] at this; cases this
        · exact e
        · have := g6 (by omega); rw [h5 (a + k') (by omega) (by omega)] at this; cases this
      subst hk
      rw [ih g7]

theorem runsF_of {f : Nat → Bool} {n : Nat} : ∀ (F c : Nat), c ≤ n → n + 1 ≤ F + c → RunsOf f n c (runsF f n F c)
  | 0, c, h, hF => by omega
  | F + 1, c, h, hF => by
    rcases nextB_spec f n c with ⟨a, ha, a1, a2, a3, a4⟩ | ⟨ha, h2⟩
    · obtain ⟨e, he⟩ : ∃ e, (nextB (fun t => !f t) n a).getD n = e := ⟨_, rfl⟩
      rw [runsF_some ha he]
      have key : a < e ∧ e ≤ n ∧ (∀ t, a ≤ t → t < e → f t = true) ∧ (e < n → f e = false) := by
        rcases nextB_spec (fun t => !f t) n a with ⟨j, h1, h2, h3, h4, h5⟩ | ⟨h1, h5⟩
        · rw [h1] at he
          obtain rfl : j = e := he
          have hne : j ≠ a := fun e => by rw [e, a3] at h4; simp at h4
          exact ⟨by omega, by omega, fun t u v => by simpa using h5 t u v, fun _ => by simpa using h4⟩
        · rw [h1] at he
          obtain rfl : n = e := he
          exact ⟨a2, Nat.le_refl _, fun t u v => by simpa using h5 t u v, fun h => by omega⟩
      obtain ⟨k1, k2, k3, k4⟩ := key
      obtain ⟨k, rfl⟩ : ∃ k, e = a + k := ⟨e - a, by omega⟩
      rw [Nat.add_sub_cancel_left]
      exact .cons c a k _ a1 (by omega) k2 a4 k3 k4 (runsF_of F (a + k) k2 (by omega))
    · rw [runsF_none ha]; exact .nil c h2

theorem RunsOf.skip {f : Nat → Bool} {n c : Nat} {l : List (Nat × Nat)} (h : RunsOf f n c l) (hn : f n = false) : RunsOf f (n + 1) c l := by
  induction h with
  | nil c h => exact .nil c (fun t a b => by by_cases e : t = n; rw [e]; exact hn; exact h t a (by omega))
  | cons c a k l h1 h2 h3 h4 h5 h6 h7 ih => exact .cons c a k l h1 h2 (by omega) h4 h5 (fun h => by by_cases e : a + k = n; rw [e]; exact hn; exact h6 (by omega)) ih

theorem RunsOf.push {f : Nat → Bool} {n c : Nat} {l : List (Nat × Nat)} (h : RunsOf f n c l) (hn : f n = true) (hc : c ≤ n) (hp : c = n ∨ f (n - 1) = false) : RunsOf f (n + 1) c (l ++ [(n, 1)]) := by
  induction h with
  | nil c h => exact .cons c n 1 [] hc (by omega) (by omega) h (fun t a b => by rw [show t = n by omega]; exact hn) (fun h => by omega) (.nil _ (fun t a b => by omega))
  | cons c a k l h1 h2 h3 h4 h5 h6 h7 ih =>
    have hf : f (n - 1) = false := by
      rcases hp with e | e
      · omega
      · exact e
    have hak : a + k < n := by
      rcases Nat.lt_or_ge (a + k) n with e | e
      · exact e
      · have := h5 (n - 1) (by omega) (by omega); rw [hf] at this; cases this
    exact .cons c a k _ h1 h2 (by omega) h4 h5 (fun _ => h6 hak) (ih (by omega) (.inr hf))

theorem RunsOf.bump {f : Nat → Bool} {n c : Nat} {l : List (Nat × Nat)} (h : RunsOf f n c l) (hn : f n = true) (hp : f (n - 1) = true) (hc : c < n) : ∃ pre a k, l = pre ++ [(a, k)] ∧ a + k = n ∧ RunsOf f (n + 1) c (pre ++ [(a, k + 1)]) := by
  induction h with
  | nil c h => have := h (n - 1) (by omega) (by omega); rw [hp] at this; cases this
  | cons c a k l h1 h2 h3 h4 h5 h6 h7 ih =>
    by_cases e : a + k = n
    · have hl : l = [] := by
        cases h7 with
        | nil => rfl
        | cons _ a' k' l' g1 g2 g3 _ _ _ _ => omega
      subst hl
      refine ⟨[], a, k, rfl, e, .cons c a (k + 1) [] h1 (by omega) (by omega) h4 (fun t u v => ?_) (fun h => by omega) (.nil _ (fun t a b => by omega))⟩
      by_cases e' : t = n
      · rw [e']; exact hn
      · exact h5 t u (by omega)
    · obtain ⟨pre, a', k', rfl, g1, g2⟩ := ih (by omega)
      exact ⟨(a, k) :: pre, a', k', rfl, g1, .cons c a k _ h1 h2 (by omega) h4 h5 (fun _ => h6 (by omega)) g2⟩

theorem RunsOf.len {f : Nat → Bool} {n c : Nat} {l : List (Nat × Nat)} (h : RunsOf f n c l) (hc : c ≤ n) : l.length + c ≤ n := by
  induction h with
  | nil c h => simpa using hc
  | cons c a k l h1 h2 h3 h4 h5 h6 h7 ih => have := ih h3; simp only [List.length_cons]; omega

end Go.Proofs.Ytpjcgjbobljaeaa
