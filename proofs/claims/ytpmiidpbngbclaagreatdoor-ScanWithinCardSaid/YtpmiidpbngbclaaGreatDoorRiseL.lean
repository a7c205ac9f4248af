/-
  A row put in order, each number once: the plain law. No program in sight.
-/
import Derived.Lib.SlicesCompact
namespace Go.Proofs.YtpmiidpbngbclaaGreatDoor
open Go.Lib

theorem compactUpTo_sorted (s : Array Int) (hs : ∀ a b, a ≤ b → b < s.size → s[a]! ≤ s[b]!) : ∀ m, m ≤ s.size →
    (compactUpTo s m).Pairwise (· < ·) ∧ (∀ x ∈ compactUpTo s m, ∃ j, j < m ∧ s[j]! = x) ∧ (∀ j, j < m → s[j]! ∈ compactUpTo s m)
  | 0, _ => ⟨by simp [compactUpTo], by simp [compactUpTo], fun j hj => by omega⟩
  | m + 1, hm => by
    obtain ⟨h1, h2, h3⟩ := compactUpTo_sorted s hs m (by omega)
    rw [compactUpTo_succ]
    cases hk : keeps s m with
    | false =>
      simp only [Bool.false_eq_true, if_false, List.append_nil]
      refine ⟨h1, fun x hx => ?_, fun j hj => ?_⟩
      · obtain ⟨j, a, b⟩ := h2 x hx
        exact ⟨j, by omega, b⟩
      · by_cases e : j = m
        · subst e
          have : ¬ (j = 0 ∨ s[j]! ≠ s[j - 1]!) := by simpa [keeps] using hk
          have h0 : ¬ j = 0 := fun h => this (.inl h)
          have he : s[j]! = s[j - 1]! := by
            by_cases h : s[j]! = s[j - 1]!
            · exact h
            · exact absurd (.inr h) this
          rw [he]
          exact h3 _ (by omega)
        · exact h3 j (by omega)
    | true =>
      simp only [if_true]
      refine ⟨?_, fun x hx => ?_, fun j hj => ?_⟩
      · rw [List.pairwise_append]
        refine ⟨h1, by simp, fun x hx y hy => ?_⟩
        simp at hy
        subst hy
        obtain ⟨j, a, b⟩ := h2 x hx
        have hk' : m = 0 ∨ s[m]! ≠ s[m - 1]! := by simpa [keeps] using hk
        have h0 : ¬ m = 0 := by omega
        have hne : s[m]! ≠ s[m - 1]! := by rcases hk' with h | h; exact absurd h h0; exact h
        have e1 := hs j (m - 1) (by omega) (by omega)
        have e2 := hs (m - 1) m (by omega) (by omega)
        omega
      · rcases List.mem_append.1 hx with h | h
        · obtain ⟨j, a, b⟩ := h2 x h
          exact ⟨j, by omega, b⟩
        · simp at h
          exact ⟨m, by omega, h.symm⟩
      · by_cases e : j = m
        · subst e; simp
        · exact List.mem_append_left _ (h3 j (by omega))

/-- A row in order, each once. -/
def riseL (zs : List Int) : List Int := compact (zs.mergeSort fun x y => decide (x ≤ y))

theorem riseL_spec (zs : List Int) : (riseL zs).Pairwise (· < ·) ∧ ∀ x, x ∈ riseL zs ↔ x ∈ zs := by
  have hp := List.pairwise_mergeSort (le := fun x y : Int => decide (x ≤ y)) (fun a b c => by simp; omega) (fun a b => by simp; omega) zs
  have hperm := List.mergeSort_perm zs (fun x y : Int => decide (x ≤ y))
  unfold riseL
  obtain ⟨s, hs⟩ : ∃ s, zs.mergeSort (fun x y => decide (x ≤ y)) = s := ⟨_, rfl⟩
  rw [hs] at hp hperm ⊢
  have hm : ∀ a b, a ≤ b → b < s.toArray.size → s.toArray[a]! ≤ s.toArray[b]! := fun a b hab hb => by
    have hb' : b < s.length := by simpa using hb
    rw [getElem!_pos s.toArray a (by simp; omega), getElem!_pos s.toArray b hb]
    by_cases e : a = b
    · subst e; exact Int.le_refl _
    · have := List.pairwise_iff_getElem.1 hp a b (by omega) hb' (by omega)
      simpa using this
  obtain ⟨h1, h2, h3⟩ := compactUpTo_sorted s.toArray hm s.length (by simp)
  refine ⟨h1, fun x => ?_⟩
  rw [← hperm.mem_iff]
  constructor
  · intro hx
    obtain ⟨j, a, b⟩ := h2 x hx
    rw [getElem!_pos s.toArray j (by simpa using a)] at b
    rw [← b]
    simp
  · intro hx
    obtain ⟨j, a, b⟩ := List.getElem_of_mem hx
    have := h3 j a
    rw [getElem!_pos s.toArray j (by simpa using a)] at this
    rw [← b]
    exact this

/-- Two rows that rise and have the same numbers are one. -/
theorem rise_uniq : ∀ {xs ys : List Int}, xs.Pairwise (· < ·) → ys.Pairwise (· < ·) → (∀ x, x ∈ xs ↔ x ∈ ys) → xs = ys
  | [], [], _, _, _ => rfl
  | [], y :: ys, _, _, h => absurd ((h y).2 (by simp)) (by simp)
  | x :: xs, [], _, _, h => absurd ((h x).1 (by simp)) (by simp)
  | x :: xs, y :: ys, hx, hy, h => by
    obtain ⟨x1, x2⟩ := List.pairwise_cons.1 hx
    obtain ⟨y1, y2⟩ := List.pairwise_cons.1 hy
    have e : x = y := by
      have a := (h x).1 (by simp)
      have b := (h y).2 (by simp)
      rcases List.mem_cons.1 a with a | a
      · exact a
      · rcases List.mem_cons.1 b with b | b
        · exact b.symm
        · have := x1 y b
          have := y1 x a
          omega
    subst e
    rw [rise_uniq x2 y2 fun z => ?_]
    constructor
    · intro hz
      rcases List.mem_cons.1 ((h z).1 (List.mem_cons_of_mem _ hz)) with a | a
      · subst a; have := x1 z hz; omega
      · exact a
    · intro hz
      rcases List.mem_cons.1 ((h z).2 (List.mem_cons_of_mem _ hz)) with a | a
      · subst a; have := y1 z hz; omega
      · exact a

theorem riseL_of {zs ys : List Int} (hy : ys.Pairwise (· < ·)) (h : ∀ x, x ∈ ys ↔ x ∈ zs) : riseL zs = ys :=
  rise_uniq (riseL_spec zs).1 hy fun x => by rw [(riseL_spec zs).2, h]

theorem riseL_congr {zs ys : List Int} (h : ∀ x, x ∈ zs ↔ x ∈ ys) : riseL zs = riseL ys :=
  riseL_of (riseL_spec ys).1 fun x => by rw [(riseL_spec ys).2, h]

theorem riseL_nil : riseL [] = [] := riseL_of (by simp) (by simp)

theorem riseL_one (x : Int) : riseL [x] = [x] := riseL_of (by simp) (by simp)

theorem riseL_len (zs : List Int) : (riseL zs).length ≤ zs.length := by
  have h : (riseL zs).length ≤ (zs.mergeSort fun x y => decide (x ≤ y)).length := by
    unfold riseL compact compactUpTo
    rw [List.length_map]
    exact Nat.le_trans (List.length_filter_le _ _) (by simp)
  simpa using h

end Go.Proofs.YtpmiidpbngbclaaGreatDoor
