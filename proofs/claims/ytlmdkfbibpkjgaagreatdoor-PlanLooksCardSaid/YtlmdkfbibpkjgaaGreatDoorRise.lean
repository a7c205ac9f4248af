/-
 A row put in order, each number once: the plain law. No program in sight.
 A row of ints that the call owns, sorted and made one of each by the library's Sort and Compact (contracts of the shelf).
-/
import Derived.Lib.SlicesCompact
import Derived.Test.YtlmdkfbibpkjgaaGreatDoorInts
import Derived.Test.YtlmdkfbibpkjgaaGreatDoorLibA
import Derived.Test.YtlmdkfbibpkjgaaGreatDoorShelf
import Derived.Sort.OwnSortedInts
namespace Go.Proofs.YtlmdkfbibpkjgaaGreatDoor
open Go.Lib

theorem Eh (s : Array Int) (hs : ∀ a b, a <= b -> b < s.size -> s[a]! <= s[b]!) : ∀ m, m <= s.size ->
  (compactUpTo s m).Pairwise (· < ·) /\ (∀ x ∈ compactUpTo s m, ∃ j, j < m /\ s[j]! = x) /\ (∀ j, j < m -> s[j]! ∈ compactUpTo s m)
 | 0, _ => ⟨by simp [compactUpTo], by simp [compactUpTo], λ j hj => by omega⟩
 | m + 1, hm => by
  obtain ⟨h1, h2, h3⟩ := Eh s hs m (by omega)
  rw [compactUpTo_succ]
  cases hk : keeps s m with
  | false =>
   simp only [Bool.false_eq_true, if_false, List.append_nil]
   refine ⟨h1, λ x hx => ?_, λ j hj => ?_⟩
   ·obtain ⟨j, a, b⟩ := h2 x hx
    exact ⟨j, by omega, b⟩
   ·by_cases e : j = m
    ·subst e
     have : ¬ (j = 0 \/ s[j]! ≠ s[j - 1]!) := by simpa [keeps] using hk
     have h0 : ¬ j = 0 := λ h => this (.inl h)
     have he : s[j]! = s[j - 1]! := by
      by_cases h : s[j]! = s[j - 1]!
      ·exact h
      ·exact absurd (.inr h) this
     rw [he]
     exact h3 _ (by omega)
    ·exact h3 j (by omega)
  | true =>
   simp only [if_true]
   refine ⟨?_, λ x hx => ?_, λ j hj => ?_⟩
   ·rw [List.pairwise_append]
    refine ⟨h1, by simp, λ x hx y hy => ?_⟩
    simp at hy
    subst hy
    obtain ⟨j, a, b⟩ := h2 x hx
    have hk' : m = 0 \/ s[m]! ≠ s[m - 1]! := by simpa [keeps] using hk
    have h0 : ¬ m = 0 := by omega
    have hne : s[m]! ≠ s[m - 1]! := by rcases hk' with h | h; exact absurd h h0; exact h
    have e1 := hs j (m - 1) (by omega) (by omega)
    have e2 := hs (m - 1) m (by omega) (by omega)
    omega
   ·rcases List.mem_append.1 hx with h | h
    ·obtain ⟨j, a, b⟩ := h2 x h
     exact ⟨j, by omega, b⟩
    ·simp at h
     exact ⟨m, by omega, h.symm⟩
   ·by_cases e : j = m
    ·subst e; simp
    ·exact List.mem_append_left _ (h3 j (by omega))

def riseL (zs : List Int) : List Int := compact (zs.mergeSort λ x y => decide (x <= y))

theorem riseL_spec (zs : List Int) : (riseL zs).Pairwise (· < ·) /\ ∀ x, x ∈ riseL zs ↔ x ∈ zs := by
 have hp := List.pairwise_mergeSort (le := λ x y : Int => decide (x <= y)) (λ a b c => by simp; omega) (λ a b => by simp; omega) zs
 have hperm := List.mergeSort_perm zs (λ x y : Int => decide (x <= y))
 unfold riseL
 obtain ⟨s, hs⟩ : ∃ s, zs.mergeSort (λ x y => decide (x <= y)) = s := ⟨_, rfl⟩
 rw [hs] at hp hperm ⊢
 have hm : ∀ a b, a <= b -> b < s.toArray.size -> s.toArray[a]! <= s.toArray[b]! := λ a b hab hb => by
  have hb' : b < s.length := by simpa using hb
  rw [getElem!_pos s.toArray a (by simp; omega), getElem!_pos s.toArray b hb]
  by_cases e : a = b
  ·subst e; exact Int.le_refl _
  ·have := List.pairwise_iff_getElem.1 hp a b (by omega) hb' (by omega)
   simpa using this
 obtain ⟨h1, h2, h3⟩ := Eh s.toArray hm s.length (by simp)
 refine ⟨h1, λ x => ?_⟩
 rw [<- hperm.mem_iff]
 constructor
 ·intro hx
  obtain ⟨j, a, b⟩ := h2 x hx
  rw [getElem!_pos s.toArray j (by simpa using a)] at b
  rw [<- b]
  simp
 ·intro hx
  obtain ⟨j, a, b⟩ := List.getElem_of_mem hx
  have := h3 j a
  rw [getElem!_pos s.toArray j (by simpa using a)] at this
  rw [<- b]
  exact this

open Go.RowKit Go.Sort
set_option linter.unusedVariables false

theorem Keep.of_grownBy {w w' : World} {b : Nat} (h : w.grownBy w' (some b)) : Keep (λ k => k = b) w w' :=
 (Keep.refl (λ k => k = b) w).grown h (λ k e _ => by injection e with e; exact e.symm)

theorem Sort_row (base : Nat) (v : Value) (zs : List Int) (w : World) (ho : w.ownsRow base 3 1 v zs.length (intVs zs)) (hl : zs.length <= 4611686018427387903) :
  Calls Tryz.prog 67 #[v] w λ e w' => e = .returned (.tuple #[]) /\ w'.ownsRow base 3 1 v zs.length (intVs (zs.mergeSort λ x y => decide (x <= y))) /\ Keep (λ k => v.ownBlock = some k) w w' := by
 rcases ho.2 with ⟨rfl, h0⟩ | ⟨b, cap, cur, rfl, h2, h3, h4, h5, h6, h7⟩
 ·rw [h0]
  refine (Tryz.slices_Sort_int_none none 0 w).mono ?_
  rintro e w' ⟨rfl, rfl⟩
  obtain rfl : zs = [] := List.length_eq_zero_iff.1 h0
  exact ⟨rfl, ⟨by simp [intVs], .inl ⟨rfl, rfl⟩⟩, Keep.refl _ _⟩
 ·rw [Nat.mul_one] at h7
  refine (Tryz.slices_Sort_int b 0 cap zs w (holds_of_blockI h3 h7) (Array.getElem?_eq_some_iff.1 h3).1 (by omega)).mono ?_
  rintro e w' ⟨rfl, n, os, rfl⟩
  refine ⟨rfl, ownsRow_sortedI (by simp) h2 h3 h4 h5 h6, (Keep.of_grownBy (grownBy_sortedI _)).mono λ i _ h => by subst h; rfl⟩

theorem Compact_row (base : Nat) (v : Value) (zs : List Int) (w : World) (ho : w.ownsRow base 3 1 v zs.length (intVs zs)) (hl : zs.length <= 4611686018427387903) :
  Calls Tryz.prog 68 #[v] w λ e w' => ∃ v', e = .returned v' /\ w'.ownsRow base 3 1 v' (Lib.compact zs).length (intVs (Lib.compact zs)) /\ v'.ownBlock = v.ownBlock /\ Keep (λ k => v.ownBlock = some k) w w' := by
 rcases ho.2 with ⟨rfl, h0⟩ | ⟨b, cap, cur, rfl, h2, h3, h4, h5, h6, h7⟩
 ·refine (Tryz.slices_Compact_int_empty none 0 w).mono ?_
  rintro e w' ⟨rfl, rfl⟩
  obtain rfl : zs = [] := List.length_eq_zero_iff.1 h0
  exact ⟨_, rfl, ⟨by simp [intVs], .inl ⟨rfl, rfl⟩⟩, rfl, Keep.refl _ _⟩
 ·rw [Nat.mul_one] at h7
  have hc : (Lib.compact zs).length <= zs.length := by
   unfold Lib.compact Lib.compactUpTo
   rw [List.length_map]
   exact Nat.le_trans (List.length_filter_le _ _) (by simp)
  refine (Tryz.slices_Compact_int b 0 cap zs w (holds_of_blockI h3 h7) (by omega) h4).mono ?_
  rintro e w' ⟨rfl, q, rfl⟩
  obtain ⟨ts, hts⟩ : ∃ ts, Lib.compact zs ++ List.replicate (zs.length - (Lib.compact zs).length) 0 = ts := ⟨_, rfl⟩
  have hlt : ts.length = zs.length := by rw [<- hts]; simp; omega
  rw [hts]
  have hg := heap_sortedI (n := q) (os := #[]) ts.toArray h3
  have hgb := grownBy_sortedI (w := w) (g := b) (n := q) (os := #[]) ts.toArray
  rw [grow_empty] at hg hgb
  refine ⟨_, rfl, ⟨by simp [intVs], .inr ⟨b, cap, _, rfl, h2, hg, by omega, h5, by simp [putCells, h6], ?_⟩⟩, rfl, (Keep.of_grownBy hgb).mono λ i _ h => by subst h; rfl⟩
  have ht := take_putCellsI cur ts (by omega)
  have h8 := congrArg (List.take (Lib.compact zs).length) ht
  rw [List.take_take, Nat.min_eq_left (by omega), <- List.map_take, <- hts, List.take_left'  rfl] at h8
  rw [Nat.mul_one, hts] at *
  rw [<- hts] at h8 ⊢
  exact h8

end Go.Proofs.YtlmdkfbibpkjgaaGreatDoor
