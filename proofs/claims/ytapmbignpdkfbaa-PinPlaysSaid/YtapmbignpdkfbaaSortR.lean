/-
  A row of uint64 that turns in its block: loads, exchanges, the world behind.
-/
import Derived.Test.YtapmbignpdkfbaaLibA
import Derived.Test.YtapmbignpdkfbaaSortP
namespace Go.Proofs.Ytapmbignpdkfbaa
open Go.RowKit
set_option linter.unusedVariables false

theorem blockU_set {w : World} {b j : Nat} {cs : Array Value} {t : TypeId} (h : w.heap[b]? = some (.cells cs t (0, 0))) (v : Value) : (w.setCell ⟨b, j, none⟩ v).heap[b]? = some (.cells (cs.setIfInBounds j v) t (0, 0)) := by
  have hlt := (Array.getElem?_eq_some_iff.1 h).1
  have h' : w.heap[b] = .cells cs t (0, 0) := by simpa [Array.getElem?_eq_getElem hlt] using h
  show (w.heap.modify b _)[b]? = _
  rw [Array.getElem?_eq_getElem (by simpa using hlt), Array.getElem_modify_self, h']
  rfl

/-- The block b holds c0, but between o and o + n the numbers F. -/
def RowU (c0 : Array Value) (b T o n : Nat) (F : Nat → Nat) (w : World) : Prop :=
  ∃ c : Array Value, w.heap[b]? = some (.cells c T (0, 0)) ∧ c.size = c0.size ∧ (∀ i, i < n → c[o + i]? = some (.int .u64 (F i))) ∧ (∀ i, i < n → F i < 18446744073709551616) ∧ ∀ k, (k < o ∨ o + n ≤ k) → c[k]? = c0[k]?

section

variable {c0 : Array Value} {b T o n : Nat} {F : Nat → Nat} {w w' : World}

theorem RowU.cell (h : RowU c0 b T o n F w) {i : Nat} (hi : i < n) : w.cell? ⟨b, o + i, none⟩ = some (.int .u64 (F i : Nat)) := by
  obtain ⟨c, h1, h2, h3, h4, h5⟩ := h
  simp only [World.cell?, h1]
  exact h3 i hi

theorem RowU.warm (h : RowU c0 b T o n F w) (i : Nat) : w.frozen? ⟨b, o + i, none⟩ = false := by
  obtain ⟨c, h1, h2, h3, h4, h5⟩ := h
  simp only [World.frozen?, h1]
  simp

theorem RowU.lt (h : RowU c0 b T o n F w) : b < w.heap.size := by
  obtain ⟨c, h1, -⟩ := h
  exact (Array.getElem?_eq_some_iff.1 h1).1

theorem RowU.keep {S : Nat → Prop} (h : RowU c0 b T o n F w) (k : Keep S w w') (hb : ¬ S b) : RowU c0 b T o n F w' := by
  obtain ⟨c, h1, h2⟩ := h
  exact ⟨c, k.at_ h1 hb, h2⟩

theorem RowU.set (h : RowU c0 b T o n F w) {i x : Nat} (hi : i < n) (hx : x < 18446744073709551616) : RowU c0 b T o n (fun k => if k = i then x else F k) (w.setCell ⟨b, o + i, none⟩ (.int .u64 (x : Nat))) := by
  obtain ⟨c, h1, h2, h3, h4, h5⟩ := h
  have hc : o + i < c.size := by
    have := h3 i hi
    exact (Array.getElem?_eq_some_iff.1 this).1
  refine ⟨c.setIfInBounds (o + i) (.int .u64 (x : Nat)), blockU_set h1 _, by simpa using h2, fun k hk => ?_, fun k hk => ?_, fun k hk => ?_⟩
  · rw [Array.getElem?_setIfInBounds]
    by_cases e : k = i
    · subst e
      rw [if_pos rfl, if_pos hc]
      simp
    · rw [if_neg (by omega)]
      simp only [if_neg e]
      exact h3 k hk
  · dsimp only
    split
    · exact hx
    · exact h4 k hk
  · rw [Array.getElem?_setIfInBounds, if_neg (by omega)]
    exact h5 k hk

theorem RowU.swap (h : RowU c0 b T o n F w) {i j : Nat} (hi : i < n) (hj : j < n) (q : Nat) : RowU c0 b T o n (swpF F i j) (((w.drewN q).setCell ⟨b, o + i, none⟩ (.int .u64 (F j : Nat))).setCell ⟨b, o + j, none⟩ (.int .u64 (F i : Nat))) := by
  have hb := h.choose_spec.2.2.2.1
  have h1 : RowU c0 b T o n F (w.drewN q) := h.keep (Keep.of_drewN (S := Nope) q) (fun x => x)
  have h2 := (h1.set hi (hb j hj)).set hj (hb i hi)
  refine Eq.mp (congrArg (fun f => RowU c0 b T o n f _) (funext fun k => ?_)) h2
  unfold swpF
  by_cases e : k = i
  · by_cases e2 : k = j
    · subst e
      subst e2
      simp
    · rw [if_neg e2, if_pos e, if_pos e]
  · by_cases e2 : k = j
    · rw [if_pos e2, if_neg e, if_pos e2]
    · rw [if_neg e2, if_neg e, if_neg e, if_neg e2]

end

/-- Behind a step of the sort: the row is F's, exchanged between p and q; nothing else has turned. -/
def Sorts (c0 : Array Value) (b T o n p q : Nat) (F : Nat → Nat) (R : (Nat → Nat) → Prop) (w w' : World) : Prop :=
  ∃ G, RowU c0 b T o n G w' ∧ Swps p q F G ∧ R G ∧ Keep (fun k => k = b) w w'

end Go.Proofs.Ytapmbignpdkfbaa
