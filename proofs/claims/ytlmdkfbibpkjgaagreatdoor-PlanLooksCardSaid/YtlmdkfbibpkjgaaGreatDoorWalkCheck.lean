/-
 walk: what is wrong with an arena's words (Check).
 The document's SameFaults, SameEdges, SameRuns, where two rows are the same.
 walk: how many cells there are, and how many granules they have (Count); Objects of no space; Gaps of one tag.
-/
import Derived.Test.YtlmdkfbibpkjgaaGreatDoorWalkB
import Derived.Maps.OwnIn
import Derived.Sort.CutIn
import Derived.Test.YtlmdkfbibpkjgaaGreatDoorObjects
namespace Go.Proofs.YtlmdkfbibpkjgaaGreatDoor
open Go.RowKit
set_option linter.unusedVariables false
attribute [local go_sem] Oper.semAt_some

end Go.Proofs.YtlmdkfbibpkjgaaGreatDoor

namespace Go.Proofs.YtlmdkfbibpkjgaaGreatDoor
open Go.RowKit
set_option linter.unusedVariables false

def RowO (w : World) (v : Value) (es : List (Nat × Nat × Nat)) : Prop :=
 ∃ a cap, v = .slice a es.length cap /\ ∀ i x, es[i]? = some x -> ∃ b o, a = some ⟨b, o, none⟩ /\ b < w.heap.size /\
  w.cell? ⟨b, o + i * 3, none⟩ = some (.int .i64 (x.1 : Nat)) /\ w.cell? ⟨b, o + i * 3 + 1, none⟩ = some (.int .i64 (x.2.1 : Nat)) /\ w.cell? ⟨b, o + i * 3 + 2, none⟩ = some (.int .i64 (x.2.2 : Nat))

theorem RowO.A9 {T : TypeId} {w : World} {base : Nat} {v : Value} {es : List (Nat × Nat × Nat)} (h : w.ownsRow base T 3 v es.length (Cy es)) : RowO w v es := by
 rcases h.2 with ⟨rfl, h0⟩ | ⟨g, cap, cur, rfl, g2, g3, g4, g5, g6, g7⟩
 ·exact ⟨none, 0, by rw [h0], λ i x hx => by have := (List.getElem?_eq_some_iff.1 hx).1; omega⟩
 ·refine ⟨some ⟨g, 0, none⟩, cap, rfl, λ i x hx => ?_⟩
  have hi := (List.getElem?_eq_some_iff.1 hx).1
  obtain ⟨x0, x1, x2⟩ := flatE_at es i x hx
  have key : ∀ j, j < es.length * 3 -> w.cell? ⟨g, j, none⟩ = (Cy es)[j]? := λ j hj => by
   rw [<- g7, List.getElem?_take_of_lt hj]
   simp [World.cell?, g3]
  exact ⟨g, 0, rfl, lt_of_heap g3, by rw [Nat.zero_add, key _ (by omega)]; exact x0, by rw [Nat.zero_add, key _ (by omega)]; exact x1, by rw [Nat.zero_add, key _ (by omega)]; exact x2⟩

theorem RowO.Ad {w w' : World} {v : Value} {es : List (Nat × Nat × Nat)} (h : RowO w v es) (k : Keep Aa w w') : RowO w' v es := by
 obtain ⟨a, cap, rfl, h⟩ := h
 refine ⟨a, cap, rfl, λ i x hi => ?_⟩
 obtain ⟨b, o, rfl, h1, h2, h3, h4⟩ := h i x hi
 exact ⟨b, o, rfl, Nat.lt_of_lt_of_le h1 k.size, k.cell h2 (λ h => h), k.cell h3 (λ h => h), k.cell h4 (λ h => h)⟩

section

end

section

end

end Go.Proofs.YtlmdkfbibpkjgaaGreatDoor
