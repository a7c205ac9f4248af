/-
  Package kind: which slots are references (ref, Refs).
  Package shape: the references of a view, handed over one behind the other (refs).
  Package shape: what an object refers to (Targets), which slots are references (Refs).
-/
import Derived.Test.YtgccjhnafhlndaaGreatDoorView
import Derived.Test.YtgccjhnafhlndaaGreatDoorDocB
import Derived.Test.YtgccjhnafhlndaaGreatDoorLibA
import Derived.Test.YtgccjhnafhlndaaGreatDoorSpaceIter
import Derived.Test.YtgccjhnafhlndaaGreatDoorRowsA
import Derived.Laws.EntriesVeiled
namespace Go.Proofs.YtgccjhnafhlndaaGreatDoor
open Go.RowKit
set_option linter.unusedVariables false

end Go.Proofs.YtgccjhnafhlndaaGreatDoor

namespace Go.Proofs.YtgccjhnafhlndaaGreatDoor
open Go.RowKit
set_option linter.unusedVariables false
attribute [local go_sem] Oper.semAt_some

theorem owns_slice {w : World} {base : Nat} {e : TypeId} {size : Nat} {v : Value} {n : Nat} {xs : List Value} (h : w.ownsRow base e size v n xs) : ∃ a c, v = .slice a n c := by
  rcases h.2 with ⟨h, h0⟩ | ⟨g, cap, cur, h, _⟩
  · exact ⟨_, _, by rw [h, h0]⟩
  · exact ⟨_, _, h⟩

theorem row_cell {w : World} {base : Nat} {e : TypeId} {a : Option Addr} {n c : Nat} {xs : List Nat} {i x : Nat} (h : w.ownsRow base e 1 (.slice a n c) n (natVs xs)) (hx : xs[i]? = some x) : ∃ b, a = some ⟨b, 0, none⟩ ∧ w.cell? ⟨b, i, none⟩ = some (.int .i64 (x : Nat)) := by
  have hi := (List.getElem?_eq_some_iff.1 hx).1
  have hn : xs.length = n := by have := h.1; simpa [natVs] using this
  rcases h.2 with ⟨-, h0⟩ | ⟨g, cap, cur, hv, g2, g3, g4, g5, g6, g7⟩
  · omega
  · injection hv with h1 h2 h3
    refine ⟨g, h1, ?_⟩
    have : cur.toList[i]? = some (.int .i64 (x : Nat)) := by
      rw [← List.getElem?_take_of_lt (j := n * 1) (by omega), g7, natVs, List.getElem?_map, hx]
      rfl
    simp only [World.cell?, g3]
    rw [← this]
    simp

end Go.Proofs.YtgccjhnafhlndaaGreatDoor

namespace Go.Proofs.YtgccjhnafhlndaaGreatDoor
open Go.RowKit
set_option linter.unusedVariables false
attribute [local go_sem] Oper.semAt_some

end Go.Proofs.YtgccjhnafhlndaaGreatDoor
