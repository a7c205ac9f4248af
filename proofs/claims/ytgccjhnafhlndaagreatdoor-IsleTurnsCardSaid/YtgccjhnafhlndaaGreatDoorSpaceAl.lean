/-
 The chapter's example of a space: the steps, one by one.
 The chapter's example of a space.
-/
import Derived.Test.YtgccjhnafhlndaaGreatDoorSpacePuts
import Derived.Test.YtgccjhnafhlndaaGreatDoorRowsA
import Derived.Test.YtgccjhnafhlndaaGreatDoorTablesA
namespace Go.Proofs.YtgccjhnafhlndaaGreatDoor
open Go.RowKit
set_option linter.unusedVariables false

def alT : List TypR := [⟨2, 0, 0⟩]
def alA : List Cel := [⟨0, 3, 0, 0, 8⟩]
def alB : List Cel := [⟨0, 2, 0, 0, 1⟩, ⟨1, 1, 1, 3, 2⟩, ⟨3, 3, 0, 0, 5⟩]

attribute [local go_sem ↓] run_eql_cell

theorem Bz.lt {w : World} {P : Sp} {cs : List Cel} (h : Bz w P cs) : ∀ k, P.all k -> k < w.heap.size := by
 obtain ⟨W, f, h, _⟩ := h; exact h.lt

end Go.Proofs.YtgccjhnafhlndaaGreatDoor
