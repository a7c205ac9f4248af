/-
  Package shape: Refs as a row; package walk: the references of all objects, handed over one behind the other (refs).
  walk: the references to objects (Edges).
-/
import Derived.Test.YtgccjhnafhlndaaGreatDoorWalkA
import Derived.Test.YtgccjhnafhlndaaGreatDoorRefsAll
import Derived.Test.YtgccjhnafhlndaaGreatDoorFindPA
import Derived.Test.YtgccjhnafhlndaaGreatDoorDocC
import Derived.Test.YtgccjhnafhlndaaGreatDoorFitA
namespace Go.Proofs.YtgccjhnafhlndaaGreatDoor
open Go.RowKit
set_option linter.unusedVariables false
attribute [local go_sem] Oper.semAt_some

end Go.Proofs.YtgccjhnafhlndaaGreatDoor

namespace Go.Proofs.YtgccjhnafhlndaaGreatDoor
open Go.RowKit
set_option linter.unusedVariables false
attribute [local go_sem] Oper.semAt_some

/-- Three numbers each, one behind the other. -/
def flatE (es : List (Nat × Nat × Nat)) : List Value := es.flatMap fun e => [.int .i64 (e.1 : Nat), .int .i64 (e.2.1 : Nat), .int .i64 (e.2.2 : Nat)]

theorem flatE_at : ∀ (xs : List (Nat × Nat × Nat)) (i : Nat) (x : Nat × Nat × Nat), xs[i]? = some x → (flatE xs)[i * 3]? = some (.int .i64 (x.1 : Nat)) ∧ (flatE xs)[i * 3 + 1]? = some (.int .i64 (x.2.1 : Nat)) ∧ (flatE xs)[i * 3 + 2]? = some (.int .i64 (x.2.2 : Nat))
  | y :: xs, 0, x, h => by
    simp at h
    subst h
    exact ⟨rfl, rfl, rfl⟩
  | y :: xs, i + 1, x, h => by
    have h2 : xs[i]? = some x := by simpa using h
    obtain ⟨h3, h4, h5⟩ := flatE_at xs i x h2
    rw [show (i + 1) * 3 = (i * 3 + 1 + 1 + 1) by omega]
    exact ⟨h3, h4, h5⟩

end Go.Proofs.YtgccjhnafhlndaaGreatDoor
