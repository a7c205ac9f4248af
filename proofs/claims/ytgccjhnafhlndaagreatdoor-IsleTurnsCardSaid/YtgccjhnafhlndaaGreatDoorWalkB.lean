/-
 Package kind: which slots are references (ref, Refs).   Package shape: the references of a view, handed over one behind the other (refs).   Package shape: what an object refers to (Targets), which slots are references (Refs).
 Package shape: Refs as a row; package walk: the references of all objects, handed over one behind the other (refs).   walk: the references to objects (Edges).
-/
import Derived.Test.YtgccjhnafhlndaaGreatDoorView
import Derived.Test.YtgccjhnafhlndaaGreatDoorDocB
import Derived.Test.YtgccjhnafhlndaaGreatDoorLibA
import Derived.Test.YtgccjhnafhlndaaGreatDoorSpacePut
import Derived.Test.YtgccjhnafhlndaaGreatDoorRowsA
import Derived.Laws.EntriesVeiled
import Derived.Test.YtgccjhnafhlndaaGreatDoorWalkA
import Derived.Test.YtgccjhnafhlndaaGreatDoorFindPA
import Derived.Test.YtgccjhnafhlndaaGreatDoorDocC
import Derived.Test.YtgccjhnafhlndaaGreatDoorFitA
namespace Go.Proofs.YtgccjhnafhlndaaGreatDoor
open Go.RowKit
set_option linter.unusedVariables false

attribute [local go_sem] Oper.semAt_some

theorem Bd {w : World} {base : Nat} {e : TypeId} {size : Nat} {v : Value} {n : Nat} {xs : List Value} (h : w.ownsRow base e size v n xs) : ∃ a c, v = .slice a n c := by
 rcases h.2 with ⟨h, h0⟩ | ⟨g, cap, cur, h, _⟩
 ·exact ⟨_, _, by rw [h, h0]⟩
 ·exact ⟨_, _, h⟩

theorem row_cell {w : World} {base : Nat} {e : TypeId} {a : Option Addr} {n c : Nat} {xs : List Nat} {i x : Nat} (h : w.ownsRow base e 1 (.slice a n c) n (AR xs)) (hx : xs[i]? = some x) : ∃ b, a = some ⟨b, 0, none⟩ /\ w.cell? ⟨b, i, none⟩ = some (.int .i64 (x : Nat)) := by
 have hi := (List.getElem?_eq_some_iff.1 hx).1
 have hn : xs.length = n := by have := h.1; simpa [AR] using this
 rcases h.2 with ⟨-, h0⟩ | ⟨g, cap, cur, hv, g2, g3, g4, g5, g6, g7⟩
 ·omega
 ·injection hv with h1 h2 h3
  refine ⟨g, h1, ?_⟩
  have : cur.toList[i]? = some (.int .i64 (x : Nat)) := by
   rw [<- List.getElem?_take_of_lt (j := n * 1) (by omega), g7, AR, List.getElem?_map, hx]
   rfl
  simp only [World.cell?, g3]
  rw [<- this]
  simp

end Go.Proofs.YtgccjhnafhlndaaGreatDoor

namespace Go.Proofs.YtgccjhnafhlndaaGreatDoor
open Go.RowKit
set_option linter.unusedVariables false
attribute [local go_sem] Oper.semAt_some

end Go.Proofs.YtgccjhnafhlndaaGreatDoor

namespace Go.Proofs.YtgccjhnafhlndaaGreatDoor
open Go.RowKit
set_option linter.unusedVariables false
attribute [local go_sem] Oper.semAt_some

end Go.Proofs.YtgccjhnafhlndaaGreatDoor

namespace Go.Proofs.YtgccjhnafhlndaaGreatDoor
open Go.RowKit
set_option linter.unusedVariables false
attribute [local go_sem] Oper.semAt_some

def flatE (es : List (Nat × Nat × Nat)) : List Value := es.flatMap λ e => [.int .i64 (e.1 : Nat), .int .i64 (e.2.1 : Nat), .int .i64 (e.2.2 : Nat)]

theorem flatE_at : ∀ (xs : List (Nat × Nat × Nat)) (i : Nat) (x : Nat × Nat × Nat), xs[i]? = some x -> (flatE xs)[i * 3]? = some (.int .i64 (x.1 : Nat)) /\ (flatE xs)[i * 3 + 1]? = some (.int .i64 (x.2.1 : Nat)) /\ (flatE xs)[i * 3 + 2]? = some (.int .i64 (x.2.2 : Nat))
 | y :: xs, 0, x, h => by
  simp at h
  subst h
  exact ⟨rfl, rfl, rfl⟩
 | y :: xs, i + 1, x, h => by
  have h2 : xs[i]? = some x := by simpa using h
  obtain ⟨h3, h4, h5⟩ := flatE_at xs i x h2
  rw [show (i + 1) * 3 = (i * 3 + 1 + 1 + 1) by omega]
  exact ⟨h3, h4, h5⟩

end Go.Proofs.YtgccjhnafhlndaaGreatDoor
