/-
  Turn of package black.
-/
import Derived.Test.YtafjebdjdmlahaaDoorBlackMake
namespace Go.Proofs.YtafjebdjdmlahaaDoor
open Go.RowKit
set_option linter.unusedVariables false

/-- What Turn leaves: the old row is the second one; the first one is new. -/
def TurnedBlack (w : World) (b p0 q0 q1 n : Nat) (f0 f1 : Nat → Bool) (e : Ending) (w' : World) : Prop :=
  ∃ p q, e = .returned (.int .i64 (((fromB (fun j => f0 j || f1 j) n 0).length : Int) - (fromB f0 n 0).length)) ∧ w.heap.size ≤ p ∧ w.heap.size ≤ q ∧ BlackAt w' b p q p0 q0 (fun _ => false) f0 n ∧ Keep (fun i => i = b) w w'

end Go.Proofs.YtafjebdjdmlahaaDoor
