/-
  Rows of whole numbers: an argument or an owned row as a list, and SameInts of the document.
-/
import Derived.Test.YtgccjhnafhlndaaGreatDoorFindB
namespace Go.Proofs.YtgccjhnafhlndaaGreatDoor
open Go.RowKit
set_option linter.unusedVariables false

/-- The value v is a row of ints. -/
def IntsIn (w : World) (v : Value) (xs : List Int) : Prop := IntsAt 1 w v xs.length (fun i _ => xs.getD i 0)

theorem IntsIn.keepN {w w' : World} {v : Value} {xs : List Int} (h : IntsIn w v xs) (k : Keep Nope w w') : IntsIn w' v xs := IntsAt.keep h k (fun _ _ h => h)

end Go.Proofs.YtgccjhnafhlndaaGreatDoor
