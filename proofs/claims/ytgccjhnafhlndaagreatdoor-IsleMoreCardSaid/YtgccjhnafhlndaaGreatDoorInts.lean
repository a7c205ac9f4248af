/-
 Rows of whole numbers: an argument or an owned row as a list, and SameInts of the document.
-/
import Derived.Test.YtgccjhnafhlndaaGreatDoorFindB
namespace Go.Proofs.YtgccjhnafhlndaaGreatDoor
open Go.RowKit
set_option linter.unusedVariables false

def IntsIn (w : World) (v : Value) (xs : List Int) : Prop := Bn 1 w v xs.length (λ i _ => xs.getD i 0)

theorem IntsIn.Ac {w w' : World} {v : Value} {xs : List Int} (h : IntsIn w v xs) (k : Keep Aa w w') : IntsIn w' v xs := Bn.keep h k (λ _ _ h => h)

end Go.Proofs.YtgccjhnafhlndaaGreatDoor
