/-
 Rows of whole numbers: an argument or an owned row as a list, and SameInts of the document.
-/
import Derived.Test.YtlmdkfbibpkjgaaGreatDoorFindB
namespace Go.Proofs.YtlmdkfbibpkjgaaGreatDoor
open Go.RowKit
set_option linter.unusedVariables false

def intVs (xs : List Int) : List Value := xs.map (Value.int .i64)

def IntsIn (w : World) (v : Value) (xs : List Int) : Prop := Bq 1 w v xs.length (λ i _ => xs.getD i 0)

theorem IntsIn.Ad {w w' : World} {v : Value} {xs : List Int} (h : IntsIn w v xs) (k : Keep Aa w w') : IntsIn w' v xs := Bq.keep h k (λ _ _ h => h)

end Go.Proofs.YtlmdkfbibpkjgaaGreatDoor
