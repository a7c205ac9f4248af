/-
 find, the plain law: how many words of cells are slots.
 find: the object, and the slot, that has an address.
-/
import Derived.Test.YtlmdkfbibpkjgaaGreatDoorView
import Derived.Test.YtlmdkfbibpkjgaaGreatDoorRowsA
import Derived.Test.YtlmdkfbibpkjgaaGreatDoorSpacePut
namespace Go.Proofs.YtlmdkfbibpkjgaaGreatDoor
open Go.RowKit
set_option linter.unusedVariables false

def cnt (p : Nat -> Bool) : Nat -> Nat
 | 0 => 0
 | k + 1 => cnt p k + (if p k then 1 else 0)

end Go.Proofs.YtlmdkfbibpkjgaaGreatDoor
