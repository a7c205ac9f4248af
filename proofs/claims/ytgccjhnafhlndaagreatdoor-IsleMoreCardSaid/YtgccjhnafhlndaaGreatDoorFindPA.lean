/-
 find, the plain law: how many words of cells are slots.
 find: the object, and the slot, that has an address.
-/
import Derived.Test.YtgccjhnafhlndaaGreatDoorView
import Derived.Test.YtgccjhnafhlndaaGreatDoorRowsA
import Derived.Test.YtgccjhnafhlndaaGreatDoorSpacePut
namespace Go.Proofs.YtgccjhnafhlndaaGreatDoor
open Go.RowKit
set_option linter.unusedVariables false

end Go.Proofs.YtgccjhnafhlndaaGreatDoor
