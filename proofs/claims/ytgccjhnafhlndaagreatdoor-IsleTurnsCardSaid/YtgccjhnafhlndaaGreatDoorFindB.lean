/-
 find: the slot that has an address.
-/
import Derived.Test.YtgccjhnafhlndaaGreatDoorFindPA
import Derived.Test.YtgccjhnafhlndaaGreatDoorPlayJ
namespace Go.Proofs.YtgccjhnafhlndaaGreatDoor
open Go.RowKit
set_option linter.unusedVariables false

theorem Keep.new' {w w' : World} (h : Keep (λ k => w.heap.size <= k) w w') : Keep Aa w w' := h.mono (λ i hi hp => by omega)

end Go.Proofs.YtgccjhnafhlndaaGreatDoor
