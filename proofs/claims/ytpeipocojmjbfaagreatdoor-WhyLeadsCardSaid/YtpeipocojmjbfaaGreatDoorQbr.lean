/-
  Lemmas for the laws, together: WhyE.
-/
import Derived.Test.YtpeipocojmjbfaaGreatDoorQbi
import Derived.Test.YtpeipocojmjbfaaGreatDoorQay
set_option linter.unusedVariables false
set_option maxHeartbeats 16000000
namespace Go.Proofs.YtpeipocojmjbfaaGreatDoor
open Tryz
section
open Go.RowKit

end

end Go.Proofs.YtpeipocojmjbfaaGreatDoor
