/-
  Lemmas for the laws, together: SpaceAl.
-/
import Derived.Test.YtpeipocojmjbfaaGreatDoorQap
import Derived.Test.YtpeipocojmjbfaaGreatDoorQan
import Derived.Test.YtpeipocojmjbfaaGreatDoorQah
set_option linter.unusedVariables false
set_option maxHeartbeats 16000000
namespace Go.Proofs.YtpeipocojmjbfaaGreatDoor
open Tryz
section
open Go.RowKit

def alT:List TypR:=[⟨2,0,0⟩]
def alA:List Cel:=[⟨0,3,0,0,8⟩]
def alB:List Cel:=[⟨0,2,0,0,1⟩,⟨1,1,1,3,2⟩,⟨3,3,0,0,5⟩]

attribute [local go_sem ↓] run_eql_cell

theorem BU.lt{w:World}{P:Sp}{cs:List Cel}(h:BU w P cs):∀ k,P.all k->k<w.heap.size:=by
 obtain⟨W,f,h,_⟩:=h;exact h.lt

end

end Go.Proofs.YtpeipocojmjbfaaGreatDoor
