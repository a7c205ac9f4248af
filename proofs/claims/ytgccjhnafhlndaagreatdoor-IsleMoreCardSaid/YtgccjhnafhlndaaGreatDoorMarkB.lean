/-
  mark: the objects that one refers to.
  mark: drain follows what waits.
  mark: again goes through the heap once more.
-/
import Derived.Test.YtgccjhnafhlndaaGreatDoorMarkA
import Derived.Test.YtgccjhnafhlndaaGreatDoorFindB
import Derived.Test.YtgccjhnafhlndaaGreatDoorRefsAll
namespace Go.Proofs.YtgccjhnafhlndaaGreatDoor
open Go.RowKit Go.Conc
set_option linter.unusedVariables false
attribute [local go_sem] Oper.semAt_some

end Go.Proofs.YtgccjhnafhlndaaGreatDoor

namespace Go.Proofs.YtgccjhnafhlndaaGreatDoor
open Go.RowKit Go.Conc
set_option linter.unusedVariables false

section
variable {KF : Nat → List Nat} {T rs : Nat → Prop} {mb c cap base : Nat} {v0 : Value} {sp sq mp mq H : Nat} {fs : Nat → Bool} {I : World → Prop} {X Y : Nat → Prop} {w0 w1 w2 : World} {lv0 lv1 lv2 : Value} {S0 S1 S2 : MS}

end

end Go.Proofs.YtgccjhnafhlndaaGreatDoor

namespace Go.Proofs.YtgccjhnafhlndaaGreatDoor
open Go.RowKit Go.Conc
set_option linter.unusedVariables false

section
variable {KF : Nat → List Nat} {T rs : Nat → Prop} {mb c cap base : Nat} {v0 : Value} {sp sq mp mq H : Nat} {fs : Nat → Bool} {I : World → Prop} {X Y : Nat → Prop} {w0 w1 w2 : World} {lv0 lv1 lv2 : Value} {S0 S1 S2 : MS}

end

end Go.Proofs.YtgccjhnafhlndaaGreatDoor
