/-
 Package fit: check, the gaps one by one.
 First of package fit. Printed by tools/fitfirst.py.
 Free of package fit.
 Most of package fit.
 Package fit: where nothing can be asked; Place.
 Place of package fit.
-/
import Derived.Test.YtgccjhnafhlndaaGreatDoorSpaceAl
import Derived.Test.YtgccjhnafhlndaaGreatDoorBlackA
import Derived.Test.YtgccjhnafhlndaaGreatDoorSpacePuts
namespace Go.Proofs.YtgccjhnafhlndaaGreatDoor
open Go.RowKit
set_option linter.unusedVariables false
attribute [local go_sem] Oper.semAt_some

theorem STable_at (P : Sp) (W : Nat -> Nat) (f : Nat -> Bool) (w : World) (h : SpaceAt w P W f) :
  Calls Tryz.prog 40 #[.pointer (some ⟨P.s, 0, none⟩)] w λ e w' => e = .returned (.pointer (some ⟨P.t, 0, none⟩)) /\ w' = w := by
 obtain ⟨c0, c1, c2⟩ := h.head
 clear h
 go_enter Tryz.func40, Tryz.ntmps40
 go_wp2
 go_ret
 exact ⟨rfl, rfl⟩

end Go.Proofs.YtgccjhnafhlndaaGreatDoor

namespace Go.Proofs.YtgccjhnafhlndaaGreatDoor
open Go.RowKit
set_option linter.unusedVariables false
attribute [local go_sem] Oper.semAt_some

end Go.Proofs.YtgccjhnafhlndaaGreatDoor

namespace Go.Proofs.YtgccjhnafhlndaaGreatDoor
open Go.RowKit
set_option linter.unusedVariables false
attribute [local go_sem] Oper.semAt_some

end Go.Proofs.YtgccjhnafhlndaaGreatDoor

namespace Go.Proofs.YtgccjhnafhlndaaGreatDoor
open Go.RowKit
set_option linter.unusedVariables false
attribute [local go_sem] Oper.semAt_some

end Go.Proofs.YtgccjhnafhlndaaGreatDoor

namespace Go.Proofs.YtgccjhnafhlndaaGreatDoor
open Go.RowKit
set_option linter.unusedVariables false
attribute [local go_sem] Oper.semAt_some

end Go.Proofs.YtgccjhnafhlndaaGreatDoor

namespace Go.Proofs.YtgccjhnafhlndaaGreatDoor
open Go.RowKit
set_option linter.unusedVariables false

end Go.Proofs.YtgccjhnafhlndaaGreatDoor
