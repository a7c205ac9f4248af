/-
 Package fit: check, the gaps one by one.
 First of package fit. Printed by tools/fitfirst.py.
 Free of package fit.
 Most of package fit.
 Package fit: where nothing can be asked; Place.
 Place of package fit.
-/
import Derived.Test.YtlmdkfbibpkjgaaGreatDoorSpaceAl
import Derived.Test.YtlmdkfbibpkjgaaGreatDoorBlackA
import Derived.Test.YtlmdkfbibpkjgaaGreatDoorSpacePuts
namespace Go.Proofs.YtlmdkfbibpkjgaaGreatDoor
open Go.RowKit
set_option linter.unusedVariables false
attribute [local go_sem] Oper.semAt_some

theorem STable_at (P : Sp) (W : Nat -> Nat) (f : Nat -> Bool) (w : World) (h : SpaceAt w P W f) :
  Calls Tryz.prog 54 #[.pointer (some ⟨P.s, 0, none⟩)] w λ e w' => e = .returned (.pointer (some ⟨P.t, 0, none⟩)) /\ w' = w := by
 obtain ⟨c0, c1, c2⟩ := h.head
 clear h
 go_enter Tryz.func54, Tryz.ntmps54
 go_wp2
 go_ret
 exact ⟨rfl, rfl⟩

end Go.Proofs.YtlmdkfbibpkjgaaGreatDoor

namespace Go.Proofs.YtlmdkfbibpkjgaaGreatDoor
open Go.RowKit
set_option linter.unusedVariables false
attribute [local go_sem] Oper.semAt_some

end Go.Proofs.YtlmdkfbibpkjgaaGreatDoor

namespace Go.Proofs.YtlmdkfbibpkjgaaGreatDoor
open Go.RowKit
set_option linter.unusedVariables false
attribute [local go_sem] Oper.semAt_some

end Go.Proofs.YtlmdkfbibpkjgaaGreatDoor

namespace Go.Proofs.YtlmdkfbibpkjgaaGreatDoor
open Go.RowKit
set_option linter.unusedVariables false
attribute [local go_sem] Oper.semAt_some

end Go.Proofs.YtlmdkfbibpkjgaaGreatDoor

namespace Go.Proofs.YtlmdkfbibpkjgaaGreatDoor
open Go.RowKit
set_option linter.unusedVariables false
attribute [local go_sem] Oper.semAt_some

end Go.Proofs.YtlmdkfbibpkjgaaGreatDoor

namespace Go.Proofs.YtlmdkfbibpkjgaaGreatDoor
open Go.RowKit
set_option linter.unusedVariables false

end Go.Proofs.YtlmdkfbibpkjgaaGreatDoor
