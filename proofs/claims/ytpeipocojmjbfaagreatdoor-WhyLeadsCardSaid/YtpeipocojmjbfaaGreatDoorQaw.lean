/-
  Lemmas for the laws, together: FitA.
-/
import Derived.Test.YtpeipocojmjbfaaGreatDoorQav
import Derived.Test.YtpeipocojmjbfaaGreatDoorQaj
import Derived.Test.YtpeipocojmjbfaaGreatDoorQap
set_option linter.unusedVariables false
set_option maxHeartbeats 16000000
namespace Go.Proofs.YtpeipocojmjbfaaGreatDoor
open Tryz
section
open Go.RowKit
attribute [local go_sem] Oper.semAt_some

theorem ET(P:Sp)(W:Nat->Nat)(f:Nat->Bool)(w:World)(h:SpaceAt w P W f):
  Calls prog 34 #[.pointer (some ⟨P.s,0,none⟩)] w λ e w'=>e=.returned (.pointer (some ⟨P.t,0,none⟩))/\w'=w:=by
 obtain⟨c0,c1,c2⟩:=h.head
 clear h
 go_enter func34,ntmps34
 go_wp2
 go_ret
 exact⟨rfl,rfl⟩

end

section
open Go.RowKit
attribute [local go_sem] Oper.semAt_some

end

section
open Go.RowKit
attribute [local go_sem] Oper.semAt_some

end

section
open Go.RowKit
attribute [local go_sem] Oper.semAt_some

end

section
open Go.RowKit
attribute [local go_sem] Oper.semAt_some

end

section
open Go.RowKit

end

end Go.Proofs.YtpeipocojmjbfaaGreatDoor
