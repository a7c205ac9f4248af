/-
  Lemmas for the laws, together: SpaceAl, FitA, ArgsA.
-/
import Derived.Test.YtfkedlgpgmaemaaGreatDoorQao
import Derived.Test.YtfkedlgpgmaemaaGreatDoorQam
import Derived.Test.YtfkedlgpgmaemaaGreatDoorQah
import Derived.Test.YtfkedlgpgmaemaaGreatDoorQai
import Derived.Test.YtfkedlgpgmaemaaGreatDoorQaa
import Derived.Deep.SlicePairs
import Derived.SizedLaws
set_option linter.unusedVariables false
set_option maxHeartbeats 16000000
namespace Go.Proofs.YtfkedlgpgmaemaaGreatDoor
open Tryz
section
open Go.RowKit

def alT:List TypR:=[⟨2,0,0⟩]
def alA:List Cel:=[⟨0,3,0,0,8⟩]
def alB:List Cel:=[⟨0,2,0,0,1⟩,⟨1,1,1,3,2⟩,⟨3,3,0,0,5⟩]

attribute [local go_sem ↓] run_eql_cell

end

section
open Go.RowKit
attribute [local go_sem] Oper.semAt_some

theorem STable_at(P:Sp)(W:Nat->Nat)(f:Nat->Bool)(w:World)(h:SpaceAt w P W f):
  Calls prog 32 #[.pointer (some ⟨P.s,0,none⟩)] w λ e w'=>e=.returned (.pointer (some ⟨P.t,0,none⟩))/\w'=w:=by
 obtain⟨c0,c1,c2⟩:=h.head
 clear h
 go_enter func32,ntmps32
 go_wp2
 go_ret
 exact⟨rfl,rfl⟩

end

section
open Go.RowKit
attribute [local go_sem] Oper.semAt_some

end

section
open Go.RowKit
attribute [local go_sem] Oper.semAt_some

end

section
open Go.RowKit
attribute [local go_sem] Oper.semAt_some

end

section
open Go.RowKit
attribute [local go_sem] Oper.semAt_some

end

section
open Go.RowKit

end

section
open Go.RowKit Go.WideShapes Go.ChangeShapes Go.Deep

section
variable {H:Type} {enc:TypeId×Value->H} {P:Program}

end

section
variable {H:Type} {enc:TypeId×Value->H} {P:Program}

end

def Steps6At(w:World)(v:Value)(len:Nat)(d g i n y:Nat->Int)(u:Nat->Value)(m:Nat->Nat):Prop:=
 ∃ a cap,v=.slice a len cap/\∀ j,j<len->∃ b o,a=some ⟨b,o,none⟩/\b<w.heap.size/\
  w.cell? ⟨b,o+j*6,none⟩=some (.int .i64 (d j))/\w.cell? ⟨b,o+j*6+1,none⟩=some (.int .i64 (g j))/\w.cell? ⟨b,o+j*6+2,none⟩=some (.int .i64 (i j))/\w.cell? ⟨b,o+j*6+3,none⟩=some (.int .i64 (n j))/\
  w.cell? ⟨b,o+j*6+4,none⟩=some (.int .u64 (y j))/\w.cell? ⟨b,o+j*6+5,none⟩=some (u j)/\(∃ ua uc,u j=.slice ua (m j) uc)/\m j<=17592186044416/\
  (-9223372036854775808<=g j/\g j<=9223372036854775807)/\(-9223372036854775808<=i j/\i j<=9223372036854775807)/\(-9223372036854775808<=n j/\n j<=9223372036854775807)

def AtsAt(w:World)(len:Nat)(u:Nat->Value)(m:Nat->Nat):Prop:=∀ j,j<len->∃ x,Bw 1 w (u j) (m j) x

section
variable {H:Type} {enc:TypeId×Value->H} {P:Program}

end

open Go.RowKit

end

end Go.Proofs.YtfkedlgpgmaemaaGreatDoor
