/-
  Lemmas for the laws, together: BlackA.
-/
import Derived.Test.YtpeipocojmjbfaaGreatDoorQad
import Derived.Deep.RegionHeld3
import Derived.Test.YtpeipocojmjbfaaGreatDoorQaa
set_option linter.unusedVariables false
set_option maxHeartbeats 16000000
namespace Go.Proofs.YtpeipocojmjbfaaGreatDoor
open Tryz
section
open Go.RowKit

def AL(l:List Nat):List Value:=l.map λ x=>.int .i64 (x:Nat)

theorem AZ:prog.underlying 24=some (.slice 3):=by kernel_rfl

theorem CQ:(prog.info? 3).map (λ i=>(i.zero,i.size,i.bytes))=some (some (.int .i64 0),1,8):=by kernel_rfl

theorem ints_at{w:World}{v:Value}{len:Nat}{x:Nat->Nat->Int}(hv:BA 1 w v len x):∃ a cap,v=.slice a len cap/\∀ i,i<len->∃ g o,a=some ⟨g,o,none⟩/\g<w.heap.size/\w.cell? ⟨g,o+i,none⟩=some (.int .i64 (x i 0))/\-9223372036854775808<=x i 0/\x i 0<=9223372036854775807:=by
 obtain⟨a,cap,rfl,h⟩:=hv
 refine⟨a,cap,rfl,λ i hi=>?_⟩
 obtain⟨g,o,rfl,h1,h2⟩:=h i hi
 have h3:=h2 0 (by omega)
 rw[Nat.mul_one,Nat.add_zero] at h3
 exact⟨g,o,rfl,h1,h3⟩

end

end Go.Proofs.YtpeipocojmjbfaaGreatDoor
