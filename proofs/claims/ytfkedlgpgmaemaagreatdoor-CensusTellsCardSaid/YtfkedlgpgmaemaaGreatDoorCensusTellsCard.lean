/-
  The law CensusTells returns true, whatever its input, and leaves its arguments as they were: the tied card. No condition beside the statement's own.
-/
import Derived.Test.YtfkedlgpgmaemaaGreatDoorCensusTellsProof
import Derived.Test.YtfkedlgpgmaemaaGreatDoorTie
import Derived.Test.YtfkedlgpgmaemaaGreatDoorCards
import Derived.SevenTiedAt
set_option linter.unusedVariables false
set_option maxHeartbeats 16000000
namespace Go.Proofs.YtfkedlgpgmaemaaGreatDoor.censusTells
open Go.Proofs.Tryz
open Go

theorem proved:Rows.CensusTellsCardSaid:=
  Claim7.holds_tied_plain_at .later [] [.data] true (true,"eeba8f21ebaaafb7c5dbf81638024423550dfb26092e127cbe8a1f1f5054fcd1") false
    over (fun _ h=>by cases h) (by kernel_rfl) (fun _ h=>by cases h) censusTells_row_tie rfl ⟨rfl,rfl⟩ (by kernel_rfl) rfl
    (fun f fn hf hfn=>by
      obtain rfl:f=3:=Option.some.inj ((show prog.funcNamed "skerry/skerrylaw39.CensusTells" =some 3 by kernel_rfl).symm.trans hf) |>.symm
      obtain rfl:fn=f3:=(Option.some.inj (func3.symm.trans hfn)).symm
      exact⟨by kernel_rfl,fun j t ht=>by
        rw[params3] at ht
        have hm:t∈[3,22,23,24,25,3,5]:=by simpa using Array.mem_of_getElem? ht
        have hall:([3,22,23,24,25,3,5].all fun u=> !prog.wantsStandIn u)=true:=by kernel_rfl
        exact(show prog.wantsStandIn t=false by simpa using List.all_eq_true.1 hall t hm)⟩)
    (by kernel_rfl)

end Go.Proofs.YtfkedlgpgmaemaaGreatDoor.censusTells
