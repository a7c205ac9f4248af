/-
  The law WhyTells returns true, whatever its input, and leaves its arguments as they were: the tied card. No condition beside the statement's own.
-/
import Derived.Test.YtfkedlgpgmaemaaGreatDoorWhyTellsProof
import Derived.Test.YtfkedlgpgmaemaaGreatDoorTie
import Derived.Test.YtfkedlgpgmaemaaGreatDoorCards
import Derived.SevenTiedAt
set_option linter.unusedVariables false
set_option maxHeartbeats 16000000
namespace Go.Proofs.YtfkedlgpgmaemaaGreatDoor.whyTells
open Go.Proofs.Tryz
open Go

theorem proved:Rows.WhyTellsCardSaid:=
  Claim7.holds_tied_plain_at .later [] [.data] true (true,"eeba8f21ebaaafb7c5dbf81638024423550dfb26092e127cbe8a1f1f5054fcd1") false
    over (fun _ h=>by cases h) (by kernel_rfl) (fun _ h=>by cases h) whyTells_row_tie rfl ⟨rfl,rfl⟩ (by kernel_rfl) rfl
    (fun f fn hf hfn=>by
      obtain rfl:f=7:=Option.some.inj ((show prog.funcNamed "skerry/skerrylaw40.WhyTells" =some 7 by kernel_rfl).symm.trans hf) |>.symm
      obtain rfl:fn=f7:=(Option.some.inj (func7.symm.trans hfn)).symm
      exact⟨by kernel_rfl,fun j t ht=>by
        rw[params7] at ht
        have hm:t∈[3,22,23,3,5,24,25]:=by simpa using Array.mem_of_getElem? ht
        have hall:([3,22,23,3,5,24,25].all fun u=> !prog.wantsStandIn u)=true:=by kernel_rfl
        exact(show prog.wantsStandIn t=false by simpa using List.all_eq_true.1 hall t hm)⟩)
    (by kernel_rfl)

end Go.Proofs.YtfkedlgpgmaemaaGreatDoor.whyTells
