/-
  The law SlideTells returns true, whatever its input, and leaves its arguments as they were: the tied card. No condition beside the statement's own.
-/
import Derived.Test.YtmfajopmppfldaaGreatDoorSlideTellsProof
import Derived.Test.YtmfajopmppfldaaGreatDoorTie
import Derived.Test.YtmfajopmppfldaaGreatDoorCards
import Derived.SevenTiedAt
set_option linter.unusedVariables false
set_option maxHeartbeats 16000000
namespace Go.Proofs.YtmfajopmppfldaaGreatDoor.slideTells
open Go.Proofs.Tryz
open Go

theorem proved:Rows.SlideTellsCardSaid:=
  Claim7.holds_tied_plain_at .later [] [.data] true (true,"4e904d48d84f838389b6a3755447a06eed42c78565b976988f7b200a46df2e8e") false
    over (fun _ h=>by cases h) (by kernel_rfl) (fun _ h=>by cases h) slideTells_row_tie rfl ⟨rfl,rfl⟩ (by kernel_rfl) rfl
    (fun f fn hf hfn=>by
      obtain rfl:f=5:=Option.some.inj ((show prog.funcNamed "skerry/skerrylaw24.SlideTells" =some 5 by kernel_rfl).symm.trans hf) |>.symm
      obtain rfl:fn=f5:=(Option.some.inj (func5.symm.trans hfn)).symm
      exact⟨by kernel_rfl,fun j t ht=>by
        rw[params5] at ht
        have hm:t∈[3,22,23,24,24,33,4]:=by simpa using Array.mem_of_getElem? ht
        have hall:([3,22,23,24,24,33,4].all fun u=> !prog.wantsStandIn u)=true:=by kernel_rfl
        exact(show prog.wantsStandIn t=false by simpa using List.all_eq_true.1 hall t hm)⟩)
    (by kernel_rfl)

end Go.Proofs.YtmfajopmppfldaaGreatDoor.slideTells
