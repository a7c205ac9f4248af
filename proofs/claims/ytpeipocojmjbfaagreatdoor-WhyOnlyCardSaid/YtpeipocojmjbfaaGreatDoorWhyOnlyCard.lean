/-
  The law WhyOnly returns true, whatever its input, and leaves its arguments as they were: the tied card. No condition beside the statement's own.
-/
import Derived.Test.YtpeipocojmjbfaaGreatDoorWhyOnlyProof
import Derived.Test.YtpeipocojmjbfaaGreatDoorTie
import Derived.Test.YtpeipocojmjbfaaGreatDoorCards
import Derived.SevenTiedAt
set_option linter.unusedVariables false
set_option maxHeartbeats 16000000
namespace Go.Proofs.YtpeipocojmjbfaaGreatDoor.whyOnly
open Go.Proofs.Tryz
open Go

theorem proved:Rows.WhyOnlyCardSaid:=
  Claim7.holds_tied_plain_at .later [] [.data] true (true,"a4921c8ae3fe3c708b5fd720c5a79fd546d30d5a0beec061bbcf31912057050a") false
    over (fun _ h=>by cases h) (by kernel_rfl) (fun _ h=>by cases h) whyOnly_row_tie rfl ⟨rfl,rfl⟩ (by kernel_rfl) rfl
    (fun f fn hf hfn=>by
      obtain rfl:f=9:=Option.some.inj ((show prog.funcNamed "skerry/skerrylaw40.WhyOnly" =some 9 by kernel_rfl).symm.trans hf) |>.symm
      obtain rfl:fn=f9:=(Option.some.inj (func9.symm.trans hfn)).symm
      exact⟨by kernel_rfl,fun j t ht=>by
        rw[params9] at ht
        have hm:t∈[3,22,23,25,5,5]:=by simpa using Array.mem_of_getElem? ht
        have hall:([3,22,23,25,5,5].all fun u=> !prog.wantsStandIn u)=true:=by kernel_rfl
        exact(show prog.wantsStandIn t=false by simpa using List.all_eq_true.1 hall t hm)⟩)
    (by kernel_rfl)

end Go.Proofs.YtpeipocojmjbfaaGreatDoor.whyOnly
