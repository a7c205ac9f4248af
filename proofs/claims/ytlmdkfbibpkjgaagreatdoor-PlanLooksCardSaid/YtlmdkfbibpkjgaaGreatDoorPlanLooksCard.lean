/-
  The law PlanLooks returns true, whatever its input, and leaves its arguments as they were: the tied card. No condition beside the statement's own.
-/
import Derived.Test.YtlmdkfbibpkjgaaGreatDoorPlanLooksProof
import Derived.Test.YtlmdkfbibpkjgaaGreatDoorTie
import Derived.Test.YtlmdkfbibpkjgaaGreatDoorCards
import Derived.SevenTiedAt
namespace Go.Proofs.YtlmdkfbibpkjgaaGreatDoor.planLooks
open Go

theorem proved : Rows.PlanLooksCardSaid :=
  Claim7.holds_tied_plain_at .later [] [.data] true (true, "d9b051929ca75320ffc3e35b8dd0a9ef19e668d0abd7fc46b5b19f859da1e2e2") false
    over (fun _ h => by cases h) (by kernel_rfl) (fun _ h => by cases h) planLooks_row_tie rfl ⟨rfl, rfl⟩ (by kernel_rfl) rfl
    (fun f fn hf hfn => by
      obtain rfl : f = 3 := Option.some.inj ((show Tryz.prog.funcNamed "skerry/skerrylaw22.PlanLooks" = some 3 by kernel_rfl).symm.trans hf) |>.symm
      obtain rfl : fn = Tryz.f3 := (Option.some.inj (Tryz.func3.symm.trans hfn)).symm
      exact ⟨by kernel_rfl, fun j t ht => by
        rw [Tryz.params3] at ht
        have hm : t ∈ [24, 3, 3] := by simpa using Array.mem_of_getElem? ht
        have hall : ([24, 3, 3].all fun u => !Tryz.prog.wantsStandIn u) = true := by kernel_rfl
        exact (show Tryz.prog.wantsStandIn t = false by simpa using List.all_eq_true.1 hall t hm)⟩)
    (by kernel_rfl)

end Go.Proofs.YtlmdkfbibpkjgaaGreatDoor.planLooks
