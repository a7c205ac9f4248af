/-
  The law PlanSlides returns true, whatever its input, and leaves its arguments as they were: the tied card. No condition beside the statement's own.
-/
import Derived.Test.YtlmdkfbibpkjgaaGreatDoorPlanSlidesProof
import Derived.Test.YtlmdkfbibpkjgaaGreatDoorTie
import Derived.Test.YtlmdkfbibpkjgaaGreatDoorCards
import Derived.SevenTiedAt
namespace Go.Proofs.YtlmdkfbibpkjgaaGreatDoor.planSlides
open Go

theorem proved : Rows.PlanSlidesCardSaid :=
  Claim7.holds_tied_plain_at .later [] [.data] true (true, "d9b051929ca75320ffc3e35b8dd0a9ef19e668d0abd7fc46b5b19f859da1e2e2") false
    over (fun _ h => by cases h) (by kernel_rfl) (fun _ h => by cases h) planSlides_row_tie rfl ⟨rfl, rfl⟩ (by kernel_rfl) rfl
    (fun f fn hf hfn => by
      obtain rfl : f = 4 := Option.some.inj ((show Tryz.prog.funcNamed "skerry/skerrylaw22.PlanSlides" = some 4 by kernel_rfl).symm.trans hf) |>.symm
      obtain rfl : fn = Tryz.f4 := (Option.some.inj (Tryz.func4.symm.trans hfn)).symm
      exact ⟨by kernel_rfl, fun j t ht => by
        rw [Tryz.params4] at ht
        have hm : t ∈ [3, 35, 36, 37, 37] := by simpa using Array.mem_of_getElem? ht
        have hall : ([3, 35, 36, 37, 37].all fun u => !Tryz.prog.wantsStandIn u) = true := by kernel_rfl
        exact (show Tryz.prog.wantsStandIn t = false by simpa using List.all_eq_true.1 hall t hm)⟩)
    (by kernel_rfl)

end Go.Proofs.YtlmdkfbibpkjgaaGreatDoor.planSlides
