/-
  The law FitPlaces returns true, whatever its input, and leaves its arguments as they were: the tied card. No condition beside the statement's own.
-/
import Derived.Test.YtfnmflgnbjjkkaaGreatDoorFitPlacesProof
import Derived.Test.YtfnmflgnbjjkkaaGreatDoorTie
import Derived.Test.YtfnmflgnbjjkkaaGreatDoorCards
import Derived.SevenTiedAt
namespace Go.Proofs.YtfnmflgnbjjkkaaGreatDoor.fitPlaces
open Go

theorem proved : Rows.FitPlacesCardSaid :=
  Claim7.holds_tied_plain_at .later [] [.data] true (true, "d5d03bd6bcd4c343f733759f2b781527cb144ac661228a977ef046dd6c79266f") false
    over (fun _ h => by cases h) (by kernel_rfl) (fun _ h => by cases h) fitPlaces_row_tie rfl ⟨rfl, rfl⟩ (by kernel_rfl) rfl
    (fun f fn hf hfn => by
      obtain rfl : f = 3 := Option.some.inj ((show Tryz.prog.funcNamed "skerry/skerrylaw13.FitPlaces" = some 3 by kernel_rfl).symm.trans hf) |>.symm
      obtain rfl : fn = Tryz.f3 := (Option.some.inj (Tryz.func3.symm.trans hfn)).symm
      exact ⟨by kernel_rfl, fun j t ht => by
        rw [Tryz.params3] at ht
        have hm : t ∈ [26, 3, 3] := by simpa using Array.mem_of_getElem? ht
        have hall : ([26, 3, 3].all fun u => !Tryz.prog.wantsStandIn u) = true := by kernel_rfl
        exact (show Tryz.prog.wantsStandIn t = false by simpa using List.all_eq_true.1 hall t hm)⟩)
    (by kernel_rfl)

end Go.Proofs.YtfnmflgnbjjkkaaGreatDoor.fitPlaces
