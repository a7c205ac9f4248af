/-
  The law FitMost returns true, whatever its input, and leaves its arguments as they were: the tied card. No condition beside the statement's own.
-/
import Derived.Test.YtfnmflgnbjjkkaaGreatDoorFitMostProof
import Derived.Test.YtfnmflgnbjjkkaaGreatDoorTie
import Derived.Test.YtfnmflgnbjjkkaaGreatDoorCards
import Derived.SevenTiedAt
namespace Go.Proofs.YtfnmflgnbjjkkaaGreatDoor.fitMost
open Go

theorem proved : Rows.FitMostCardSaid :=
  Claim7.holds_tied_plain_at .later [] [.data] true (true, "d5d03bd6bcd4c343f733759f2b781527cb144ac661228a977ef046dd6c79266f") false
    over (fun _ h => by cases h) (by kernel_rfl) (fun _ h => by cases h) fitMost_row_tie rfl ⟨rfl, rfl⟩ (by kernel_rfl) rfl
    (fun f fn hf hfn => by
      obtain rfl : f = 4 := Option.some.inj ((show Tryz.prog.funcNamed "skerry/skerrylaw13.FitMost" = some 4 by kernel_rfl).symm.trans hf) |>.symm
      obtain rfl : fn = Tryz.f4 := (Option.some.inj (Tryz.func4.symm.trans hfn)).symm
      exact ⟨by kernel_rfl, fun j t ht => by
        rw [Tryz.params4] at ht
        have hm : t ∈ [26] := by simpa using Array.mem_of_getElem? ht
        have hall : ([26].all fun u => !Tryz.prog.wantsStandIn u) = true := by kernel_rfl
        exact (show Tryz.prog.wantsStandIn t = false by simpa using List.all_eq_true.1 hall t hm)⟩)
    (by kernel_rfl)

end Go.Proofs.YtfnmflgnbjjkkaaGreatDoor.fitMost
