/-
  The law SpaceCells returns true, whatever its input, and leaves its arguments as they were: the tied card. No condition beside the statement's own.
-/
import Derived.Test.YtafjebdjdmlahaaDoorSpaceCellsProof
import Derived.Test.YtafjebdjdmlahaaDoorTie
import Derived.Test.YtafjebdjdmlahaaDoorCards
import Derived.SevenTiedAt
namespace Go.Proofs.YtafjebdjdmlahaaDoor.spaceCells
open Go

theorem proved : Rows.SpaceCellsCardSaid :=
  Claim7.holds_tied_plain_at .later [] [.data] true (true, "feb9cf089eab4b9f5ffeeb471b318d22990d9946a36fb6dac721559c46b4cb7c") false
    over (fun _ h => by cases h) (by kernel_rfl) (fun _ h => by cases h) spaceCells_row_tie rfl ⟨rfl, rfl⟩ (by kernel_rfl) rfl
    (fun f fn hf hfn => by
      obtain rfl : f = 3 := Option.some.inj ((show Tryd.prog.funcNamed "skerry/skerrylaw09.SpaceCells" = some 3 by kernel_rfl).symm.trans hf) |>.symm
      obtain rfl : fn = Tryd.f3 := (Option.some.inj (Tryd.func3.symm.trans hfn)).symm
      exact ⟨by kernel_rfl, fun j t ht => by
        rw [Tryd.params3] at ht
        have hm : t ∈ [3, 22, 23] := by simpa using Array.mem_of_getElem? ht
        have hall : ([3, 22, 23].all fun u => !Tryd.prog.wantsStandIn u) = true := by kernel_rfl
        exact (show Tryd.prog.wantsStandIn t = false by simpa using List.all_eq_true.1 hall t hm)⟩)
    (by kernel_rfl)

end Go.Proofs.YtafjebdjdmlahaaDoor.spaceCells
