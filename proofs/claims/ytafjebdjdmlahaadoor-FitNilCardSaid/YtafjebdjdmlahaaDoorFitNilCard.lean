/-
  The law FitNil returns true, whatever its input, and leaves its arguments as they were: the tied card. No condition beside the statement's own.
-/
import Derived.Test.YtafjebdjdmlahaaDoorFitNilProof
import Derived.Test.YtafjebdjdmlahaaDoorTie
import Derived.Test.YtafjebdjdmlahaaDoorCards
import Derived.SevenTiedAt
namespace Go.Proofs.YtafjebdjdmlahaaDoor.fitNil
open Go

theorem proved : Rows.FitNilCardSaid :=
  Claim7.holds_tied_plain_at .later [] [.data] true (true, "feb9cf089eab4b9f5ffeeb471b318d22990d9946a36fb6dac721559c46b4cb7c") false
    over (fun _ h => by cases h) (by kernel_rfl) (fun _ h => by cases h) fitNil_row_tie rfl ⟨rfl, rfl⟩ (by kernel_rfl) rfl
    (fun f fn hf hfn => by
      obtain rfl : f = 4 := Option.some.inj ((show Tryd.prog.funcNamed "skerry/skerrylaw13.FitNil" = some 4 by kernel_rfl).symm.trans hf) |>.symm
      obtain rfl : fn = Tryd.f4 := (Option.some.inj (Tryd.func4.symm.trans hfn)).symm
      exact ⟨by kernel_rfl, fun j t ht => by
        rw [Tryd.params4] at ht
        have hm : t ∈ [3, 3] := by simpa using Array.mem_of_getElem? ht
        have hall : ([3, 3].all fun u => !Tryd.prog.wantsStandIn u) = true := by kernel_rfl
        exact (show Tryd.prog.wantsStandIn t = false by simpa using List.all_eq_true.1 hall t hm)⟩)
    (by kernel_rfl)

end Go.Proofs.YtafjebdjdmlahaaDoor.fitNil
