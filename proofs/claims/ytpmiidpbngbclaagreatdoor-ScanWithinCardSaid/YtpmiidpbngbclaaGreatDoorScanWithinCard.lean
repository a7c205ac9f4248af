/-
  The law ScanWithin returns true, whatever its input, and leaves its arguments as they were: the tied card. No condition beside the statement's own.
-/
import Derived.Test.YtpmiidpbngbclaaGreatDoorScanWithinProof
import Derived.Test.YtpmiidpbngbclaaGreatDoorTie
import Derived.Test.YtpmiidpbngbclaaGreatDoorCards
import Derived.SevenTiedAt
namespace Go.Proofs.YtpmiidpbngbclaaGreatDoor.scanWithin
open Go

theorem proved : Rows.ScanWithinCardSaid :=
  Claim7.holds_tied_plain_at .later [] [.data] true (true, "bd0e11485ebe41013a3acbfb6421d8bcd320de39d60f3aa56f1f658e8957d3bf") false
    over (fun _ h => by cases h) (by kernel_rfl) (fun _ h => by cases h) scanWithin_row_tie rfl ⟨rfl, rfl⟩ (by kernel_rfl) rfl
    (fun f fn hf hfn => by
      obtain rfl : f = 8 := Option.some.inj ((show Tryz.prog.funcNamed "skerry/skerrylaw18.ScanWithin" = some 8 by kernel_rfl).symm.trans hf) |>.symm
      obtain rfl : fn = Tryz.f8 := (Option.some.inj (Tryz.func8.symm.trans hfn)).symm
      exact ⟨by kernel_rfl, fun j t ht => by
        rw [Tryz.params8] at ht
        have hm : t ∈ [3, 22, 23] := by simpa using Array.mem_of_getElem? ht
        have hall : ([3, 22, 23].all fun u => !Tryz.prog.wantsStandIn u) = true := by kernel_rfl
        exact (show Tryz.prog.wantsStandIn t = false by simpa using List.all_eq_true.1 hall t hm)⟩)
    (by kernel_rfl)

end Go.Proofs.YtpmiidpbngbclaaGreatDoor.scanWithin
