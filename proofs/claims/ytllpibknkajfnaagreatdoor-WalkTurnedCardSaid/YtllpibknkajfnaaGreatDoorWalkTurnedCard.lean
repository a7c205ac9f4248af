/-
  The law WalkTurned returns true, whatever its input, and leaves its arguments as they were: the tied card. No condition beside the statement's own.
-/
import Derived.Test.YtllpibknkajfnaaGreatDoorWalkTurnedProof
import Derived.Test.YtllpibknkajfnaaGreatDoorTie
import Derived.Test.YtllpibknkajfnaaGreatDoorCards
import Derived.SevenTiedAt
namespace Go.Proofs.YtllpibknkajfnaaGreatDoor.walkTurned
open Go

theorem proved : Rows.WalkTurnedCardSaid :=
  Claim7.holds_tied_plain_at .later [] [.data] true (true, "61a7882512a09eac2a64307007bcd8d3afc5faade51b53904873450f98707b51") false
    over (fun _ h => by cases h) (by kernel_rfl) (fun _ h => by cases h) walkTurned_row_tie rfl ⟨rfl, rfl⟩ (by kernel_rfl) rfl
    (fun f fn hf hfn => by
      obtain rfl : f = 4 := Option.some.inj ((show Tryz.prog.funcNamed "skerry/skerrylaw10.WalkTurned" = some 4 by kernel_rfl).symm.trans hf) |>.symm
      obtain rfl : fn = Tryz.f4 := (Option.some.inj (Tryz.func4.symm.trans hfn)).symm
      exact ⟨by kernel_rfl, fun j t ht => by
        rw [Tryz.params4] at ht
        have hm : t ∈ [3, 22, 23, 5, 32] := by simpa using Array.mem_of_getElem? ht
        have hall : ([3, 22, 23, 5, 32].all fun u => !Tryz.prog.wantsStandIn u) = true := by kernel_rfl
        exact (show Tryz.prog.wantsStandIn t = false by simpa using List.all_eq_true.1 hall t hm)⟩)
    (by kernel_rfl)

end Go.Proofs.YtllpibknkajfnaaGreatDoor.walkTurned
