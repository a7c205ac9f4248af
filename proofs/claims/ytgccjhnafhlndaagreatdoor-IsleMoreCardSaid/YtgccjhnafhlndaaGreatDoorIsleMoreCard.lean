/-
  The law IsleMore returns true, whatever its input, and leaves its arguments as they were: the tied card. No condition beside the statement's own.
-/
import Derived.Test.YtgccjhnafhlndaaGreatDoorIsleMoreProof
import Derived.Test.YtgccjhnafhlndaaGreatDoorTie
import Derived.Test.YtgccjhnafhlndaaGreatDoorCards
import Derived.SevenTiedAt
namespace Go.Proofs.YtgccjhnafhlndaaGreatDoor.isleMore
open Go

theorem proved : Rows.IsleMoreCardSaid :=
  Claim7.holds_tied_plain_at .later [] [.data] true (true, "b112f3af359333236cd0c64a637a730744537e59f1ec6a5d54d391f3e5d2a7d6") false
    over (fun _ h => by cases h) (by kernel_rfl) (fun _ h => by cases h) isleMore_row_tie rfl ⟨rfl, rfl⟩ (by kernel_rfl) rfl
    (fun f fn hf hfn => by
      obtain rfl : f = 4 := Option.some.inj ((show Tryz.prog.funcNamed "skerry/skerrylaw21.IsleMore" = some 4 by kernel_rfl).symm.trans hf) |>.symm
      obtain rfl : fn = Tryz.f4 := (Option.some.inj (Tryz.func4.symm.trans hfn)).symm
      exact ⟨by kernel_rfl, fun j t ht => by
        rw [Tryz.params4] at ht
        have hm : t ∈ [3, 22, 23, 24, 5] := by simpa using Array.mem_of_getElem? ht
        have hall : ([3, 22, 23, 24, 5].all fun u => !Tryz.prog.wantsStandIn u) = true := by kernel_rfl
        exact (show Tryz.prog.wantsStandIn t = false by simpa using List.all_eq_true.1 hall t hm)⟩)
    (by kernel_rfl)

end Go.Proofs.YtgccjhnafhlndaaGreatDoor.isleMore
