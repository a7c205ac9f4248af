/-
  DERIVED. GIVEN WITH THE SEED: THE CARDS: each row of YtgccjhnafhlndaaGreatDoorRows.lean that lists a variable, with what it lists TIED to the program's text (the seventh form; the later family's looks); each row that meets fmt, with fmt's text TOLD by the authors' own Lean function (tested against real Go, not proved from fmt's source: count such statements apart). THE CARD IS WHAT COUNTS. Prove the row's statement (the work); the ties are given (YtgccjhnafhlndaaGreatDoorTie.lean); close each card by the builder's one call (the guide's Derived/Test/ToyasCard.lean, 'card_holds'). Laid BY PROGRAM, IN A SANDBOX (cutbox-door.mjs). By AI agents, Wed Nov 11 2026. No macro, syntax, notation, axiom, sorry.
-/
import Derived.Test.YtgccjhnafhlndaaGreatDoorRows
import GoSem.ClaimSeven
namespace Go.Proofs.YtgccjhnafhlndaaGreatDoor
namespace Rows

/-- THE TIED CARD OF 'skerrylaw21.IsleTurns'. -/
def isleTurnsCard : Claim7 := { stood := { row := isleTurnsRow, standIns := [], harness := (true, "b112f3af359333236cd0c64a637a730744537e59f1ec6a5d54d391f3e5d2a7d6"), looks := false }, kinds := [], alts := [], laidByText := true, laidKinds := [.data], laidTests := true, laidLooks := .later }
def IsleTurnsCardSaid : Prop := Claim7.holds Tryz.pinned (.plain (OpenSpec.ofChange isleTurnsSpec)) isleTurnsCard

/-- THE TIED CARD OF 'skerrylaw21.IsleMore'. -/
def isleMoreCard : Claim7 := { stood := { row := isleMoreRow, standIns := [], harness := (true, "b112f3af359333236cd0c64a637a730744537e59f1ec6a5d54d391f3e5d2a7d6"), looks := false }, kinds := [], alts := [], laidByText := true, laidKinds := [.data], laidTests := true, laidLooks := .later }
def IsleMoreCardSaid : Prop := Claim7.holds Tryz.pinned (.plain (OpenSpec.ofChange isleMoreSpec)) isleMoreCard

/-- THE SECOND FORM's CARD OF 'skerrylaw21.IsleTurns'. -/
def isleTurnsUptoCard : Claim7 := { stood := { row := isleTurnsUptoRow, standIns := [], harness := (true, "b112f3af359333236cd0c64a637a730744537e59f1ec6a5d54d391f3e5d2a7d6"), looks := false }, kinds := [], alts := [], laidByText := true, laidKinds := [.data], laidTests := true, laidLooks := .later }
def IsleTurnsUptoCardSaid : Prop := Claim7.holds Tryz.pinned (.plain (OpenSpec.upto isleTurnsSpec)) isleTurnsUptoCard

/-- THE SECOND FORM's CARD OF 'skerrylaw21.IsleMore'. -/
def isleMoreUptoCard : Claim7 := { stood := { row := isleMoreUptoRow, standIns := [], harness := (true, "b112f3af359333236cd0c64a637a730744537e59f1ec6a5d54d391f3e5d2a7d6"), looks := false }, kinds := [], alts := [], laidByText := true, laidKinds := [.data], laidTests := true, laidLooks := .later }
def IsleMoreUptoCardSaid : Prop := Claim7.holds Tryz.pinned (.plain (OpenSpec.upto isleMoreSpec)) isleMoreUptoCard
end Rows
end Go.Proofs.YtgccjhnafhlndaaGreatDoor
