/-
  DERIVED. GIVEN WITH THE SEED: THE CARDS: each row of YtifdhaiihlfomaaDoorRows.lean that lists a variable, with what it lists TIED to the program's text (the seventh form; the later family's looks); each row that meets fmt, with fmt's text TOLD by the authors' own Lean function (tested against real Go, not proved from fmt's source: count such statements apart). THE CARD IS WHAT COUNTS. Prove the row's statement (the work); the ties are given (YtifdhaiihlfomaaDoorTie.lean); close each card by the builder's one call (the guide's Derived/Test/ToyasCard.lean, 'card_holds'). Laid BY PROGRAM, IN A SANDBOX (cutbox-door.mjs). By AI agents, Wed Nov 11 2026. No macro, syntax, notation, axiom, sorry.
-/
import Derived.Test.YtifdhaiihlfomaaDoorRows
import GoSem.ClaimSeven
namespace Go.Proofs.YtifdhaiihlfomaaDoor
namespace Rows

/-- THE TIED CARD OF 'skerrylaw38.DiffTells'. -/
def diffTellsCard : Claim7 := { stood := { row := diffTellsRow, standIns := [], harness := (true, "d2e102bd121b1355a72a23b82e6b6b23dd9095df01534741a0b49ef88d3a6766"), looks := false }, kinds := [], alts := [], goes := true, laidByText := true, laidKinds := [.data, .data, .data], laidTests := true, laidLooks := .later }
def DiffTellsCardSaid : Prop := Claim7.holds Tryd.pinned (.plain (OpenSpec.ofChange diffTellsSpec)) diffTellsCard

/-- THE TIED CARD OF 'skerrylaw38.DiffNone'. -/
def diffNoneCard : Claim7 := { stood := { row := diffNoneRow, standIns := [], harness := (true, "d2e102bd121b1355a72a23b82e6b6b23dd9095df01534741a0b49ef88d3a6766"), looks := false }, kinds := [], alts := [], goes := true, laidByText := true, laidKinds := [.data, .data, .data], laidTests := true, laidLooks := .later }
def DiffNoneCardSaid : Prop := Claim7.holds Tryd.pinned (.plain (OpenSpec.ofChange diffNoneSpec)) diffNoneCard

/-- THE TIED CARD OF 'skerrylaw38.DiffAgain'. -/
def diffAgainCard : Claim7 := { stood := { row := diffAgainRow, standIns := [], harness := (true, "d2e102bd121b1355a72a23b82e6b6b23dd9095df01534741a0b49ef88d3a6766"), looks := false }, kinds := [], alts := [], goes := true, laidByText := true, laidKinds := [.data, .data, .data], laidTests := true, laidLooks := .later }
def DiffAgainCardSaid : Prop := Claim7.holds Tryd.pinned (.plain (OpenSpec.ofChange diffAgainSpec)) diffAgainCard

/-- THE SECOND FORM's CARD OF 'skerrylaw38.DiffTells'. -/
def diffTellsUptoCard : Claim7 := { stood := { row := diffTellsUptoRow, standIns := [], harness := (true, "d2e102bd121b1355a72a23b82e6b6b23dd9095df01534741a0b49ef88d3a6766"), looks := false }, kinds := [], alts := [], goes := true, laidByText := true, laidKinds := [.data, .data, .data], laidTests := true, laidLooks := .later }
def DiffTellsUptoCardSaid : Prop := Claim7.holds Tryd.pinned (.plain (OpenSpec.upto diffTellsSpec)) diffTellsUptoCard

/-- THE SECOND FORM's CARD OF 'skerrylaw38.DiffNone'. -/
def diffNoneUptoCard : Claim7 := { stood := { row := diffNoneUptoRow, standIns := [], harness := (true, "d2e102bd121b1355a72a23b82e6b6b23dd9095df01534741a0b49ef88d3a6766"), looks := false }, kinds := [], alts := [], goes := true, laidByText := true, laidKinds := [.data, .data, .data], laidTests := true, laidLooks := .later }
def DiffNoneUptoCardSaid : Prop := Claim7.holds Tryd.pinned (.plain (OpenSpec.upto diffNoneSpec)) diffNoneUptoCard

/-- THE SECOND FORM's CARD OF 'skerrylaw38.DiffAgain'. -/
def diffAgainUptoCard : Claim7 := { stood := { row := diffAgainUptoRow, standIns := [], harness := (true, "d2e102bd121b1355a72a23b82e6b6b23dd9095df01534741a0b49ef88d3a6766"), looks := false }, kinds := [], alts := [], goes := true, laidByText := true, laidKinds := [.data, .data, .data], laidTests := true, laidLooks := .later }
def DiffAgainUptoCardSaid : Prop := Claim7.holds Tryd.pinned (.plain (OpenSpec.upto diffAgainSpec)) diffAgainUptoCard
end Rows
end Go.Proofs.YtifdhaiihlfomaaDoor
