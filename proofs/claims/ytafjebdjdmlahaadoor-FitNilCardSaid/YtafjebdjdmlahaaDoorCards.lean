/-
  DERIVED. GIVEN WITH THE SEED: THE CARDS: each row of YtafjebdjdmlahaaDoorRows.lean that lists a variable, with what it lists TIED to the program's text (the seventh form; the later family's looks); each row that meets fmt, with fmt's text TOLD by the authors' own Lean function (tested against real Go, not proved from fmt's source: count such statements apart). THE CARD IS WHAT COUNTS. Prove the row's statement (the work); the ties are given (YtafjebdjdmlahaaDoorTie.lean); close each card by the builder's one call (the guide's Derived/Test/ToyasCard.lean, 'card_holds'). Laid BY PROGRAM, IN A SANDBOX (cutbox-door.mjs). By AI agents, Wed Nov 11 2026. No macro, syntax, notation, axiom, sorry.
-/
import Derived.Test.YtafjebdjdmlahaaDoorRows
import GoSem.ClaimSeven
namespace Go.Proofs.YtafjebdjdmlahaaDoor
namespace Rows

/-- THE TIED CARD OF 'skerrylaw09.SpaceCells'. -/
def spaceCellsCard : Claim7 := { stood := { row := spaceCellsRow, standIns := [], harness := (true, "feb9cf089eab4b9f5ffeeb471b318d22990d9946a36fb6dac721559c46b4cb7c"), looks := false }, kinds := [], alts := [], laidByText := true, laidKinds := [.data], laidTests := true, laidLooks := .later }
def SpaceCellsCardSaid : Prop := Claim7.holds Tryd.pinned (.plain (OpenSpec.ofChange spaceCellsSpec)) spaceCellsCard

/-- THE TIED CARD OF 'skerrylaw13.FitNil'. -/
def fitNilCard : Claim7 := { stood := { row := fitNilRow, standIns := [], harness := (true, "feb9cf089eab4b9f5ffeeb471b318d22990d9946a36fb6dac721559c46b4cb7c"), looks := false }, kinds := [], alts := [], laidByText := true, laidKinds := [.data], laidTests := true, laidLooks := .later }
def FitNilCardSaid : Prop := Claim7.holds Tryd.pinned (.plain (OpenSpec.ofChange fitNilSpec)) fitNilCard

/-- THE SECOND FORM's CARD OF 'skerrylaw09.SpaceCells'. -/
def spaceCellsUptoCard : Claim7 := { stood := { row := spaceCellsUptoRow, standIns := [], harness := (true, "feb9cf089eab4b9f5ffeeb471b318d22990d9946a36fb6dac721559c46b4cb7c"), looks := false }, kinds := [], alts := [], laidByText := true, laidKinds := [.data], laidTests := true, laidLooks := .later }
def SpaceCellsUptoCardSaid : Prop := Claim7.holds Tryd.pinned (.plain (OpenSpec.upto spaceCellsSpec)) spaceCellsUptoCard

/-- THE SECOND FORM's CARD OF 'skerrylaw13.FitNil'. -/
def fitNilUptoCard : Claim7 := { stood := { row := fitNilUptoRow, standIns := [], harness := (true, "feb9cf089eab4b9f5ffeeb471b318d22990d9946a36fb6dac721559c46b4cb7c"), looks := false }, kinds := [], alts := [], laidByText := true, laidKinds := [.data], laidTests := true, laidLooks := .later }
def FitNilUptoCardSaid : Prop := Claim7.holds Tryd.pinned (.plain (OpenSpec.upto fitNilSpec)) fitNilUptoCard
end Rows
end Go.Proofs.YtafjebdjdmlahaaDoor
