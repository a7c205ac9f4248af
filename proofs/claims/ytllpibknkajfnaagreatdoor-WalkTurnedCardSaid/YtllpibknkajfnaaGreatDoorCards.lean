/-
  DERIVED. GIVEN WITH THE SEED: THE CARDS: each row of YtllpibknkajfnaaGreatDoorRows.lean that lists a variable, with what it lists TIED to the program's text (the seventh form; the later family's looks); each row that meets fmt, with fmt's text TOLD by the authors' own Lean function (tested against real Go, not proved from fmt's source: count such statements apart). THE CARD IS WHAT COUNTS. Prove the row's statement (the work); the ties are given (YtllpibknkajfnaaGreatDoorTie.lean); close each card by the builder's one call (the guide's Derived/Test/ToyasCard.lean, 'card_holds'). Laid BY PROGRAM, IN A SANDBOX (cutbox-door.mjs). By AI agents, Wed Nov 11 2026. No macro, syntax, notation, axiom, sorry.
-/
import Derived.Test.YtllpibknkajfnaaGreatDoorRows
import GoSem.ClaimSeven
namespace Go.Proofs.YtllpibknkajfnaaGreatDoor
namespace Rows

/-- THE TIED CARD OF 'skerrylaw10.WalkClean'. -/
def walkCleanCard : Claim7 := { stood := { row := walkCleanRow, standIns := [], harness := (true, "61a7882512a09eac2a64307007bcd8d3afc5faade51b53904873450f98707b51"), looks := false }, kinds := [], alts := [], laidByText := true, laidKinds := [.data], laidTests := true, laidLooks := .later }
def WalkCleanCardSaid : Prop := Claim7.holds Tryz.pinned (.plain (OpenSpec.ofChange walkCleanSpec)) walkCleanCard

/-- THE TIED CARD OF 'skerrylaw10.WalkTurned'. -/
def walkTurnedCard : Claim7 := { stood := { row := walkTurnedRow, standIns := [], harness := (true, "61a7882512a09eac2a64307007bcd8d3afc5faade51b53904873450f98707b51"), looks := false }, kinds := [], alts := [], laidByText := true, laidKinds := [.data], laidTests := true, laidLooks := .later }
def WalkTurnedCardSaid : Prop := Claim7.holds Tryz.pinned (.plain (OpenSpec.ofChange walkTurnedSpec)) walkTurnedCard

/-- THE TIED CARD OF 'skerrylaw20.MarkLimits'. -/
def markLimitsCard : Claim7 := { stood := { row := markLimitsRow, standIns := [], harness := (true, "61a7882512a09eac2a64307007bcd8d3afc5faade51b53904873450f98707b51"), looks := false }, kinds := [], alts := [], laidByText := true, laidKinds := [.data], laidTests := true, laidLooks := .later }
def MarkLimitsCardSaid : Prop := Claim7.holds Tryz.pinned (.plain (OpenSpec.ofChange markLimitsSpec)) markLimitsCard

/-- THE TIED CARD OF 'skerrylaw20.MarkClosed'. -/
def markClosedCard : Claim7 := { stood := { row := markClosedRow, standIns := [], harness := (true, "61a7882512a09eac2a64307007bcd8d3afc5faade51b53904873450f98707b51"), looks := false }, kinds := [], alts := [], laidByText := true, laidKinds := [.data], laidTests := true, laidLooks := .later }
def MarkClosedCardSaid : Prop := Claim7.holds Tryz.pinned (.plain (OpenSpec.ofChange markClosedSpec)) markClosedCard

/-- THE SECOND FORM's CARD OF 'skerrylaw10.WalkClean'. -/
def walkCleanUptoCard : Claim7 := { stood := { row := walkCleanUptoRow, standIns := [], harness := (true, "61a7882512a09eac2a64307007bcd8d3afc5faade51b53904873450f98707b51"), looks := false }, kinds := [], alts := [], laidByText := true, laidKinds := [.data], laidTests := true, laidLooks := .later }
def WalkCleanUptoCardSaid : Prop := Claim7.holds Tryz.pinned (.plain (OpenSpec.upto walkCleanSpec)) walkCleanUptoCard

/-- THE SECOND FORM's CARD OF 'skerrylaw10.WalkTurned'. -/
def walkTurnedUptoCard : Claim7 := { stood := { row := walkTurnedUptoRow, standIns := [], harness := (true, "61a7882512a09eac2a64307007bcd8d3afc5faade51b53904873450f98707b51"), looks := false }, kinds := [], alts := [], laidByText := true, laidKinds := [.data], laidTests := true, laidLooks := .later }
def WalkTurnedUptoCardSaid : Prop := Claim7.holds Tryz.pinned (.plain (OpenSpec.upto walkTurnedSpec)) walkTurnedUptoCard

/-- THE SECOND FORM's CARD OF 'skerrylaw20.MarkLimits'. -/
def markLimitsUptoCard : Claim7 := { stood := { row := markLimitsUptoRow, standIns := [], harness := (true, "61a7882512a09eac2a64307007bcd8d3afc5faade51b53904873450f98707b51"), looks := false }, kinds := [], alts := [], laidByText := true, laidKinds := [.data], laidTests := true, laidLooks := .later }
def MarkLimitsUptoCardSaid : Prop := Claim7.holds Tryz.pinned (.plain (OpenSpec.upto markLimitsSpec)) markLimitsUptoCard

/-- THE SECOND FORM's CARD OF 'skerrylaw20.MarkClosed'. -/
def markClosedUptoCard : Claim7 := { stood := { row := markClosedUptoRow, standIns := [], harness := (true, "61a7882512a09eac2a64307007bcd8d3afc5faade51b53904873450f98707b51"), looks := false }, kinds := [], alts := [], laidByText := true, laidKinds := [.data], laidTests := true, laidLooks := .later }
def MarkClosedUptoCardSaid : Prop := Claim7.holds Tryz.pinned (.plain (OpenSpec.upto markClosedSpec)) markClosedUptoCard
end Rows
end Go.Proofs.YtllpibknkajfnaaGreatDoor
