/-
  DERIVED. GIVEN WITH THE SEED: THE CARDS: each row of YtfnmflgnbjjkkaaGreatDoorRows.lean that lists a variable, with what it lists TIED to the program's text (the seventh form; the later family's looks); each row that meets fmt, with fmt's text TOLD by the authors' own Lean function (tested against real Go, not proved from fmt's source: count such statements apart). THE CARD IS WHAT COUNTS. Prove the row's statement (the work); the ties are given (YtfnmflgnbjjkkaaGreatDoorTie.lean); close each card by the builder's one call (the guide's Derived/Test/ToyasCard.lean, 'card_holds'). Laid BY PROGRAM, IN A SANDBOX (cutbox-door.mjs). By AI agents, Wed Nov 11 2026. No macro, syntax, notation, axiom, sorry.
-/
import Derived.Test.YtfnmflgnbjjkkaaGreatDoorRows
import GoSem.ClaimSeven
namespace Go.Proofs.YtfnmflgnbjjkkaaGreatDoor
namespace Rows

/-- THE TIED CARD OF 'skerrylaw13.FitPlaces'. -/
def fitPlacesCard : Claim7 := { stood := { row := fitPlacesRow, standIns := [], harness := (true, "d5d03bd6bcd4c343f733759f2b781527cb144ac661228a977ef046dd6c79266f"), looks := false }, kinds := [], alts := [], laidByText := true, laidKinds := [.data], laidTests := true, laidLooks := .later }
def FitPlacesCardSaid : Prop := Claim7.holds Tryz.pinned (.plain (OpenSpec.ofChange fitPlacesSpec)) fitPlacesCard

/-- THE TIED CARD OF 'skerrylaw13.FitMost'. -/
def fitMostCard : Claim7 := { stood := { row := fitMostRow, standIns := [], harness := (true, "d5d03bd6bcd4c343f733759f2b781527cb144ac661228a977ef046dd6c79266f"), looks := false }, kinds := [], alts := [], laidByText := true, laidKinds := [.data], laidTests := true, laidLooks := .later }
def FitMostCardSaid : Prop := Claim7.holds Tryz.pinned (.plain (OpenSpec.ofChange fitMostSpec)) fitMostCard

/-- THE TIED CARD OF 'skerrylaw10.WalkClean'. -/
def walkCleanCard : Claim7 := { stood := { row := walkCleanRow, standIns := [], harness := (true, "d5d03bd6bcd4c343f733759f2b781527cb144ac661228a977ef046dd6c79266f"), looks := false }, kinds := [], alts := [], laidByText := true, laidKinds := [.data], laidTests := true, laidLooks := .later }
def WalkCleanCardSaid : Prop := Claim7.holds Tryz.pinned (.plain (OpenSpec.ofChange walkCleanSpec)) walkCleanCard

/-- THE TIED CARD OF 'skerrylaw10.WalkTurned'. -/
def walkTurnedCard : Claim7 := { stood := { row := walkTurnedRow, standIns := [], harness := (true, "d5d03bd6bcd4c343f733759f2b781527cb144ac661228a977ef046dd6c79266f"), looks := false }, kinds := [], alts := [], laidByText := true, laidKinds := [.data], laidTests := true, laidLooks := .later }
def WalkTurnedCardSaid : Prop := Claim7.holds Tryz.pinned (.plain (OpenSpec.ofChange walkTurnedSpec)) walkTurnedCard

/-- THE TIED CARD OF 'skerrylaw20.MarkLimits'. -/
def markLimitsCard : Claim7 := { stood := { row := markLimitsRow, standIns := [], harness := (true, "d5d03bd6bcd4c343f733759f2b781527cb144ac661228a977ef046dd6c79266f"), looks := false }, kinds := [], alts := [], laidByText := true, laidKinds := [.data], laidTests := true, laidLooks := .later }
def MarkLimitsCardSaid : Prop := Claim7.holds Tryz.pinned (.plain (OpenSpec.ofChange markLimitsSpec)) markLimitsCard

/-- THE TIED CARD OF 'skerrylaw20.MarkClosed'. -/
def markClosedCard : Claim7 := { stood := { row := markClosedRow, standIns := [], harness := (true, "d5d03bd6bcd4c343f733759f2b781527cb144ac661228a977ef046dd6c79266f"), looks := false }, kinds := [], alts := [], laidByText := true, laidKinds := [.data], laidTests := true, laidLooks := .later }
def MarkClosedCardSaid : Prop := Claim7.holds Tryz.pinned (.plain (OpenSpec.ofChange markClosedSpec)) markClosedCard

/-- THE SECOND FORM's CARD OF 'skerrylaw13.FitPlaces'. -/
def fitPlacesUptoCard : Claim7 := { stood := { row := fitPlacesUptoRow, standIns := [], harness := (true, "d5d03bd6bcd4c343f733759f2b781527cb144ac661228a977ef046dd6c79266f"), looks := false }, kinds := [], alts := [], laidByText := true, laidKinds := [.data], laidTests := true, laidLooks := .later }
def FitPlacesUptoCardSaid : Prop := Claim7.holds Tryz.pinned (.plain (OpenSpec.upto fitPlacesSpec)) fitPlacesUptoCard

/-- THE SECOND FORM's CARD OF 'skerrylaw13.FitMost'. -/
def fitMostUptoCard : Claim7 := { stood := { row := fitMostUptoRow, standIns := [], harness := (true, "d5d03bd6bcd4c343f733759f2b781527cb144ac661228a977ef046dd6c79266f"), looks := false }, kinds := [], alts := [], laidByText := true, laidKinds := [.data], laidTests := true, laidLooks := .later }
def FitMostUptoCardSaid : Prop := Claim7.holds Tryz.pinned (.plain (OpenSpec.upto fitMostSpec)) fitMostUptoCard

/-- THE SECOND FORM's CARD OF 'skerrylaw10.WalkClean'. -/
def walkCleanUptoCard : Claim7 := { stood := { row := walkCleanUptoRow, standIns := [], harness := (true, "d5d03bd6bcd4c343f733759f2b781527cb144ac661228a977ef046dd6c79266f"), looks := false }, kinds := [], alts := [], laidByText := true, laidKinds := [.data], laidTests := true, laidLooks := .later }
def WalkCleanUptoCardSaid : Prop := Claim7.holds Tryz.pinned (.plain (OpenSpec.upto walkCleanSpec)) walkCleanUptoCard

/-- THE SECOND FORM's CARD OF 'skerrylaw10.WalkTurned'. -/
def walkTurnedUptoCard : Claim7 := { stood := { row := walkTurnedUptoRow, standIns := [], harness := (true, "d5d03bd6bcd4c343f733759f2b781527cb144ac661228a977ef046dd6c79266f"), looks := false }, kinds := [], alts := [], laidByText := true, laidKinds := [.data], laidTests := true, laidLooks := .later }
def WalkTurnedUptoCardSaid : Prop := Claim7.holds Tryz.pinned (.plain (OpenSpec.upto walkTurnedSpec)) walkTurnedUptoCard

/-- THE SECOND FORM's CARD OF 'skerrylaw20.MarkLimits'. -/
def markLimitsUptoCard : Claim7 := { stood := { row := markLimitsUptoRow, standIns := [], harness := (true, "d5d03bd6bcd4c343f733759f2b781527cb144ac661228a977ef046dd6c79266f"), looks := false }, kinds := [], alts := [], laidByText := true, laidKinds := [.data], laidTests := true, laidLooks := .later }
def MarkLimitsUptoCardSaid : Prop := Claim7.holds Tryz.pinned (.plain (OpenSpec.upto markLimitsSpec)) markLimitsUptoCard

/-- THE SECOND FORM's CARD OF 'skerrylaw20.MarkClosed'. -/
def markClosedUptoCard : Claim7 := { stood := { row := markClosedUptoRow, standIns := [], harness := (true, "d5d03bd6bcd4c343f733759f2b781527cb144ac661228a977ef046dd6c79266f"), looks := false }, kinds := [], alts := [], laidByText := true, laidKinds := [.data], laidTests := true, laidLooks := .later }
def MarkClosedUptoCardSaid : Prop := Claim7.holds Tryz.pinned (.plain (OpenSpec.upto markClosedSpec)) markClosedUptoCard
end Rows
end Go.Proofs.YtfnmflgnbjjkkaaGreatDoor
