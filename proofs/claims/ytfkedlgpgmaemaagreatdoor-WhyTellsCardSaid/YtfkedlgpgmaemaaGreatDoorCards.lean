/-
  DERIVED. GIVEN WITH THE SEED: THE CARDS: each row of YtfkedlgpgmaemaaGreatDoorRows.lean that lists a variable, with what it lists TIED to the program's text (the seventh form; the later family's looks); each row that meets fmt, with fmt's text TOLD by the authors' own Lean function (tested against real Go, not proved from fmt's source: count such statements apart). THE CARD IS WHAT COUNTS. Prove the row's statement (the work); the ties are given (YtfkedlgpgmaemaaGreatDoorTie.lean); close each card by the builder's one call (the guide's Derived/Test/ToyasCard.lean, 'card_holds'). Laid BY PROGRAM, IN A SANDBOX (cutbox-door.mjs). By AI agents, Wed Nov 11 2026. No macro, syntax, notation, axiom, sorry.
-/
import Derived.Test.YtfkedlgpgmaemaaGreatDoorRows
import GoSem.ClaimSeven
namespace Go.Proofs.YtfkedlgpgmaemaaGreatDoor
namespace Rows

/-- THE TIED CARD OF 'skerrylaw39.CensusTells'. -/
def censusTellsCard : Claim7 := { stood := { row := censusTellsRow, standIns := [], harness := (true, "eeba8f21ebaaafb7c5dbf81638024423550dfb26092e127cbe8a1f1f5054fcd1"), looks := false }, kinds := [], alts := [], laidByText := true, laidKinds := [.data], laidTests := true, laidLooks := .later }
def CensusTellsCardSaid : Prop := Claim7.holds Tryz.pinned (.plain (OpenSpec.ofChange censusTellsSpec)) censusTellsCard

/-- THE TIED CARD OF 'skerrylaw39.CensusMost'. -/
def censusMostCard : Claim7 := { stood := { row := censusMostRow, standIns := [], harness := (true, "eeba8f21ebaaafb7c5dbf81638024423550dfb26092e127cbe8a1f1f5054fcd1"), looks := false }, kinds := [], alts := [], laidByText := true, laidKinds := [.data], laidTests := true, laidLooks := .later }
def CensusMostCardSaid : Prop := Claim7.holds Tryz.pinned (.plain (OpenSpec.ofChange censusMostSpec)) censusMostCard

/-- THE TIED CARD OF 'skerrylaw39.CensusDrops'. -/
def censusDropsCard : Claim7 := { stood := { row := censusDropsRow, standIns := [], harness := (true, "eeba8f21ebaaafb7c5dbf81638024423550dfb26092e127cbe8a1f1f5054fcd1"), looks := false }, kinds := [], alts := [], laidByText := true, laidKinds := [.data], laidTests := true, laidLooks := .later }
def CensusDropsCardSaid : Prop := Claim7.holds Tryz.pinned (.plain (OpenSpec.ofChange censusDropsSpec)) censusDropsCard

/-- THE TIED CARD OF 'skerrylaw39.CensusSums'. -/
def censusSumsCard : Claim7 := { stood := { row := censusSumsRow, standIns := [], harness := (true, "eeba8f21ebaaafb7c5dbf81638024423550dfb26092e127cbe8a1f1f5054fcd1"), looks := false }, kinds := [], alts := [], laidByText := true, laidKinds := [.data], laidTests := true, laidLooks := .later }
def CensusSumsCardSaid : Prop := Claim7.holds Tryz.pinned (.plain (OpenSpec.ofChange censusSumsSpec)) censusSumsCard

/-- THE TIED CARD OF 'skerrylaw40.WhyTells'. -/
def whyTellsCard : Claim7 := { stood := { row := whyTellsRow, standIns := [], harness := (true, "eeba8f21ebaaafb7c5dbf81638024423550dfb26092e127cbe8a1f1f5054fcd1"), looks := false }, kinds := [], alts := [], laidByText := true, laidKinds := [.data], laidTests := true, laidLooks := .later }
def WhyTellsCardSaid : Prop := Claim7.holds Tryz.pinned (.plain (OpenSpec.ofChange whyTellsSpec)) whyTellsCard

/-- THE SECOND FORM's CARD OF 'skerrylaw39.CensusTells'. -/
def censusTellsUptoCard : Claim7 := { stood := { row := censusTellsUptoRow, standIns := [], harness := (true, "eeba8f21ebaaafb7c5dbf81638024423550dfb26092e127cbe8a1f1f5054fcd1"), looks := false }, kinds := [], alts := [], laidByText := true, laidKinds := [.data], laidTests := true, laidLooks := .later }
def CensusTellsUptoCardSaid : Prop := Claim7.holds Tryz.pinned (.plain (OpenSpec.upto censusTellsSpec)) censusTellsUptoCard

/-- THE SECOND FORM's CARD OF 'skerrylaw39.CensusMost'. -/
def censusMostUptoCard : Claim7 := { stood := { row := censusMostUptoRow, standIns := [], harness := (true, "eeba8f21ebaaafb7c5dbf81638024423550dfb26092e127cbe8a1f1f5054fcd1"), looks := false }, kinds := [], alts := [], laidByText := true, laidKinds := [.data], laidTests := true, laidLooks := .later }
def CensusMostUptoCardSaid : Prop := Claim7.holds Tryz.pinned (.plain (OpenSpec.upto censusMostSpec)) censusMostUptoCard

/-- THE SECOND FORM's CARD OF 'skerrylaw39.CensusDrops'. -/
def censusDropsUptoCard : Claim7 := { stood := { row := censusDropsUptoRow, standIns := [], harness := (true, "eeba8f21ebaaafb7c5dbf81638024423550dfb26092e127cbe8a1f1f5054fcd1"), looks := false }, kinds := [], alts := [], laidByText := true, laidKinds := [.data], laidTests := true, laidLooks := .later }
def CensusDropsUptoCardSaid : Prop := Claim7.holds Tryz.pinned (.plain (OpenSpec.upto censusDropsSpec)) censusDropsUptoCard

/-- THE SECOND FORM's CARD OF 'skerrylaw39.CensusSums'. -/
def censusSumsUptoCard : Claim7 := { stood := { row := censusSumsUptoRow, standIns := [], harness := (true, "eeba8f21ebaaafb7c5dbf81638024423550dfb26092e127cbe8a1f1f5054fcd1"), looks := false }, kinds := [], alts := [], laidByText := true, laidKinds := [.data], laidTests := true, laidLooks := .later }
def CensusSumsUptoCardSaid : Prop := Claim7.holds Tryz.pinned (.plain (OpenSpec.upto censusSumsSpec)) censusSumsUptoCard

/-- THE SECOND FORM's CARD OF 'skerrylaw40.WhyTells'. -/
def whyTellsUptoCard : Claim7 := { stood := { row := whyTellsUptoRow, standIns := [], harness := (true, "eeba8f21ebaaafb7c5dbf81638024423550dfb26092e127cbe8a1f1f5054fcd1"), looks := false }, kinds := [], alts := [], laidByText := true, laidKinds := [.data], laidTests := true, laidLooks := .later }
def WhyTellsUptoCardSaid : Prop := Claim7.holds Tryz.pinned (.plain (OpenSpec.upto whyTellsSpec)) whyTellsUptoCard
end Rows
end Go.Proofs.YtfkedlgpgmaemaaGreatDoor
