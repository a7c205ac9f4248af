/-
  DERIVED. GIVEN WITH THE SEED: THE CARDS: each row of YtmfajopmppfldaaGreatDoorRows.lean that lists a variable, with what it lists TIED to the program's text (the seventh form; the later family's looks); each row that meets fmt, with fmt's text TOLD by the authors' own Lean function (tested against real Go, not proved from fmt's source: count such statements apart). THE CARD IS WHAT COUNTS. Prove the row's statement (the work); the ties are given (YtmfajopmppfldaaGreatDoorTie.lean); close each card by the builder's one call (the guide's Derived/Test/ToyasCard.lean, 'card_holds'). Laid BY PROGRAM, IN A SANDBOX (cutbox-door.mjs). By AI agents, Wed Nov 11 2026. No macro, syntax, notation, axiom, sorry.
-/
import Derived.Test.YtmfajopmppfldaaGreatDoorRows
import GoSem.ClaimSeven
namespace Go.Proofs.YtmfajopmppfldaaGreatDoor
namespace Rows

/-- THE TIED CARD OF 'skerrylaw24.SlideKeeps'. -/
def slideKeepsCard : Claim7 := { stood := { row := slideKeepsRow, standIns := [], harness := (true, "4e904d48d84f838389b6a3755447a06eed42c78565b976988f7b200a46df2e8e"), looks := false }, kinds := [], alts := [], laidByText := true, laidKinds := [.data], laidTests := true, laidLooks := .later }
def SlideKeepsCardSaid : Prop := Claim7.holds Tryz.pinned (.plain (OpenSpec.ofChange slideKeepsSpec)) slideKeepsCard

/-- THE TIED CARD OF 'skerrylaw23.TurnNothing'. -/
def turnNothingCard : Claim7 := { stood := { row := turnNothingRow, standIns := [], harness := (true, "4e904d48d84f838389b6a3755447a06eed42c78565b976988f7b200a46df2e8e"), looks := false }, kinds := [], alts := [], laidByText := true, laidKinds := [.data], laidTests := true, laidLooks := .later }
def TurnNothingCardSaid : Prop := Claim7.holds Tryz.pinned (.plain (OpenSpec.ofChange turnNothingSpec)) turnNothingCard

/-- THE TIED CARD OF 'skerrylaw24.SlideTells'. -/
def slideTellsCard : Claim7 := { stood := { row := slideTellsRow, standIns := [], harness := (true, "4e904d48d84f838389b6a3755447a06eed42c78565b976988f7b200a46df2e8e"), looks := false }, kinds := [], alts := [], laidByText := true, laidKinds := [.data], laidTests := true, laidLooks := .later }
def SlideTellsCardSaid : Prop := Claim7.holds Tryz.pinned (.plain (OpenSpec.ofChange slideTellsSpec)) slideTellsCard

/-- THE SECOND FORM's CARD OF 'skerrylaw24.SlideKeeps'. -/
def slideKeepsUptoCard : Claim7 := { stood := { row := slideKeepsUptoRow, standIns := [], harness := (true, "4e904d48d84f838389b6a3755447a06eed42c78565b976988f7b200a46df2e8e"), looks := false }, kinds := [], alts := [], laidByText := true, laidKinds := [.data], laidTests := true, laidLooks := .later }
def SlideKeepsUptoCardSaid : Prop := Claim7.holds Tryz.pinned (.plain (OpenSpec.upto slideKeepsSpec)) slideKeepsUptoCard

/-- THE SECOND FORM's CARD OF 'skerrylaw23.TurnNothing'. -/
def turnNothingUptoCard : Claim7 := { stood := { row := turnNothingUptoRow, standIns := [], harness := (true, "4e904d48d84f838389b6a3755447a06eed42c78565b976988f7b200a46df2e8e"), looks := false }, kinds := [], alts := [], laidByText := true, laidKinds := [.data], laidTests := true, laidLooks := .later }
def TurnNothingUptoCardSaid : Prop := Claim7.holds Tryz.pinned (.plain (OpenSpec.upto turnNothingSpec)) turnNothingUptoCard

/-- THE SECOND FORM's CARD OF 'skerrylaw24.SlideTells'. -/
def slideTellsUptoCard : Claim7 := { stood := { row := slideTellsUptoRow, standIns := [], harness := (true, "4e904d48d84f838389b6a3755447a06eed42c78565b976988f7b200a46df2e8e"), looks := false }, kinds := [], alts := [], laidByText := true, laidKinds := [.data], laidTests := true, laidLooks := .later }
def SlideTellsUptoCardSaid : Prop := Claim7.holds Tryz.pinned (.plain (OpenSpec.upto slideTellsSpec)) slideTellsUptoCard
end Rows
end Go.Proofs.YtmfajopmppfldaaGreatDoor
