/-
  DERIVED. GIVEN WITH THE SEED: THE CARDS: each row of YtlmdkfbibpkjgaaGreatDoorRows.lean that lists a variable, with what it lists TIED to the program's text (the seventh form; the later family's looks); each row that meets fmt, with fmt's text TOLD by the authors' own Lean function (tested against real Go, not proved from fmt's source: count such statements apart). THE CARD IS WHAT COUNTS. Prove the row's statement (the work); the ties are given (YtlmdkfbibpkjgaaGreatDoorTie.lean); close each card by the builder's one call (the guide's Derived/Test/ToyasCard.lean, 'card_holds'). Laid BY PROGRAM, IN A SANDBOX (cutbox-door.mjs). By AI agents, Wed Nov 11 2026. No macro, syntax, notation, axiom, sorry.
-/
import Derived.Test.YtlmdkfbibpkjgaaGreatDoorRows
import GoSem.ClaimSeven
namespace Go.Proofs.YtlmdkfbibpkjgaaGreatDoor
namespace Rows

/-- THE TIED CARD OF 'skerrylaw22.PlanLooks'. -/
def planLooksCard : Claim7 := { stood := { row := planLooksRow, standIns := [], harness := (true, "d9b051929ca75320ffc3e35b8dd0a9ef19e668d0abd7fc46b5b19f859da1e2e2"), looks := false }, kinds := [], alts := [], laidByText := true, laidKinds := [.data], laidTests := true, laidLooks := .later }
def PlanLooksCardSaid : Prop := Claim7.holds Tryz.pinned (.plain (OpenSpec.ofChange planLooksSpec)) planLooksCard

/-- THE TIED CARD OF 'skerrylaw22.PlanSlides'. -/
def planSlidesCard : Claim7 := { stood := { row := planSlidesRow, standIns := [], harness := (true, "d9b051929ca75320ffc3e35b8dd0a9ef19e668d0abd7fc46b5b19f859da1e2e2"), looks := false }, kinds := [], alts := [], laidByText := true, laidKinds := [.data], laidTests := true, laidLooks := .later }
def PlanSlidesCardSaid : Prop := Claim7.holds Tryz.pinned (.plain (OpenSpec.ofChange planSlidesSpec)) planSlidesCard

/-- THE SECOND FORM's CARD OF 'skerrylaw22.PlanLooks'. -/
def planLooksUptoCard : Claim7 := { stood := { row := planLooksUptoRow, standIns := [], harness := (true, "d9b051929ca75320ffc3e35b8dd0a9ef19e668d0abd7fc46b5b19f859da1e2e2"), looks := false }, kinds := [], alts := [], laidByText := true, laidKinds := [.data], laidTests := true, laidLooks := .later }
def PlanLooksUptoCardSaid : Prop := Claim7.holds Tryz.pinned (.plain (OpenSpec.upto planLooksSpec)) planLooksUptoCard

/-- THE SECOND FORM's CARD OF 'skerrylaw22.PlanSlides'. -/
def planSlidesUptoCard : Claim7 := { stood := { row := planSlidesUptoRow, standIns := [], harness := (true, "d9b051929ca75320ffc3e35b8dd0a9ef19e668d0abd7fc46b5b19f859da1e2e2"), looks := false }, kinds := [], alts := [], laidByText := true, laidKinds := [.data], laidTests := true, laidLooks := .later }
def PlanSlidesUptoCardSaid : Prop := Claim7.holds Tryz.pinned (.plain (OpenSpec.upto planSlidesSpec)) planSlidesUptoCard
end Rows
end Go.Proofs.YtlmdkfbibpkjgaaGreatDoor
