/-
  NARROWER THAN 'FOR EVERY INPUT', by the rows' own cells (each row's printed sentence says how): WalkClean: laid · WalkTurned: laid · MarkLimits: laid · MarkClosed: laid.
  DERIVED. THE GIVEN ROWS OF THIS SEAT. 4 by the template 'for every input the law returns true; each argument reads behind the call as it read before'; 0 by the template 'total and deterministic' (their statements: YtllpibknkajfnaaGreatDoorTotals.lean).
  GIVEN WITH THE SEED: the statements are not yours to turn. If you find one false, say at which input.
  Laid BY PROGRAM, IN A SANDBOX (cutbox-rows.mjs): the forced cells as the released guide's own fill.sh prints them over the translation 76378282acfacd84… (all of the seat's roots in one cut). By AI agents, Wed Nov 11 2026. No macro, syntax, notation, axiom, sorry.
-/
import Derived.Test.YtllpibknkajfnaaGreatDoorChecked
import GoSem.Claim
import GoSem.ClaimJoined
import GoSem.ClaimMapViews
import Derived.JoinedTies
import Derived.KernelRfl
namespace Go.Proofs.YtllpibknkajfnaaGreatDoor
/- THE CELL 'sum', in the pinned program and in every row, IS THE sha256 OF THE DUMP (.gsa) THAT YtllpibknkajfnaaGreatDoorProg.lean LOADS. Nothing in Lean hashes anything: it is a label: what it is worth is what the hold of that sum in a sandbox is worth. -/
noncomputable def Tryz.pinned : Pinned := { name := "ytllpibknkajfnaagreatdoor", sum := "76378282acfacd84101d97f3fc7579ef08e7d26b7f4abc2aa34893c6f00debc2", checked := Tryz.checked }
namespace Rows
def none {H : Type} : Left H := { results := [], args := [] }

/- WHAT THE LISTED PACKAGE-LEVEL VARIABLES READ AS WHEN THE CALL BEGINS. Each datum BY PROGRAM (the guide's laid-datum.mjs) off the statement by which the dump's own 'gosem.cut.vars' lays the variable. In a bare row this is a premise. The card (YtllpibknkajfnaaGreatDoorCards.lean) ties it to the program's text. -/
def laid_skerry_head_fields {H : Type} : DataW H := .agg [.agg [.lit (.int .i64 0), .lit (.int .i64 2)], .agg [.lit (.int .i64 2), .lit (.int .i64 12)], .agg [.lit (.int .i64 14), .lit (.int .i64 2)], .agg [.lit (.int .i64 16), .lit (.int .i64 24)], .agg [.lit (.int .i64 40), .lit (.int .i64 24)]]

/-- 'skerrylaw10.WalkClean': WHATEVER THE INPUT: true; the input reads as it did. -/
def walkCleanSpec : ChangeSpec := { name := "walkClean", fn := fun _ => fun
  | [d1, d2, d3, d4] => { results := [.lit (.bool true)], args := [d1, d2, d3, d4] }
  | _ => none }
def walkCleanRow : OpenClaim := { program := "ytllpibknkajfnaagreatdoor", sum := "76378282acfacd84101d97f3fc7579ef08e7d26b7f4abc2aa34893c6f00debc2", func := "skerry/skerrylaw10.WalkClean", spec := "walkClean", unfollowed := true, recurses := true, named := ["skerry/head.fields"], apart := false, laid := [("skerry/head.fields", laid_skerry_head_fields)] }
def WalkCleanSaid : Prop := walkCleanRow.holds Tryz.pinned (OpenSpec.ofChange walkCleanSpec)

/-- ITS FALSE NEIGHBOUR: 'it returns false'. Refute it at one input. -/
def walkCleanWrong : ChangeSpec := { name := "walkClean", fn := fun _ => fun
  | [d1, d2, d3, d4] => { results := [.lit (.bool false)], args := [d1, d2, d3, d4] }
  | _ => none }
def WalkCleanWrongFalsely : Prop := walkCleanRow.holds Tryz.pinned (OpenSpec.ofChange walkCleanWrong)

/-- 'skerrylaw10.WalkTurned': WHATEVER THE INPUT: true; the input reads as it did. -/
def walkTurnedSpec : ChangeSpec := { name := "walkTurned", fn := fun _ => fun
  | [d1, d2, d3, d4, d5] => { results := [.lit (.bool true)], args := [d1, d2, d3, d4, d5] }
  | _ => none }
def walkTurnedRow : OpenClaim := { program := "ytllpibknkajfnaagreatdoor", sum := "76378282acfacd84101d97f3fc7579ef08e7d26b7f4abc2aa34893c6f00debc2", func := "skerry/skerrylaw10.WalkTurned", spec := "walkTurned", unfollowed := true, recurses := true, named := ["skerry/head.fields"], apart := false, laid := [("skerry/head.fields", laid_skerry_head_fields)] }
def WalkTurnedSaid : Prop := walkTurnedRow.holds Tryz.pinned (OpenSpec.ofChange walkTurnedSpec)

/-- ITS FALSE NEIGHBOUR: 'it returns false'. Refute it at one input. -/
def walkTurnedWrong : ChangeSpec := { name := "walkTurned", fn := fun _ => fun
  | [d1, d2, d3, d4, d5] => { results := [.lit (.bool false)], args := [d1, d2, d3, d4, d5] }
  | _ => none }
def WalkTurnedWrongFalsely : Prop := walkTurnedRow.holds Tryz.pinned (OpenSpec.ofChange walkTurnedWrong)

/-- 'skerrylaw20.MarkLimits': WHATEVER THE INPUT: true; the input reads as it did. -/
def markLimitsSpec : ChangeSpec := { name := "markLimits", fn := fun _ => fun
  | [d1, d2, d3, d4, d5, d6, d7] => { results := [.lit (.bool true)], args := [d1, d2, d3, d4, d5, d6, d7] }
  | _ => none }
def markLimitsRow : OpenClaim := { program := "ytllpibknkajfnaagreatdoor", sum := "76378282acfacd84101d97f3fc7579ef08e7d26b7f4abc2aa34893c6f00debc2", func := "skerry/skerrylaw20.MarkLimits", spec := "markLimits", unfollowed := true, recurses := true, named := ["skerry/head.fields"], apart := false, laid := [("skerry/head.fields", laid_skerry_head_fields)] }
def MarkLimitsSaid : Prop := markLimitsRow.holds Tryz.pinned (OpenSpec.ofChange markLimitsSpec)

/-- ITS FALSE NEIGHBOUR: 'it returns false'. Refute it at one input. -/
def markLimitsWrong : ChangeSpec := { name := "markLimits", fn := fun _ => fun
  | [d1, d2, d3, d4, d5, d6, d7] => { results := [.lit (.bool false)], args := [d1, d2, d3, d4, d5, d6, d7] }
  | _ => none }
def MarkLimitsWrongFalsely : Prop := markLimitsRow.holds Tryz.pinned (OpenSpec.ofChange markLimitsWrong)

/-- 'skerrylaw20.MarkClosed': WHATEVER THE INPUT: true; the input reads as it did. -/
def markClosedSpec : ChangeSpec := { name := "markClosed", fn := fun _ => fun
  | [d1, d2, d3, d4, d5] => { results := [.lit (.bool true)], args := [d1, d2, d3, d4, d5] }
  | _ => none }
def markClosedRow : OpenClaim := { program := "ytllpibknkajfnaagreatdoor", sum := "76378282acfacd84101d97f3fc7579ef08e7d26b7f4abc2aa34893c6f00debc2", func := "skerry/skerrylaw20.MarkClosed", spec := "markClosed", unfollowed := true, recurses := true, named := ["skerry/head.fields"], apart := false, laid := [("skerry/head.fields", laid_skerry_head_fields)] }
def MarkClosedSaid : Prop := markClosedRow.holds Tryz.pinned (OpenSpec.ofChange markClosedSpec)

/-- ITS FALSE NEIGHBOUR: 'it returns false'. Refute it at one input. -/
def markClosedWrong : ChangeSpec := { name := "markClosed", fn := fun _ => fun
  | [d1, d2, d3, d4, d5] => { results := [.lit (.bool false)], args := [d1, d2, d3, d4, d5] }
  | _ => none }
def MarkClosedWrongFalsely : Prop := markClosedRow.holds Tryz.pinned (OpenSpec.ofChange markClosedWrong)

/- THE SECOND FORM. 'bulk': how many values and letters a reading holds, each counted each time it is reached (what is shared counts as often as it is met; a slice's spare places count too). A statement '..UptoSaid' is the law's where the arguments, and the package variables that the reading takes, are together of bulk at most 1048576: NARROWER than '..Said'. Prove '..Said' where nothing that the law and all that it calls make is longer than what came in: it says more and counts as full. Else prove '..UptoSaid'. A law counts once. -/
mutual
def uptoBulk {H : Type} : DataW H → Nat
  | .lit (.string bytes) => bytes.length + 1
  | .lit _ => 1
  | .nil => 1
  | .ptr d => uptoBulk d + 1
  | .slice elems spare => uptoBulkAll elems + uptoBulkAll spare + 1
  | .agg parts => uptoBulkAll parts + 1
  | .iface _ d => uptoBulk d + 1
  | .map entries => uptoBulkEntries entries + 1
  | .held _ => 1
def uptoBulkAll {H : Type} : List (DataW H) → Nat
  | [] => 0
  | d :: r => uptoBulk d + uptoBulkAll r
def uptoBulkEntries {H : Type} : List (Lit × DataW H) → Nat
  | [] => 0
  | x :: r => uptoBulkEntry x + uptoBulkEntries r
def uptoBulkEntry {H : Type} : Lit × DataW H → Nat
  | (.string bytes, d) => bytes.length + uptoBulk d + 1
  | (_, d) => uptoBulk d + 1
 end
def uptoSmall : (H : Type) → List (DataW H) → Bool := fun _ ds => decide (uptoBulkAll ds ≤ 1048576)
def OpenSpec.upto (s : _root_.Go.ChangeSpec) : _root_.Go.OpenSpec := { _root_.Go.OpenSpec.ofChange s with cond := some uptoSmall }

/-- 'skerrylaw10.WalkClean', WHERE WHAT IT READS IS OF BULK AT MOST 1048576: true; the input reads as it did. -/
def walkCleanUptoRow : OpenClaim := { program := "ytllpibknkajfnaagreatdoor", sum := "76378282acfacd84101d97f3fc7579ef08e7d26b7f4abc2aa34893c6f00debc2", func := "skerry/skerrylaw10.WalkClean", spec := "walkClean", unfollowed := true, recurses := true, named := ["skerry/head.fields"], apart := false, laid := [("skerry/head.fields", laid_skerry_head_fields)], narrowed := true }
def WalkCleanUptoSaid : Prop := walkCleanUptoRow.holds Tryz.pinned (OpenSpec.upto walkCleanSpec)

/-- 'skerrylaw10.WalkTurned', WHERE WHAT IT READS IS OF BULK AT MOST 1048576: true; the input reads as it did. -/
def walkTurnedUptoRow : OpenClaim := { program := "ytllpibknkajfnaagreatdoor", sum := "76378282acfacd84101d97f3fc7579ef08e7d26b7f4abc2aa34893c6f00debc2", func := "skerry/skerrylaw10.WalkTurned", spec := "walkTurned", unfollowed := true, recurses := true, named := ["skerry/head.fields"], apart := false, laid := [("skerry/head.fields", laid_skerry_head_fields)], narrowed := true }
def WalkTurnedUptoSaid : Prop := walkTurnedUptoRow.holds Tryz.pinned (OpenSpec.upto walkTurnedSpec)

/-- 'skerrylaw20.MarkLimits', WHERE WHAT IT READS IS OF BULK AT MOST 1048576: true; the input reads as it did. -/
def markLimitsUptoRow : OpenClaim := { program := "ytllpibknkajfnaagreatdoor", sum := "76378282acfacd84101d97f3fc7579ef08e7d26b7f4abc2aa34893c6f00debc2", func := "skerry/skerrylaw20.MarkLimits", spec := "markLimits", unfollowed := true, recurses := true, named := ["skerry/head.fields"], apart := false, laid := [("skerry/head.fields", laid_skerry_head_fields)], narrowed := true }
def MarkLimitsUptoSaid : Prop := markLimitsUptoRow.holds Tryz.pinned (OpenSpec.upto markLimitsSpec)

/-- 'skerrylaw20.MarkClosed', WHERE WHAT IT READS IS OF BULK AT MOST 1048576: true; the input reads as it did. -/
def markClosedUptoRow : OpenClaim := { program := "ytllpibknkajfnaagreatdoor", sum := "76378282acfacd84101d97f3fc7579ef08e7d26b7f4abc2aa34893c6f00debc2", func := "skerry/skerrylaw20.MarkClosed", spec := "markClosed", unfollowed := true, recurses := true, named := ["skerry/head.fields"], apart := false, laid := [("skerry/head.fields", laid_skerry_head_fields)], narrowed := true }
def MarkClosedUptoSaid : Prop := markClosedUptoRow.holds Tryz.pinned (OpenSpec.upto markClosedSpec)

end Rows
end Go.Proofs.YtllpibknkajfnaaGreatDoor
