/-
  NARROWER THAN 'FOR EVERY INPUT', by the rows' own cells (each row's printed sentence says how): SlideKeeps: laid · TurnNothing: laid · SlideTells: laid.
  DERIVED. THE GIVEN ROWS OF THIS SEAT. 3 by the template 'for every input the law returns true; each argument reads behind the call as it read before'; 0 by the template 'total and deterministic' (their statements: YtmfajopmppfldaaGreatDoorTotals.lean).
  GIVEN WITH THE SEED: the statements are not yours to turn. If you find one false, say at which input.
  Laid BY PROGRAM, IN A SANDBOX (cutbox-rows.mjs): the forced cells as the released guide's own fill.sh prints them over the translation e6e0e419dd922db4… (all of the seat's roots in one cut). By AI agents, Wed Nov 11 2026. No macro, syntax, notation, axiom, sorry.
-/
import Derived.Test.YtmfajopmppfldaaGreatDoorChecked
import GoSem.Claim
import GoSem.ClaimJoined
import GoSem.ClaimMapViews
import Derived.JoinedTies
import Derived.KernelRfl
namespace Go.Proofs.YtmfajopmppfldaaGreatDoor
/- THE CELL 'sum', in the pinned program and in every row, IS THE sha256 OF THE DUMP (.gsa) THAT YtmfajopmppfldaaGreatDoorProg.lean LOADS. Nothing in Lean hashes anything: it is a label: what it is worth is what the hold of that sum in a sandbox is worth. -/
noncomputable def Tryz.pinned : Pinned := { name := "ytmfajopmppfldaagreatdoor", sum := "e6e0e419dd922db4590e4c0df8f7dda32c967e2abde795ecdfbeddaece80b16b", checked := Tryz.checked }
namespace Rows
def none {H : Type} : Left H := { results := [], args := [] }

/- WHAT THE LISTED PACKAGE-LEVEL VARIABLES READ AS WHEN THE CALL BEGINS. Each datum BY PROGRAM (the guide's laid-datum.mjs) off the statement by which the dump's own 'gosem.cut.vars' lays the variable. In a bare row this is a premise. The card (YtmfajopmppfldaaGreatDoorCards.lean) ties it to the program's text. -/
def laid_skerry_head_fields {H : Type} : DataW H := .agg [.agg [.lit (.int .i64 0), .lit (.int .i64 2)], .agg [.lit (.int .i64 2), .lit (.int .i64 12)], .agg [.lit (.int .i64 14), .lit (.int .i64 2)], .agg [.lit (.int .i64 16), .lit (.int .i64 24)], .agg [.lit (.int .i64 40), .lit (.int .i64 24)]]

/-- 'skerrylaw24.SlideKeeps': WHATEVER THE INPUT: true; the input reads as it did. -/
def slideKeepsSpec : ChangeSpec := { name := "slideKeeps", fn := fun _ => fun
  | [d1, d2, d3, d4, d5] => { results := [.lit (.bool true)], args := [d1, d2, d3, d4, d5] }
  | _ => none }
def slideKeepsRow : OpenClaim := { program := "ytmfajopmppfldaagreatdoor", sum := "e6e0e419dd922db4590e4c0df8f7dda32c967e2abde795ecdfbeddaece80b16b", func := "skerry/skerrylaw24.SlideKeeps", spec := "slideKeeps", unfollowed := true, recurses := true, named := ["skerry/head.fields"], apart := false, laid := [("skerry/head.fields", laid_skerry_head_fields)] }
def SlideKeepsSaid : Prop := slideKeepsRow.holds Tryz.pinned (OpenSpec.ofChange slideKeepsSpec)

/-- ITS FALSE NEIGHBOUR: 'it returns false'. Refute it at one input. -/
def slideKeepsWrong : ChangeSpec := { name := "slideKeeps", fn := fun _ => fun
  | [d1, d2, d3, d4, d5] => { results := [.lit (.bool false)], args := [d1, d2, d3, d4, d5] }
  | _ => none }
def SlideKeepsWrongFalsely : Prop := slideKeepsRow.holds Tryz.pinned (OpenSpec.ofChange slideKeepsWrong)

/-- 'skerrylaw23.TurnNothing': WHATEVER THE INPUT: true; the input reads as it did. -/
def turnNothingSpec : ChangeSpec := { name := "turnNothing", fn := fun _ => fun
  | [d1, d2, d3, d4, d5] => { results := [.lit (.bool true)], args := [d1, d2, d3, d4, d5] }
  | _ => none }
def turnNothingRow : OpenClaim := { program := "ytmfajopmppfldaagreatdoor", sum := "e6e0e419dd922db4590e4c0df8f7dda32c967e2abde795ecdfbeddaece80b16b", func := "skerry/skerrylaw23.TurnNothing", spec := "turnNothing", unfollowed := true, recurses := true, named := ["skerry/head.fields"], apart := false, laid := [("skerry/head.fields", laid_skerry_head_fields)] }
def TurnNothingSaid : Prop := turnNothingRow.holds Tryz.pinned (OpenSpec.ofChange turnNothingSpec)

/-- ITS FALSE NEIGHBOUR: 'it returns false'. Refute it at one input. -/
def turnNothingWrong : ChangeSpec := { name := "turnNothing", fn := fun _ => fun
  | [d1, d2, d3, d4, d5] => { results := [.lit (.bool false)], args := [d1, d2, d3, d4, d5] }
  | _ => none }
def TurnNothingWrongFalsely : Prop := turnNothingRow.holds Tryz.pinned (OpenSpec.ofChange turnNothingWrong)

/-- 'skerrylaw24.SlideTells': WHATEVER THE INPUT: true; the input reads as it did. -/
def slideTellsSpec : ChangeSpec := { name := "slideTells", fn := fun _ => fun
  | [d1, d2, d3, d4, d5, d6, d7] => { results := [.lit (.bool true)], args := [d1, d2, d3, d4, d5, d6, d7] }
  | _ => none }
def slideTellsRow : OpenClaim := { program := "ytmfajopmppfldaagreatdoor", sum := "e6e0e419dd922db4590e4c0df8f7dda32c967e2abde795ecdfbeddaece80b16b", func := "skerry/skerrylaw24.SlideTells", spec := "slideTells", unfollowed := true, recurses := true, named := ["skerry/head.fields"], apart := false, laid := [("skerry/head.fields", laid_skerry_head_fields)] }
def SlideTellsSaid : Prop := slideTellsRow.holds Tryz.pinned (OpenSpec.ofChange slideTellsSpec)

/-- ITS FALSE NEIGHBOUR: 'it returns false'. Refute it at one input. -/
def slideTellsWrong : ChangeSpec := { name := "slideTells", fn := fun _ => fun
  | [d1, d2, d3, d4, d5, d6, d7] => { results := [.lit (.bool false)], args := [d1, d2, d3, d4, d5, d6, d7] }
  | _ => none }
def SlideTellsWrongFalsely : Prop := slideTellsRow.holds Tryz.pinned (OpenSpec.ofChange slideTellsWrong)

/- THE SECOND FORM. 'bulk': how many values and letters a reading holds, each counted each time it is reached (what is shared counts as often as it is met; a slice's spare places count too). A statement '..UptoSaid' is the law's where the arguments, and the package variables that the reading takes, are together of bulk at most 1048576: NARROWER than '..Said'. Prove '..Said' where nothing that the law and all that it calls make is longer than what came in: it says more and counts as full. Else prove '..UptoSaid'. A law counts once. -/
mutual
def uptoBulk {H : Type} : DataW H → Nat
  | .lit (.string bytes) => bytes.length + 1
  | .lit _ => 1
  | .nil => 1
  | .ptr d => uptoBulk d + 1
  | .slice elems spare => uptoBulkAll elems + uptoBulkAll spare + 1
  | .agg parts => uptoBulkAll parts + 1
  | .iface _ d => uptoBulk d + 1
  | .map entries => uptoBulkEntries entries + 1
  | .held _ => 1
def uptoBulkAll {H : Type} : List (DataW H) → Nat
  | [] => 0
  | d :: r => uptoBulk d + uptoBulkAll r
def uptoBulkEntries {H : Type} : List (Lit × DataW H) → Nat
  | [] => 0
  | x :: r => uptoBulkEntry x + uptoBulkEntries r
def uptoBulkEntry {H : Type} : Lit × DataW H → Nat
  | (.string bytes, d) => bytes.length + uptoBulk d + 1
  | (_, d) => uptoBulk d + 1
 end
def uptoSmall : (H : Type) → List (DataW H) → Bool := fun _ ds => decide (uptoBulkAll ds ≤ 1048576)
def OpenSpec.upto (s : _root_.Go.ChangeSpec) : _root_.Go.OpenSpec := { _root_.Go.OpenSpec.ofChange s with cond := some uptoSmall }

/-- 'skerrylaw24.SlideKeeps', WHERE WHAT IT READS IS OF BULK AT MOST 1048576: true; the input reads as it did. -/
def slideKeepsUptoRow : OpenClaim := { program := "ytmfajopmppfldaagreatdoor", sum := "e6e0e419dd922db4590e4c0df8f7dda32c967e2abde795ecdfbeddaece80b16b", func := "skerry/skerrylaw24.SlideKeeps", spec := "slideKeeps", unfollowed := true, recurses := true, named := ["skerry/head.fields"], apart := false, laid := [("skerry/head.fields", laid_skerry_head_fields)], narrowed := true }
def SlideKeepsUptoSaid : Prop := slideKeepsUptoRow.holds Tryz.pinned (OpenSpec.upto slideKeepsSpec)

/-- 'skerrylaw23.TurnNothing', WHERE WHAT IT READS IS OF BULK AT MOST 1048576: true; the input reads as it did. -/
def turnNothingUptoRow : OpenClaim := { program := "ytmfajopmppfldaagreatdoor", sum := "e6e0e419dd922db4590e4c0df8f7dda32c967e2abde795ecdfbeddaece80b16b", func := "skerry/skerrylaw23.TurnNothing", spec := "turnNothing", unfollowed := true, recurses := true, named := ["skerry/head.fields"], apart := false, laid := [("skerry/head.fields", laid_skerry_head_fields)], narrowed := true }
def TurnNothingUptoSaid : Prop := turnNothingUptoRow.holds Tryz.pinned (OpenSpec.upto turnNothingSpec)

/-- 'skerrylaw24.SlideTells', WHERE WHAT IT READS IS OF BULK AT MOST 1048576: true; the input reads as it did. -/
def slideTellsUptoRow : OpenClaim := { program := "ytmfajopmppfldaagreatdoor", sum := "e6e0e419dd922db4590e4c0df8f7dda32c967e2abde795ecdfbeddaece80b16b", func := "skerry/skerrylaw24.SlideTells", spec := "slideTells", unfollowed := true, recurses := true, named := ["skerry/head.fields"], apart := false, laid := [("skerry/head.fields", laid_skerry_head_fields)], narrowed := true }
def SlideTellsUptoSaid : Prop := slideTellsUptoRow.holds Tryz.pinned (OpenSpec.upto slideTellsSpec)

end Rows
end Go.Proofs.YtmfajopmppfldaaGreatDoor
