/-
  NARROWER THAN 'FOR EVERY INPUT', by the rows' own cells (each row's printed sentence says how): SpaceCells: laid · FitNil: laid.
  DERIVED. THE GIVEN ROWS OF THIS SEAT. 2 by the template 'for every input the law returns true; each argument reads behind the call as it read before'; 0 by the template 'total and deterministic' (their statements: YtafjebdjdmlahaaDoorTotals.lean).
  GIVEN WITH THE SEED: the statements are not yours to turn. If you find one false, say at which input.
  Laid BY PROGRAM, IN A SANDBOX (cutbox-rows.mjs): the forced cells as the released guide's own fill.sh prints them over the translation ca6510183111ef17… (all of the seat's roots in one cut). By AI agents, Wed Nov 11 2026. No macro, syntax, notation, axiom, sorry.
-/
import Derived.Test.YtafjebdjdmlahaaDoorChecked
import GoSem.Claim
import GoSem.ClaimJoined
import GoSem.ClaimMapViews
import Derived.JoinedTies
import Derived.KernelRfl
namespace Go.Proofs.YtafjebdjdmlahaaDoor
/- THE CELL 'sum', in the pinned program and in every row, IS THE sha256 OF THE DUMP (.gsa) THAT YtafjebdjdmlahaaDoorProg.lean LOADS. Nothing in Lean hashes anything: it is a label: what it is worth is what the hold of that sum in a sandbox is worth. -/
noncomputable def Tryd.pinned : Pinned := { name := "ytafjebdjdmlahaadoor", sum := "ca6510183111ef17388f0d737d339fff4b0176efd3f8883460d35a1589fdde87", checked := Tryd.checked }
namespace Rows
def none {H : Type} : Left H := { results := [], args := [] }

/- WHAT THE LISTED PACKAGE-LEVEL VARIABLES READ AS WHEN THE CALL BEGINS. Each datum BY PROGRAM (the guide's laid-datum.mjs) off the statement by which the dump's own 'gosem.cut.vars' lays the variable. In a bare row this is a premise. The card (YtafjebdjdmlahaaDoorCards.lean) ties it to the program's text. -/
def laid_skerry_head_fields {H : Type} : DataW H := .agg [.agg [.lit (.int .i64 0), .lit (.int .i64 2)], .agg [.lit (.int .i64 2), .lit (.int .i64 12)], .agg [.lit (.int .i64 14), .lit (.int .i64 2)], .agg [.lit (.int .i64 16), .lit (.int .i64 24)], .agg [.lit (.int .i64 40), .lit (.int .i64 24)]]

/-- 'skerrylaw09.SpaceCells': WHATEVER THE INPUT: true; the input reads as it did. -/
def spaceCellsSpec : ChangeSpec := { name := "spaceCells", fn := fun _ => fun
  | [d1, d2, d3] => { results := [.lit (.bool true)], args := [d1, d2, d3] }
  | _ => none }
def spaceCellsRow : OpenClaim := { program := "ytafjebdjdmlahaadoor", sum := "ca6510183111ef17388f0d737d339fff4b0176efd3f8883460d35a1589fdde87", func := "skerry/skerrylaw09.SpaceCells", spec := "spaceCells", unfollowed := true, recurses := true, named := ["skerry/head.fields"], apart := false, laid := [("skerry/head.fields", laid_skerry_head_fields)] }
def SpaceCellsSaid : Prop := spaceCellsRow.holds Tryd.pinned (OpenSpec.ofChange spaceCellsSpec)

/-- ITS FALSE NEIGHBOUR: 'it returns false'. Refute it at one input. -/
def spaceCellsWrong : ChangeSpec := { name := "spaceCells", fn := fun _ => fun
  | [d1, d2, d3] => { results := [.lit (.bool false)], args := [d1, d2, d3] }
  | _ => none }
def SpaceCellsWrongFalsely : Prop := spaceCellsRow.holds Tryd.pinned (OpenSpec.ofChange spaceCellsWrong)

/-- 'skerrylaw13.FitNil': WHATEVER THE INPUT: true; the input reads as it did. -/
def fitNilSpec : ChangeSpec := { name := "fitNil", fn := fun _ => fun
  | [d1, d2] => { results := [.lit (.bool true)], args := [d1, d2] }
  | _ => none }
def fitNilRow : OpenClaim := { program := "ytafjebdjdmlahaadoor", sum := "ca6510183111ef17388f0d737d339fff4b0176efd3f8883460d35a1589fdde87", func := "skerry/skerrylaw13.FitNil", spec := "fitNil", unfollowed := true, recurses := true, named := ["skerry/head.fields"], apart := false, laid := [("skerry/head.fields", laid_skerry_head_fields)] }
def FitNilSaid : Prop := fitNilRow.holds Tryd.pinned (OpenSpec.ofChange fitNilSpec)

/-- ITS FALSE NEIGHBOUR: 'it returns false'. Refute it at one input. -/
def fitNilWrong : ChangeSpec := { name := "fitNil", fn := fun _ => fun
  | [d1, d2] => { results := [.lit (.bool false)], args := [d1, d2] }
  | _ => none }
def FitNilWrongFalsely : Prop := fitNilRow.holds Tryd.pinned (OpenSpec.ofChange fitNilWrong)

/- THE SECOND FORM. 'bulk': how many values and letters a reading holds, each counted each time it is reached (what is shared counts as often as it is met; a slice's spare places count too). A statement '..UptoSaid' is the law's where the arguments, and the package variables that the reading takes, are together of bulk at most 1048576: NARROWER than '..Said'. Prove '..Said' where nothing that the law and all that it calls make is longer than what came in: it says more and counts as full. Else prove '..UptoSaid'. A law counts once. -/
mutual
def uptoBulk {H : Type} : DataW H → Nat
  | .lit (.string bytes) => bytes.length + 1
  | .lit _ => 1
  | .nil => 1
  | .ptr d => uptoBulk d + 1
  | .slice elems spare => uptoBulkAll elems + uptoBulkAll spare + 1
  | .agg parts => uptoBulkAll parts + 1
  | .iface _ d => uptoBulk d + 1
  | .map entries => uptoBulkEntries entries + 1
  | .held _ => 1
def uptoBulkAll {H : Type} : List (DataW H) → Nat
  | [] => 0
  | d :: r => uptoBulk d + uptoBulkAll r
def uptoBulkEntries {H : Type} : List (Lit × DataW H) → Nat
  | [] => 0
  | x :: r => uptoBulkEntry x + uptoBulkEntries r
def uptoBulkEntry {H : Type} : Lit × DataW H → Nat
  | (.string bytes, d) => bytes.length + uptoBulk d + 1
  | (_, d) => uptoBulk d + 1
 end
def uptoSmall : (H : Type) → List (DataW H) → Bool := fun _ ds => decide (uptoBulkAll ds ≤ 1048576)
def OpenSpec.upto (s : _root_.Go.ChangeSpec) : _root_.Go.OpenSpec := { _root_.Go.OpenSpec.ofChange s with cond := some uptoSmall }

/-- 'skerrylaw09.SpaceCells', WHERE WHAT IT READS IS OF BULK AT MOST 1048576: true; the input reads as it did. -/
def spaceCellsUptoRow : OpenClaim := { program := "ytafjebdjdmlahaadoor", sum := "ca6510183111ef17388f0d737d339fff4b0176efd3f8883460d35a1589fdde87", func := "skerry/skerrylaw09.SpaceCells", spec := "spaceCells", unfollowed := true, recurses := true, named := ["skerry/head.fields"], apart := false, laid := [("skerry/head.fields", laid_skerry_head_fields)], narrowed := true }
def SpaceCellsUptoSaid : Prop := spaceCellsUptoRow.holds Tryd.pinned (OpenSpec.upto spaceCellsSpec)

/-- 'skerrylaw13.FitNil', WHERE WHAT IT READS IS OF BULK AT MOST 1048576: true; the input reads as it did. -/
def fitNilUptoRow : OpenClaim := { program := "ytafjebdjdmlahaadoor", sum := "ca6510183111ef17388f0d737d339fff4b0176efd3f8883460d35a1589fdde87", func := "skerry/skerrylaw13.FitNil", spec := "fitNil", unfollowed := true, recurses := true, named := ["skerry/head.fields"], apart := false, laid := [("skerry/head.fields", laid_skerry_head_fields)], narrowed := true }
def FitNilUptoSaid : Prop := fitNilUptoRow.holds Tryd.pinned (OpenSpec.upto fitNilSpec)

end Rows
end Go.Proofs.YtafjebdjdmlahaaDoor
