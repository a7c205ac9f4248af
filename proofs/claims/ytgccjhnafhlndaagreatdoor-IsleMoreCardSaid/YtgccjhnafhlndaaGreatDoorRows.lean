/-
  NARROWER THAN 'FOR EVERY INPUT', by the rows' own cells (each row's printed sentence says how): IsleTurns: laid · IsleMore: laid.
  DERIVED. THE GIVEN ROWS OF THIS SEAT. 2 by the template 'for every input the law returns true; each argument reads behind the call as it read before'; 0 by the template 'total and deterministic' (their statements: YtgccjhnafhlndaaGreatDoorTotals.lean).
  GIVEN WITH THE SEED: the statements are not yours to turn. If you find one false, say at which input.
  Laid BY PROGRAM, IN A SANDBOX (cutbox-rows.mjs): the forced cells as the released guide's own fill.sh prints them over the translation 947ea9c4707d5966… (all of the seat's roots in one cut). By AI agents, Wed Nov 11 2026. No macro, syntax, notation, axiom, sorry.
-/
import Derived.Test.YtgccjhnafhlndaaGreatDoorChecked
import GoSem.Claim
import GoSem.ClaimJoined
import GoSem.ClaimMapViews
import Derived.JoinedTies
import Derived.KernelRfl
namespace Go.Proofs.YtgccjhnafhlndaaGreatDoor
/- THE CELL 'sum', in the pinned program and in every row, IS THE sha256 OF THE DUMP (.gsa) THAT YtgccjhnafhlndaaGreatDoorProg.lean LOADS. Nothing in Lean hashes anything: it is a label: what it is worth is what the hold of that sum in a sandbox is worth. -/
noncomputable def Tryz.pinned : Pinned := { name := "ytgccjhnafhlndaagreatdoor", sum := "947ea9c4707d59664b359dc84cecb419de121c82618dbfdd267861ff90cc6b75", checked := Tryz.checked }
namespace Rows
def none {H : Type} : Left H := { results := [], args := [] }

/- WHAT THE LISTED PACKAGE-LEVEL VARIABLES READ AS WHEN THE CALL BEGINS. Each datum BY PROGRAM (the guide's laid-datum.mjs) off the statement by which the dump's own 'gosem.cut.vars' lays the variable. In a bare row this is a premise. The card (YtgccjhnafhlndaaGreatDoorCards.lean) ties it to the program's text. -/
def laid_skerry_head_fields {H : Type} : DataW H := .agg [.agg [.lit (.int .i64 0), .lit (.int .i64 2)], .agg [.lit (.int .i64 2), .lit (.int .i64 12)], .agg [.lit (.int .i64 14), .lit (.int .i64 2)], .agg [.lit (.int .i64 16), .lit (.int .i64 24)], .agg [.lit (.int .i64 40), .lit (.int .i64 24)]]

/-- 'skerrylaw21.IsleTurns': WHATEVER THE INPUT: true; the input reads as it did. -/
def isleTurnsSpec : ChangeSpec := { name := "isleTurns", fn := fun _ => fun
  | [d1, d2, d3, d4] => { results := [.lit (.bool true)], args := [d1, d2, d3, d4] }
  | _ => none }
def isleTurnsRow : OpenClaim := { program := "ytgccjhnafhlndaagreatdoor", sum := "947ea9c4707d59664b359dc84cecb419de121c82618dbfdd267861ff90cc6b75", func := "skerry/skerrylaw21.IsleTurns", spec := "isleTurns", unfollowed := true, recurses := true, named := ["skerry/head.fields"], apart := false, laid := [("skerry/head.fields", laid_skerry_head_fields)] }
def IsleTurnsSaid : Prop := isleTurnsRow.holds Tryz.pinned (OpenSpec.ofChange isleTurnsSpec)

/-- ITS FALSE NEIGHBOUR: 'it returns false'. Refute it at one input. -/
def isleTurnsWrong : ChangeSpec := { name := "isleTurns", fn := fun _ => fun
  | [d1, d2, d3, d4] => { results := [.lit (.bool false)], args := [d1, d2, d3, d4] }
  | _ => none }
def IsleTurnsWrongFalsely : Prop := isleTurnsRow.holds Tryz.pinned (OpenSpec.ofChange isleTurnsWrong)

/-- 'skerrylaw21.IsleMore': WHATEVER THE INPUT: true; the input reads as it did. -/
def isleMoreSpec : ChangeSpec := { name := "isleMore", fn := fun _ => fun
  | [d1, d2, d3, d4, d5] => { results := [.lit (.bool true)], args := [d1, d2, d3, d4, d5] }
  | _ => none }
def isleMoreRow : OpenClaim := { program := "ytgccjhnafhlndaagreatdoor", sum := "947ea9c4707d59664b359dc84cecb419de121c82618dbfdd267861ff90cc6b75", func := "skerry/skerrylaw21.IsleMore", spec := "isleMore", unfollowed := true, recurses := true, named := ["skerry/head.fields"], apart := false, laid := [("skerry/head.fields", laid_skerry_head_fields)] }
def IsleMoreSaid : Prop := isleMoreRow.holds Tryz.pinned (OpenSpec.ofChange isleMoreSpec)

/-- ITS FALSE NEIGHBOUR: 'it returns false'. Refute it at one input. -/
def isleMoreWrong : ChangeSpec := { name := "isleMore", fn := fun _ => fun
  | [d1, d2, d3, d4, d5] => { results := [.lit (.bool false)], args := [d1, d2, d3, d4, d5] }
  | _ => none }
def IsleMoreWrongFalsely : Prop := isleMoreRow.holds Tryz.pinned (OpenSpec.ofChange isleMoreWrong)

/- THE SECOND FORM. 'bulk': how many values and letters a reading holds, each counted each time it is reached (what is shared counts as often as it is met; a slice's spare places count too). A statement '..UptoSaid' is the law's where the arguments, and the package variables that the reading takes, are together of bulk at most 1048576: NARROWER than '..Said'. Prove '..Said' where nothing that the law and all that it calls make is longer than what came in: it says more and counts as full. Else prove '..UptoSaid'. A law counts once. -/
mutual
def uptoBulk {H : Type} : DataW H → Nat
  | .lit (.string bytes) => bytes.length + 1
  | .lit _ => 1
  | .nil => 1
  | .ptr d => uptoBulk d + 1
  | .slice elems spare => uptoBulkAll elems + uptoBulkAll spare + 1
  | .agg parts => uptoBulkAll parts + 1
  | .iface _ d => uptoBulk d + 1
  | .map entries => uptoBulkEntries entries + 1
  | .held _ => 1
def uptoBulkAll {H : Type} : List (DataW H) → Nat
  | [] => 0
  | d :: r => uptoBulk d + uptoBulkAll r
def uptoBulkEntries {H : Type} : List (Lit × DataW H) → Nat
  | [] => 0
  | x :: r => uptoBulkEntry x + uptoBulkEntries r
def uptoBulkEntry {H : Type} : Lit × DataW H → Nat
  | (.string bytes, d) => bytes.length + uptoBulk d + 1
  | (_, d) => uptoBulk d + 1
 end
def uptoSmall : (H : Type) → List (DataW H) → Bool := fun _ ds => decide (uptoBulkAll ds ≤ 1048576)
def OpenSpec.upto (s : _root_.Go.ChangeSpec) : _root_.Go.OpenSpec := { _root_.Go.OpenSpec.ofChange s with cond := some uptoSmall }

/-- 'skerrylaw21.IsleTurns', WHERE WHAT IT READS IS OF BULK AT MOST 1048576: true; the input reads as it did. -/
def isleTurnsUptoRow : OpenClaim := { program := "ytgccjhnafhlndaagreatdoor", sum := "947ea9c4707d59664b359dc84cecb419de121c82618dbfdd267861ff90cc6b75", func := "skerry/skerrylaw21.IsleTurns", spec := "isleTurns", unfollowed := true, recurses := true, named := ["skerry/head.fields"], apart := false, laid := [("skerry/head.fields", laid_skerry_head_fields)], narrowed := true }
def IsleTurnsUptoSaid : Prop := isleTurnsUptoRow.holds Tryz.pinned (OpenSpec.upto isleTurnsSpec)

/-- 'skerrylaw21.IsleMore', WHERE WHAT IT READS IS OF BULK AT MOST 1048576: true; the input reads as it did. -/
def isleMoreUptoRow : OpenClaim := { program := "ytgccjhnafhlndaagreatdoor", sum := "947ea9c4707d59664b359dc84cecb419de121c82618dbfdd267861ff90cc6b75", func := "skerry/skerrylaw21.IsleMore", spec := "isleMore", unfollowed := true, recurses := true, named := ["skerry/head.fields"], apart := false, laid := [("skerry/head.fields", laid_skerry_head_fields)], narrowed := true }
def IsleMoreUptoSaid : Prop := isleMoreUptoRow.holds Tryz.pinned (OpenSpec.upto isleMoreSpec)

end Rows
end Go.Proofs.YtgccjhnafhlndaaGreatDoor
