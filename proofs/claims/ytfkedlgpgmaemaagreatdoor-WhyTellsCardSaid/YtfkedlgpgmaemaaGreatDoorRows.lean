/-
  NARROWER THAN 'FOR EVERY INPUT', by the rows' own cells (each row's printed sentence says how): CensusTells: laid · CensusMost: laid · CensusDrops: laid · CensusSums: laid · WhyTells: laid.
  DERIVED. THE GIVEN ROWS OF THIS SEAT. 5 by the template 'for every input the law returns true; each argument reads behind the call as it read before'; 0 by the template 'total and deterministic' (their statements: YtfkedlgpgmaemaaGreatDoorTotals.lean).
  GIVEN WITH THE SEED: the statements are not yours to turn. If you find one false, say at which input.
  Laid BY PROGRAM, IN A SANDBOX (cutbox-rows.mjs): the forced cells as the released guide's own fill.sh prints them over the translation b41ffba4c8e570a4… (all of the seat's roots in one cut). By AI agents, Wed Nov 11 2026. No macro, syntax, notation, axiom, sorry.
-/
import Derived.Test.YtfkedlgpgmaemaaGreatDoorChecked
import GoSem.Claim
import GoSem.ClaimJoined
import GoSem.ClaimMapViews
import Derived.JoinedTies
import Derived.KernelRfl
namespace Go.Proofs.YtfkedlgpgmaemaaGreatDoor
/- THE CELL 'sum', in the pinned program and in every row, IS THE sha256 OF THE DUMP (.gsa) THAT YtfkedlgpgmaemaaGreatDoorProg.lean LOADS. Nothing in Lean hashes anything: it is a label: what it is worth is what the hold of that sum in a sandbox is worth. -/
noncomputable def Tryz.pinned : Pinned := { name := "ytfkedlgpgmaemaagreatdoor", sum := "b41ffba4c8e570a490b71c9781097abda6bbb9f4ed4f6e3ba26121323c5b13ea", checked := Tryz.checked }
namespace Rows
def none {H : Type} : Left H := { results := [], args := [] }

/- WHAT THE LISTED PACKAGE-LEVEL VARIABLES READ AS WHEN THE CALL BEGINS. Each datum BY PROGRAM (the guide's laid-datum.mjs) off the statement by which the dump's own 'gosem.cut.vars' lays the variable. In a bare row this is a premise. The card (YtfkedlgpgmaemaaGreatDoorCards.lean) ties it to the program's text. -/
def laid_skerry_head_fields {H : Type} : DataW H := .agg [.agg [.lit (.int .i64 0), .lit (.int .i64 2)], .agg [.lit (.int .i64 2), .lit (.int .i64 12)], .agg [.lit (.int .i64 14), .lit (.int .i64 2)], .agg [.lit (.int .i64 16), .lit (.int .i64 24)], .agg [.lit (.int .i64 40), .lit (.int .i64 24)]]

/-- 'skerrylaw39.CensusTells': WHATEVER THE INPUT: true; the input reads as it did. -/
def censusTellsSpec : ChangeSpec := { name := "censusTells", fn := fun _ => fun
  | [d1, d2, d3, d4, d5, d6, d7] => { results := [.lit (.bool true)], args := [d1, d2, d3, d4, d5, d6, d7] }
  | _ => none }
def censusTellsRow : OpenClaim := { program := "ytfkedlgpgmaemaagreatdoor", sum := "b41ffba4c8e570a490b71c9781097abda6bbb9f4ed4f6e3ba26121323c5b13ea", func := "skerry/skerrylaw39.CensusTells", spec := "censusTells", unfollowed := true, recurses := true, named := ["skerry/head.fields"], apart := false, laid := [("skerry/head.fields", laid_skerry_head_fields)] }
def CensusTellsSaid : Prop := censusTellsRow.holds Tryz.pinned (OpenSpec.ofChange censusTellsSpec)

/-- ITS FALSE NEIGHBOUR: 'it returns false'. Refute it at one input. -/
def censusTellsWrong : ChangeSpec := { name := "censusTells", fn := fun _ => fun
  | [d1, d2, d3, d4, d5, d6, d7] => { results := [.lit (.bool false)], args := [d1, d2, d3, d4, d5, d6, d7] }
  | _ => none }
def CensusTellsWrongFalsely : Prop := censusTellsRow.holds Tryz.pinned (OpenSpec.ofChange censusTellsWrong)

/-- 'skerrylaw39.CensusMost': WHATEVER THE INPUT: true; the input reads as it did. -/
def censusMostSpec : ChangeSpec := { name := "censusMost", fn := fun _ => fun
  | [d1, d2] => { results := [.lit (.bool true)], args := [d1, d2] }
  | _ => none }
def censusMostRow : OpenClaim := { program := "ytfkedlgpgmaemaagreatdoor", sum := "b41ffba4c8e570a490b71c9781097abda6bbb9f4ed4f6e3ba26121323c5b13ea", func := "skerry/skerrylaw39.CensusMost", spec := "censusMost", unfollowed := true, recurses := true, named := ["skerry/head.fields"], apart := false, laid := [("skerry/head.fields", laid_skerry_head_fields)] }
def CensusMostSaid : Prop := censusMostRow.holds Tryz.pinned (OpenSpec.ofChange censusMostSpec)

/-- ITS FALSE NEIGHBOUR: 'it returns false'. Refute it at one input. -/
def censusMostWrong : ChangeSpec := { name := "censusMost", fn := fun _ => fun
  | [d1, d2] => { results := [.lit (.bool false)], args := [d1, d2] }
  | _ => none }
def CensusMostWrongFalsely : Prop := censusMostRow.holds Tryz.pinned (OpenSpec.ofChange censusMostWrong)

/-- 'skerrylaw39.CensusDrops': WHATEVER THE INPUT: true; the input reads as it did. -/
def censusDropsSpec : ChangeSpec := { name := "censusDrops", fn := fun _ => fun
  | [d1, d2, d3, d4, d5] => { results := [.lit (.bool true)], args := [d1, d2, d3, d4, d5] }
  | _ => none }
def censusDropsRow : OpenClaim := { program := "ytfkedlgpgmaemaagreatdoor", sum := "b41ffba4c8e570a490b71c9781097abda6bbb9f4ed4f6e3ba26121323c5b13ea", func := "skerry/skerrylaw39.CensusDrops", spec := "censusDrops", unfollowed := true, recurses := true, named := ["skerry/head.fields"], apart := false, laid := [("skerry/head.fields", laid_skerry_head_fields)] }
def CensusDropsSaid : Prop := censusDropsRow.holds Tryz.pinned (OpenSpec.ofChange censusDropsSpec)

/-- ITS FALSE NEIGHBOUR: 'it returns false'. Refute it at one input. -/
def censusDropsWrong : ChangeSpec := { name := "censusDrops", fn := fun _ => fun
  | [d1, d2, d3, d4, d5] => { results := [.lit (.bool false)], args := [d1, d2, d3, d4, d5] }
  | _ => none }
def CensusDropsWrongFalsely : Prop := censusDropsRow.holds Tryz.pinned (OpenSpec.ofChange censusDropsWrong)

/-- 'skerrylaw39.CensusSums': WHATEVER THE INPUT: true; the input reads as it did. -/
def censusSumsSpec : ChangeSpec := { name := "censusSums", fn := fun _ => fun
  | [d1, d2, d3, d4, d5] => { results := [.lit (.bool true)], args := [d1, d2, d3, d4, d5] }
  | _ => none }
def censusSumsRow : OpenClaim := { program := "ytfkedlgpgmaemaagreatdoor", sum := "b41ffba4c8e570a490b71c9781097abda6bbb9f4ed4f6e3ba26121323c5b13ea", func := "skerry/skerrylaw39.CensusSums", spec := "censusSums", unfollowed := true, recurses := true, named := ["skerry/head.fields"], apart := false, laid := [("skerry/head.fields", laid_skerry_head_fields)] }
def CensusSumsSaid : Prop := censusSumsRow.holds Tryz.pinned (OpenSpec.ofChange censusSumsSpec)

/-- ITS FALSE NEIGHBOUR: 'it returns false'. Refute it at one input. -/
def censusSumsWrong : ChangeSpec := { name := "censusSums", fn := fun _ => fun
  | [d1, d2, d3, d4, d5] => { results := [.lit (.bool false)], args := [d1, d2, d3, d4, d5] }
  | _ => none }
def CensusSumsWrongFalsely : Prop := censusSumsRow.holds Tryz.pinned (OpenSpec.ofChange censusSumsWrong)

/-- 'skerrylaw40.WhyTells': WHATEVER THE INPUT: true; the input reads as it did. -/
def whyTellsSpec : ChangeSpec := { name := "whyTells", fn := fun _ => fun
  | [d1, d2, d3, d4, d5, d6, d7] => { results := [.lit (.bool true)], args := [d1, d2, d3, d4, d5, d6, d7] }
  | _ => none }
def whyTellsRow : OpenClaim := { program := "ytfkedlgpgmaemaagreatdoor", sum := "b41ffba4c8e570a490b71c9781097abda6bbb9f4ed4f6e3ba26121323c5b13ea", func := "skerry/skerrylaw40.WhyTells", spec := "whyTells", unfollowed := true, recurses := true, named := ["skerry/head.fields"], apart := false, laid := [("skerry/head.fields", laid_skerry_head_fields)] }
def WhyTellsSaid : Prop := whyTellsRow.holds Tryz.pinned (OpenSpec.ofChange whyTellsSpec)

/-- ITS FALSE NEIGHBOUR: 'it returns false'. Refute it at one input. -/
def whyTellsWrong : ChangeSpec := { name := "whyTells", fn := fun _ => fun
  | [d1, d2, d3, d4, d5, d6, d7] => { results := [.lit (.bool false)], args := [d1, d2, d3, d4, d5, d6, d7] }
  | _ => none }
def WhyTellsWrongFalsely : Prop := whyTellsRow.holds Tryz.pinned (OpenSpec.ofChange whyTellsWrong)

/- THE SECOND FORM. 'bulk': how many values and letters a reading holds, each counted each time it is reached (what is shared counts as often as it is met; a slice's spare places count too). A statement '..UptoSaid' is the law's where the arguments, and the package variables that the reading takes, are together of bulk at most 1048576: NARROWER than '..Said'. Prove '..Said' where nothing that the law and all that it calls make is longer than what came in: it says more and counts as full. Else prove '..UptoSaid'. A law counts once. -/
mutual
def uptoBulk {H : Type} : DataW H → Nat
  | .lit (.string bytes) => bytes.length + 1
  | .lit _ => 1
  | .nil => 1
  | .ptr d => uptoBulk d + 1
  | .slice elems spare => uptoBulkAll elems + uptoBulkAll spare + 1
  | .agg parts => uptoBulkAll parts + 1
  | .iface _ d => uptoBulk d + 1
  | .map entries => uptoBulkEntries entries + 1
  | .held _ => 1
def uptoBulkAll {H : Type} : List (DataW H) → Nat
  | [] => 0
  | d :: r => uptoBulk d + uptoBulkAll r
def uptoBulkEntries {H : Type} : List (Lit × DataW H) → Nat
  | [] => 0
  | x :: r => uptoBulkEntry x + uptoBulkEntries r
def uptoBulkEntry {H : Type} : Lit × DataW H → Nat
  | (.string bytes, d) => bytes.length + uptoBulk d + 1
  | (_, d) => uptoBulk d + 1
 end
def uptoSmall : (H : Type) → List (DataW H) → Bool := fun _ ds => decide (uptoBulkAll ds ≤ 1048576)
def OpenSpec.upto (s : _root_.Go.ChangeSpec) : _root_.Go.OpenSpec := { _root_.Go.OpenSpec.ofChange s with cond := some uptoSmall }

/-- 'skerrylaw39.CensusTells', WHERE WHAT IT READS IS OF BULK AT MOST 1048576: true; the input reads as it did. -/
def censusTellsUptoRow : OpenClaim := { program := "ytfkedlgpgmaemaagreatdoor", sum := "b41ffba4c8e570a490b71c9781097abda6bbb9f4ed4f6e3ba26121323c5b13ea", func := "skerry/skerrylaw39.CensusTells", spec := "censusTells", unfollowed := true, recurses := true, named := ["skerry/head.fields"], apart := false, laid := [("skerry/head.fields", laid_skerry_head_fields)], narrowed := true }
def CensusTellsUptoSaid : Prop := censusTellsUptoRow.holds Tryz.pinned (OpenSpec.upto censusTellsSpec)

/-- 'skerrylaw39.CensusMost', WHERE WHAT IT READS IS OF BULK AT MOST 1048576: true; the input reads as it did. -/
def censusMostUptoRow : OpenClaim := { program := "ytfkedlgpgmaemaagreatdoor", sum := "b41ffba4c8e570a490b71c9781097abda6bbb9f4ed4f6e3ba26121323c5b13ea", func := "skerry/skerrylaw39.CensusMost", spec := "censusMost", unfollowed := true, recurses := true, named := ["skerry/head.fields"], apart := false, laid := [("skerry/head.fields", laid_skerry_head_fields)], narrowed := true }
def CensusMostUptoSaid : Prop := censusMostUptoRow.holds Tryz.pinned (OpenSpec.upto censusMostSpec)

/-- 'skerrylaw39.CensusDrops', WHERE WHAT IT READS IS OF BULK AT MOST 1048576: true; the input reads as it did. -/
def censusDropsUptoRow : OpenClaim := { program := "ytfkedlgpgmaemaagreatdoor", sum := "b41ffba4c8e570a490b71c9781097abda6bbb9f4ed4f6e3ba26121323c5b13ea", func := "skerry/skerrylaw39.CensusDrops", spec := "censusDrops", unfollowed := true, recurses := true, named := ["skerry/head.fields"], apart := false, laid := [("skerry/head.fields", laid_skerry_head_fields)], narrowed := true }
def CensusDropsUptoSaid : Prop := censusDropsUptoRow.holds Tryz.pinned (OpenSpec.upto censusDropsSpec)

/-- 'skerrylaw39.CensusSums', WHERE WHAT IT READS IS OF BULK AT MOST 1048576: true; the input reads as it did. -/
def censusSumsUptoRow : OpenClaim := { program := "ytfkedlgpgmaemaagreatdoor", sum := "b41ffba4c8e570a490b71c9781097abda6bbb9f4ed4f6e3ba26121323c5b13ea", func := "skerry/skerrylaw39.CensusSums", spec := "censusSums", unfollowed := true, recurses := true, named := ["skerry/head.fields"], apart := false, laid := [("skerry/head.fields", laid_skerry_head_fields)], narrowed := true }
def CensusSumsUptoSaid : Prop := censusSumsUptoRow.holds Tryz.pinned (OpenSpec.upto censusSumsSpec)

/-- 'skerrylaw40.WhyTells', WHERE WHAT IT READS IS OF BULK AT MOST 1048576: true; the input reads as it did. -/
def whyTellsUptoRow : OpenClaim := { program := "ytfkedlgpgmaemaagreatdoor", sum := "b41ffba4c8e570a490b71c9781097abda6bbb9f4ed4f6e3ba26121323c5b13ea", func := "skerry/skerrylaw40.WhyTells", spec := "whyTells", unfollowed := true, recurses := true, named := ["skerry/head.fields"], apart := false, laid := [("skerry/head.fields", laid_skerry_head_fields)], narrowed := true }
def WhyTellsUptoSaid : Prop := whyTellsUptoRow.holds Tryz.pinned (OpenSpec.upto whyTellsSpec)

end Rows
end Go.Proofs.YtfkedlgpgmaemaaGreatDoor
