/-
  No cell of these rows narrows 'for every input' (looked for: loops, veiled, ifaces, maps, wideKeys, modest, calm, conditions, laid).
  DERIVED. THE GIVEN ROWS OF THIS SEAT. 4 by the template 'for every input the law returns true; each argument reads behind the call as it read before'; 0 by the template 'total and deterministic' (their statements: YtfglbbfcjbhmjaaTotals.lean).
  GIVEN WITH THE SEED: the statements are not yours to turn. If you find one false, say at which input.
  Laid BY PROGRAM, IN A SANDBOX (cutbox-rows.mjs): the forced cells as the released guide's own fill.sh prints them over the translation bb27d594fabf2cdf… (all of the seat's roots in one cut). By AI agents, Wed Nov 11 2026. No macro, syntax, notation, axiom, sorry.
-/
import Derived.Test.YtfglbbfcjbhmjaaChecked
import GoSem.Claim
import GoSem.ClaimJoined
import GoSem.ClaimMapViews
import Derived.JoinedTies
import Derived.KernelRfl
namespace Go.Proofs.Ytfglbbfcjbhmjaa
/- THE CELL 'sum', in the pinned program and in every row, IS THE sha256 OF THE DUMP (.gsa) THAT YtfglbbfcjbhmjaaProg.lean LOADS. Nothing in Lean hashes anything: it is a label: what it is worth is what the hold of that sum in a sandbox is worth. -/
noncomputable def Try.pinned : Pinned := { name := "ytfglbbfcjbhmjaa", sum := "bb27d594fabf2cdfef431286c26bc2ea54dc7f5b6aa719fdc5ccaaa017af534b", checked := Try.checked }
namespace Rows
def none {H : Type} : Left H := { results := [], args := [] }

/-- 'skerrylaw01.WordNumbers': WHATEVER THE INPUT: true; the input reads as it did. -/
def wordNumbersSpec : ChangeSpec := { name := "wordNumbers", fn := fun _ => fun
  | [d1, d2, d3] => { results := [.lit (.bool true)], args := [d1, d2, d3] }
  | _ => none }
def wordNumbersRow : OpenClaim := { program := "ytfglbbfcjbhmjaa", sum := "bb27d594fabf2cdfef431286c26bc2ea54dc7f5b6aa719fdc5ccaaa017af534b", func := "skerry/skerrylaw01.WordNumbers", spec := "wordNumbers", apart := false }
def WordNumbersSaid : Prop := wordNumbersRow.holds Try.pinned (OpenSpec.ofChange wordNumbersSpec)

/-- ITS FALSE NEIGHBOUR: 'it returns false'. Refute it at one input. -/
def wordNumbersWrong : ChangeSpec := { name := "wordNumbers", fn := fun _ => fun
  | [d1, d2, d3] => { results := [.lit (.bool false)], args := [d1, d2, d3] }
  | _ => none }
def WordNumbersWrongFalsely : Prop := wordNumbersRow.holds Try.pinned (OpenSpec.ofChange wordNumbersWrong)

/-- 'skerrylaw01.WordPieces': WHATEVER THE INPUT: true; the input reads as it did. -/
def wordPiecesSpec : ChangeSpec := { name := "wordPieces", fn := fun _ => fun
  | [d1, d2, d3, d4] => { results := [.lit (.bool true)], args := [d1, d2, d3, d4] }
  | _ => none }
def wordPiecesRow : OpenClaim := { program := "ytfglbbfcjbhmjaa", sum := "bb27d594fabf2cdfef431286c26bc2ea54dc7f5b6aa719fdc5ccaaa017af534b", func := "skerry/skerrylaw01.WordPieces", spec := "wordPieces", apart := false }
def WordPiecesSaid : Prop := wordPiecesRow.holds Try.pinned (OpenSpec.ofChange wordPiecesSpec)

/-- ITS FALSE NEIGHBOUR: 'it returns false'. Refute it at one input. -/
def wordPiecesWrong : ChangeSpec := { name := "wordPieces", fn := fun _ => fun
  | [d1, d2, d3, d4] => { results := [.lit (.bool false)], args := [d1, d2, d3, d4] }
  | _ => none }
def WordPiecesWrongFalsely : Prop := wordPiecesRow.holds Try.pinned (OpenSpec.ofChange wordPiecesWrong)

/-- 'skerrylaw01.WordBack': WHATEVER THE INPUT: true; the input reads as it did. -/
def wordBackSpec : ChangeSpec := { name := "wordBack", fn := fun _ => fun
  | [d1, d2, d3] => { results := [.lit (.bool true)], args := [d1, d2, d3] }
  | _ => none }
def wordBackRow : OpenClaim := { program := "ytfglbbfcjbhmjaa", sum := "bb27d594fabf2cdfef431286c26bc2ea54dc7f5b6aa719fdc5ccaaa017af534b", func := "skerry/skerrylaw01.WordBack", spec := "wordBack", apart := false }
def WordBackSaid : Prop := wordBackRow.holds Try.pinned (OpenSpec.ofChange wordBackSpec)

/-- ITS FALSE NEIGHBOUR: 'it returns false'. Refute it at one input. -/
def wordBackWrong : ChangeSpec := { name := "wordBack", fn := fun _ => fun
  | [d1, d2, d3] => { results := [.lit (.bool false)], args := [d1, d2, d3] }
  | _ => none }
def WordBackWrongFalsely : Prop := wordBackRow.holds Try.pinned (OpenSpec.ofChange wordBackWrong)

/-- 'skerrylaw01.WordLaid': WHATEVER THE INPUT: true; the input reads as it did. -/
def wordLaidSpec : ChangeSpec := { name := "wordLaid", fn := fun _ => fun
  | [d1, d2, d3, d4] => { results := [.lit (.bool true)], args := [d1, d2, d3, d4] }
  | _ => none }
def wordLaidRow : OpenClaim := { program := "ytfglbbfcjbhmjaa", sum := "bb27d594fabf2cdfef431286c26bc2ea54dc7f5b6aa719fdc5ccaaa017af534b", func := "skerry/skerrylaw01.WordLaid", spec := "wordLaid", apart := false }
def WordLaidSaid : Prop := wordLaidRow.holds Try.pinned (OpenSpec.ofChange wordLaidSpec)

/-- ITS FALSE NEIGHBOUR: 'it returns false'. Refute it at one input. -/
def wordLaidWrong : ChangeSpec := { name := "wordLaid", fn := fun _ => fun
  | [d1, d2, d3, d4] => { results := [.lit (.bool false)], args := [d1, d2, d3, d4] }
  | _ => none }
def WordLaidWrongFalsely : Prop := wordLaidRow.holds Try.pinned (OpenSpec.ofChange wordLaidWrong)

/- THE SECOND FORM. 'bulk': how many values and letters a reading holds, each counted each time it is reached (what is shared counts as often as it is met; a slice's spare places count too). A statement '..UptoSaid' is the law's where the arguments, and the package variables that the reading takes, are together of bulk at most 1048576: NARROWER than '..Said'. Prove '..Said' where nothing that the law and all that it calls make is longer than what came in: it says more and counts as full. Else prove '..UptoSaid'. A law counts once. -/
mutual
def uptoBulk {H : Type} : DataW H → Nat
  | .lit (.string bytes) => bytes.length + 1
  | .lit _ => 1
  | .nil => 1
  | .ptr d => uptoBulk d + 1
  | .slice elems spare => uptoBulkAll elems + uptoBulkAll spare + 1
  | .agg parts => uptoBulkAll parts + 1
  | .iface _ d => uptoBulk d + 1
  | .map entries => uptoBulkEntries entries + 1
  | .held _ => 1
def uptoBulkAll {H : Type} : List (DataW H) → Nat
  | [] => 0
  | d :: r => uptoBulk d + uptoBulkAll r
def uptoBulkEntries {H : Type} : List (Lit × DataW H) → Nat
  | [] => 0
  | x :: r => uptoBulkEntry x + uptoBulkEntries r
def uptoBulkEntry {H : Type} : Lit × DataW H → Nat
  | (.string bytes, d) => bytes.length + uptoBulk d + 1
  | (_, d) => uptoBulk d + 1
 end
def uptoSmall : (H : Type) → List (DataW H) → Bool := fun _ ds => decide (uptoBulkAll ds ≤ 1048576)
def OpenSpec.upto (s : _root_.Go.ChangeSpec) : _root_.Go.OpenSpec := { _root_.Go.OpenSpec.ofChange s with cond := some uptoSmall }

/-- 'skerrylaw01.WordNumbers', WHERE WHAT IT READS IS OF BULK AT MOST 1048576: true; the input reads as it did. -/
def wordNumbersUptoRow : OpenClaim := { program := "ytfglbbfcjbhmjaa", sum := "bb27d594fabf2cdfef431286c26bc2ea54dc7f5b6aa719fdc5ccaaa017af534b", func := "skerry/skerrylaw01.WordNumbers", spec := "wordNumbers", apart := false, narrowed := true }
def WordNumbersUptoSaid : Prop := wordNumbersUptoRow.holds Try.pinned (OpenSpec.upto wordNumbersSpec)

/-- 'skerrylaw01.WordPieces', WHERE WHAT IT READS IS OF BULK AT MOST 1048576: true; the input reads as it did. -/
def wordPiecesUptoRow : OpenClaim := { program := "ytfglbbfcjbhmjaa", sum := "bb27d594fabf2cdfef431286c26bc2ea54dc7f5b6aa719fdc5ccaaa017af534b", func := "skerry/skerrylaw01.WordPieces", spec := "wordPieces", apart := false, narrowed := true }
def WordPiecesUptoSaid : Prop := wordPiecesUptoRow.holds Try.pinned (OpenSpec.upto wordPiecesSpec)

/-- 'skerrylaw01.WordBack', WHERE WHAT IT READS IS OF BULK AT MOST 1048576: true; the input reads as it did. -/
def wordBackUptoRow : OpenClaim := { program := "ytfglbbfcjbhmjaa", sum := "bb27d594fabf2cdfef431286c26bc2ea54dc7f5b6aa719fdc5ccaaa017af534b", func := "skerry/skerrylaw01.WordBack", spec := "wordBack", apart := false, narrowed := true }
def WordBackUptoSaid : Prop := wordBackUptoRow.holds Try.pinned (OpenSpec.upto wordBackSpec)

/-- 'skerrylaw01.WordLaid', WHERE WHAT IT READS IS OF BULK AT MOST 1048576: true; the input reads as it did. -/
def wordLaidUptoRow : OpenClaim := { program := "ytfglbbfcjbhmjaa", sum := "bb27d594fabf2cdfef431286c26bc2ea54dc7f5b6aa719fdc5ccaaa017af534b", func := "skerry/skerrylaw01.WordLaid", spec := "wordLaid", apart := false, narrowed := true }
def WordLaidUptoSaid : Prop := wordLaidUptoRow.holds Try.pinned (OpenSpec.upto wordLaidSpec)

end Rows
end Go.Proofs.Ytfglbbfcjbhmjaa
