/-
  No cell of these rows narrows 'for every input' (looked for: loops, veiled, ifaces, maps, wideKeys, modest, calm, conditions, laid).
  DERIVED. THE GIVEN ROWS OF THIS SEAT. 8 by the template 'for every input the law returns true; each argument reads behind the call as it read before'; 0 by the template 'total and deterministic' (their statements: YtpjcgjbobljaeaaTotals.lean).
  GIVEN WITH THE SEED: the statements are not yours to turn. If you find one false, say at which input.
  Laid BY PROGRAM, IN A SANDBOX (cutbox-rows.mjs): the forced cells as the released guide's own fill.sh prints them over the translation 6f6055c9befa226e… (all of the seat's roots in one cut). By AI agents, Wed Nov 11 2026. No macro, syntax, notation, axiom, sorry.
-/
import Derived.Test.YtpjcgjbobljaeaaChecked
import GoSem.Claim
import GoSem.ClaimJoined
import GoSem.ClaimMapViews
import Derived.JoinedTies
import Derived.KernelRfl
namespace Go.Proofs.Ytpjcgjbobljaeaa
/- THE CELL 'sum', in the pinned program and in every row, IS THE sha256 OF THE DUMP (.gsa) THAT YtpjcgjbobljaeaaProg.lean LOADS. Nothing in Lean hashes anything: it is a label: what it is worth is what the hold of that sum in a sandbox is worth. -/
noncomputable def Try.pinned : Pinned := { name := "ytpjcgjbobljaeaa", sum := "6f6055c9befa226e629cfba7fb38b229a4c503049971e4f31d91d6e0edaf207f", checked := Try.checked }
namespace Rows
def none {H : Type} : Left H := { results := [], args := [] }

/-- 'skerrylaw03.BitsSums': WHATEVER THE INPUT: true; the input reads as it did. -/
def bitsSumsSpec : ChangeSpec := { name := "bitsSums", fn := fun _ => fun
  | [d1, d2, d3, d4, d5] => { results := [.lit (.bool true)], args := [d1, d2, d3, d4, d5] }
  | _ => none }
def bitsSumsRow : OpenClaim := { program := "ytpjcgjbobljaeaa", sum := "6f6055c9befa226e629cfba7fb38b229a4c503049971e4f31d91d6e0edaf207f", func := "skerry/skerrylaw03.BitsSums", spec := "bitsSums", unfollowed := true, recurses := true, apart := false }
def BitsSumsSaid : Prop := bitsSumsRow.holds Try.pinned (OpenSpec.ofChange bitsSumsSpec)

/-- ITS FALSE NEIGHBOUR: 'it returns false'. Refute it at one input. -/
def bitsSumsWrong : ChangeSpec := { name := "bitsSums", fn := fun _ => fun
  | [d1, d2, d3, d4, d5] => { results := [.lit (.bool false)], args := [d1, d2, d3, d4, d5] }
  | _ => none }
def BitsSumsWrongFalsely : Prop := bitsSumsRow.holds Try.pinned (OpenSpec.ofChange bitsSumsWrong)

/-- 'skerrylaw03.BitsRuns': WHATEVER THE INPUT: true; the input reads as it did. -/
def bitsRunsSpec : ChangeSpec := { name := "bitsRuns", fn := fun _ => fun
  | [d1, d2] => { results := [.lit (.bool true)], args := [d1, d2] }
  | _ => none }
def bitsRunsRow : OpenClaim := { program := "ytpjcgjbobljaeaa", sum := "6f6055c9befa226e629cfba7fb38b229a4c503049971e4f31d91d6e0edaf207f", func := "skerry/skerrylaw03.BitsRuns", spec := "bitsRuns", unfollowed := true, recurses := true, apart := false }
def BitsRunsSaid : Prop := bitsRunsRow.holds Try.pinned (OpenSpec.ofChange bitsRunsSpec)

/-- ITS FALSE NEIGHBOUR: 'it returns false'. Refute it at one input. -/
def bitsRunsWrong : ChangeSpec := { name := "bitsRuns", fn := fun _ => fun
  | [d1, d2] => { results := [.lit (.bool false)], args := [d1, d2] }
  | _ => none }
def BitsRunsWrongFalsely : Prop := bitsRunsRow.holds Try.pinned (OpenSpec.ofChange bitsRunsWrong)

/-- 'skerrylaw03.BitsPlay': WHATEVER THE INPUT: true; the input reads as it did. -/
def bitsPlaySpec : ChangeSpec := { name := "bitsPlay", fn := fun _ => fun
  | [d1, d2] => { results := [.lit (.bool true)], args := [d1, d2] }
  | _ => none }
def bitsPlayRow : OpenClaim := { program := "ytpjcgjbobljaeaa", sum := "6f6055c9befa226e629cfba7fb38b229a4c503049971e4f31d91d6e0edaf207f", func := "skerry/skerrylaw03.BitsPlay", spec := "bitsPlay", unfollowed := true, recurses := true, apart := false }
def BitsPlaySaid : Prop := bitsPlayRow.holds Try.pinned (OpenSpec.ofChange bitsPlaySpec)

/-- ITS FALSE NEIGHBOUR: 'it returns false'. Refute it at one input. -/
def bitsPlayWrong : ChangeSpec := { name := "bitsPlay", fn := fun _ => fun
  | [d1, d2] => { results := [.lit (.bool false)], args := [d1, d2] }
  | _ => none }
def BitsPlayWrongFalsely : Prop := bitsPlayRow.holds Try.pinned (OpenSpec.ofChange bitsPlayWrong)

/-- 'skerrylaw03.BitsNil': WHATEVER THE INPUT: true; the input reads as it did. -/
def bitsNilSpec : ChangeSpec := { name := "bitsNil", fn := fun _ => fun
  | [d1, d2] => { results := [.lit (.bool true)], args := [d1, d2] }
  | _ => none }
def bitsNilRow : OpenClaim := { program := "ytpjcgjbobljaeaa", sum := "6f6055c9befa226e629cfba7fb38b229a4c503049971e4f31d91d6e0edaf207f", func := "skerry/skerrylaw03.BitsNil", spec := "bitsNil", unfollowed := true, recurses := true, apart := false }
def BitsNilSaid : Prop := bitsNilRow.holds Try.pinned (OpenSpec.ofChange bitsNilSpec)

/-- ITS FALSE NEIGHBOUR: 'it returns false'. Refute it at one input. -/
def bitsNilWrong : ChangeSpec := { name := "bitsNil", fn := fun _ => fun
  | [d1, d2] => { results := [.lit (.bool false)], args := [d1, d2] }
  | _ => none }
def BitsNilWrongFalsely : Prop := bitsNilRow.holds Try.pinned (OpenSpec.ofChange bitsNilWrong)

/-- 'skerrylaw12.BlackAges': WHATEVER THE INPUT: true; the input reads as it did. -/
def blackAgesSpec : ChangeSpec := { name := "blackAges", fn := fun _ => fun
  | [d1, d2, d3] => { results := [.lit (.bool true)], args := [d1, d2, d3] }
  | _ => none }
def blackAgesRow : OpenClaim := { program := "ytpjcgjbobljaeaa", sum := "6f6055c9befa226e629cfba7fb38b229a4c503049971e4f31d91d6e0edaf207f", func := "skerry/skerrylaw12.BlackAges", spec := "blackAges", unfollowed := true, recurses := true, apart := false }
def BlackAgesSaid : Prop := blackAgesRow.holds Try.pinned (OpenSpec.ofChange blackAgesSpec)

/-- ITS FALSE NEIGHBOUR: 'it returns false'. Refute it at one input. -/
def blackAgesWrong : ChangeSpec := { name := "blackAges", fn := fun _ => fun
  | [d1, d2, d3] => { results := [.lit (.bool false)], args := [d1, d2, d3] }
  | _ => none }
def BlackAgesWrongFalsely : Prop := blackAgesRow.holds Try.pinned (OpenSpec.ofChange blackAgesWrong)

/-- 'skerrylaw12.BlackRoom': WHATEVER THE INPUT: true; the input reads as it did. -/
def blackRoomSpec : ChangeSpec := { name := "blackRoom", fn := fun _ => fun
  | [d1, d2, d3, d4, d5] => { results := [.lit (.bool true)], args := [d1, d2, d3, d4, d5] }
  | _ => none }
def blackRoomRow : OpenClaim := { program := "ytpjcgjbobljaeaa", sum := "6f6055c9befa226e629cfba7fb38b229a4c503049971e4f31d91d6e0edaf207f", func := "skerry/skerrylaw12.BlackRoom", spec := "blackRoom", unfollowed := true, recurses := true, apart := false }
def BlackRoomSaid : Prop := blackRoomRow.holds Try.pinned (OpenSpec.ofChange blackRoomSpec)

/-- ITS FALSE NEIGHBOUR: 'it returns false'. Refute it at one input. -/
def blackRoomWrong : ChangeSpec := { name := "blackRoom", fn := fun _ => fun
  | [d1, d2, d3, d4, d5] => { results := [.lit (.bool false)], args := [d1, d2, d3, d4, d5] }
  | _ => none }
def BlackRoomWrongFalsely : Prop := blackRoomRow.holds Try.pinned (OpenSpec.ofChange blackRoomWrong)

/-- 'skerrylaw12.BlackPlays': WHATEVER THE INPUT: true; the input reads as it did. -/
def blackPlaysSpec : ChangeSpec := { name := "blackPlays", fn := fun _ => fun
  | [d1, d2, d3, d4, d5] => { results := [.lit (.bool true)], args := [d1, d2, d3, d4, d5] }
  | _ => none }
def blackPlaysRow : OpenClaim := { program := "ytpjcgjbobljaeaa", sum := "6f6055c9befa226e629cfba7fb38b229a4c503049971e4f31d91d6e0edaf207f", func := "skerry/skerrylaw12.BlackPlays", spec := "blackPlays", unfollowed := true, recurses := true, apart := false }
def BlackPlaysSaid : Prop := blackPlaysRow.holds Try.pinned (OpenSpec.ofChange blackPlaysSpec)

/-- ITS FALSE NEIGHBOUR: 'it returns false'. Refute it at one input. -/
def blackPlaysWrong : ChangeSpec := { name := "blackPlays", fn := fun _ => fun
  | [d1, d2, d3, d4, d5] => { results := [.lit (.bool false)], args := [d1, d2, d3, d4, d5] }
  | _ => none }
def BlackPlaysWrongFalsely : Prop := blackPlaysRow.holds Try.pinned (OpenSpec.ofChange blackPlaysWrong)

/-- 'skerrylaw12.BlackNil': WHATEVER THE INPUT: true; the input reads as it did. -/
def blackNilSpec : ChangeSpec := { name := "blackNil", fn := fun _ => fun
  | [d1, d2] => { results := [.lit (.bool true)], args := [d1, d2] }
  | _ => none }
def blackNilRow : OpenClaim := { program := "ytpjcgjbobljaeaa", sum := "6f6055c9befa226e629cfba7fb38b229a4c503049971e4f31d91d6e0edaf207f", func := "skerry/skerrylaw12.BlackNil", spec := "blackNil", unfollowed := true, recurses := true, apart := false }
def BlackNilSaid : Prop := blackNilRow.holds Try.pinned (OpenSpec.ofChange blackNilSpec)

/-- ITS FALSE NEIGHBOUR: 'it returns false'. Refute it at one input. -/
def blackNilWrong : ChangeSpec := { name := "blackNil", fn := fun _ => fun
  | [d1, d2] => { results := [.lit (.bool false)], args := [d1, d2] }
  | _ => none }
def BlackNilWrongFalsely : Prop := blackNilRow.holds Try.pinned (OpenSpec.ofChange blackNilWrong)

/- THE SECOND FORM. 'bulk': how many values and letters a reading holds, each counted each time it is reached (what is shared counts as often as it is met; a slice's spare places count too). A statement '..UptoSaid' is the law's where the arguments, and the package variables that the reading takes, are together of bulk at most 1048576: NARROWER than '..Said'. Prove '..Said' where nothing that the law and all that it calls make is longer than what came in: it says more and counts as full. Else prove '..UptoSaid'. A law counts once. -/
mutual
def uptoBulk {H : Type} : DataW H → Nat
  | .lit (.string bytes) => bytes.length + 1
  | .lit _ => 1
  | .nil => 1
  | .ptr d => uptoBulk d + 1
  | .slice elems spare => uptoBulkAll elems + uptoBulkAll spare + 1
  | .agg parts => uptoBulkAll parts + 1
  | .iface _ d => uptoBulk d + 1
  | .map entries => uptoBulkEntries entries + 1
  | .held _ => 1
def uptoBulkAll {H : Type} : List (DataW H) → Nat
  | [] => 0
  | d :: r => uptoBulk d + uptoBulkAll r
def uptoBulkEntries {H : Type} : List (Lit × DataW H) → Nat
  | [] => 0
  | x :: r => uptoBulkEntry x + uptoBulkEntries r
def uptoBulkEntry {H : Type} : Lit × DataW H → Nat
  | (.string bytes, d) => bytes.length + uptoBulk d + 1
  | (_, d) => uptoBulk d + 1
 end
def uptoSmall : (H : Type) → List (DataW H) → Bool := fun _ ds => decide (uptoBulkAll ds ≤ 1048576)
def OpenSpec.upto (s : _root_.Go.ChangeSpec) : _root_.Go.OpenSpec := { _root_.Go.OpenSpec.ofChange s with cond := some uptoSmall }

/-- 'skerrylaw03.BitsSums', WHERE WHAT IT READS IS OF BULK AT MOST 1048576: true; the input reads as it did. -/
def bitsSumsUptoRow : OpenClaim := { program := "ytpjcgjbobljaeaa", sum := "6f6055c9befa226e629cfba7fb38b229a4c503049971e4f31d91d6e0edaf207f", func := "skerry/skerrylaw03.BitsSums", spec := "bitsSums", unfollowed := true, recurses := true, apart := false, narrowed := true }
def BitsSumsUptoSaid : Prop := bitsSumsUptoRow.holds Try.pinned (OpenSpec.upto bitsSumsSpec)

/-- 'skerrylaw03.BitsRuns', WHERE WHAT IT READS IS OF BULK AT MOST 1048576: true; the input reads as it did. -/
def bitsRunsUptoRow : OpenClaim := { program := "ytpjcgjbobljaeaa", sum := "6f6055c9befa226e629cfba7fb38b229a4c503049971e4f31d91d6e0edaf207f", func := "skerry/skerrylaw03.BitsRuns", spec := "bitsRuns", unfollowed := true, recurses := true, apart := false, narrowed := true }
def BitsRunsUptoSaid : Prop := bitsRunsUptoRow.holds Try.pinned (OpenSpec.upto bitsRunsSpec)

/-- 'skerrylaw03.BitsPlay', WHERE WHAT IT READS IS OF BULK AT MOST 1048576: true; the input reads as it did. -/
def bitsPlayUptoRow : OpenClaim := { program := "ytpjcgjbobljaeaa", sum := "6f6055c9befa226e629cfba7fb38b229a4c503049971e4f31d91d6e0edaf207f", func := "skerry/skerrylaw03.BitsPlay", spec := "bitsPlay", unfollowed := true, recurses := true, apart := false, narrowed := true }
def BitsPlayUptoSaid : Prop := bitsPlayUptoRow.holds Try.pinned (OpenSpec.upto bitsPlaySpec)

/-- 'skerrylaw03.BitsNil', WHERE WHAT IT READS IS OF BULK AT MOST 1048576: true; the input reads as it did. -/
def bitsNilUptoRow : OpenClaim := { program := "ytpjcgjbobljaeaa", sum := "6f6055c9befa226e629cfba7fb38b229a4c503049971e4f31d91d6e0edaf207f", func := "skerry/skerrylaw03.BitsNil", spec := "bitsNil", unfollowed := true, recurses := true, apart := false, narrowed := true }
def BitsNilUptoSaid : Prop := bitsNilUptoRow.holds Try.pinned (OpenSpec.upto bitsNilSpec)

/-- 'skerrylaw12.BlackAges', WHERE WHAT IT READS IS OF BULK AT MOST 1048576: true; the input reads as it did. -/
def blackAgesUptoRow : OpenClaim := { program := "ytpjcgjbobljaeaa", sum := "6f6055c9befa226e629cfba7fb38b229a4c503049971e4f31d91d6e0edaf207f", func := "skerry/skerrylaw12.BlackAges", spec := "blackAges", unfollowed := true, recurses := true, apart := false, narrowed := true }
def BlackAgesUptoSaid : Prop := blackAgesUptoRow.holds Try.pinned (OpenSpec.upto blackAgesSpec)

/-- 'skerrylaw12.BlackRoom', WHERE WHAT IT READS IS OF BULK AT MOST 1048576: true; the input reads as it did. -/
def blackRoomUptoRow : OpenClaim := { program := "ytpjcgjbobljaeaa", sum := "6f6055c9befa226e629cfba7fb38b229a4c503049971e4f31d91d6e0edaf207f", func := "skerry/skerrylaw12.BlackRoom", spec := "blackRoom", unfollowed := true, recurses := true, apart := false, narrowed := true }
def BlackRoomUptoSaid : Prop := blackRoomUptoRow.holds Try.pinned (OpenSpec.upto blackRoomSpec)

/-- 'skerrylaw12.BlackPlays', WHERE WHAT IT READS IS OF BULK AT MOST 1048576: true; the input reads as it did. -/
def blackPlaysUptoRow : OpenClaim := { program := "ytpjcgjbobljaeaa", sum := "6f6055c9befa226e629cfba7fb38b229a4c503049971e4f31d91d6e0edaf207f", func := "skerry/skerrylaw12.BlackPlays", spec := "blackPlays", unfollowed := true, recurses := true, apart := false, narrowed := true }
def BlackPlaysUptoSaid : Prop := blackPlaysUptoRow.holds Try.pinned (OpenSpec.upto blackPlaysSpec)

/-- 'skerrylaw12.BlackNil', WHERE WHAT IT READS IS OF BULK AT MOST 1048576: true; the input reads as it did. -/
def blackNilUptoRow : OpenClaim := { program := "ytpjcgjbobljaeaa", sum := "6f6055c9befa226e629cfba7fb38b229a4c503049971e4f31d91d6e0edaf207f", func := "skerry/skerrylaw12.BlackNil", spec := "blackNil", unfollowed := true, recurses := true, apart := false, narrowed := true }
def BlackNilUptoSaid : Prop := blackNilUptoRow.holds Try.pinned (OpenSpec.upto blackNilSpec)

end Rows
end Go.Proofs.Ytpjcgjbobljaeaa
