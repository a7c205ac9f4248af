/-
  No cell of these rows narrows 'for every input' (looked for: loops, veiled, ifaces, maps, wideKeys, modest, calm, conditions, laid).
  DERIVED. THE GIVEN ROWS OF THIS SEAT. 4 by the template 'for every input the law returns true; each argument reads behind the call as it read before'; 0 by the template 'total and deterministic' (their statements: YtapmbignpdkfbaaTotals.lean).
  GIVEN WITH THE SEED: the statements are not yours to turn. If you find one false, say at which input.
  Laid BY PROGRAM, IN A SANDBOX (cutbox-rows.mjs): the forced cells as the released guide's own fill.sh prints them over the translation 4e3a6756f5ff7e9c… (all of the seat's roots in one cut). By AI agents, Wed Nov 11 2026. No macro, syntax, notation, axiom, sorry.
-/
import Derived.Test.YtapmbignpdkfbaaChecked
import GoSem.Claim
import GoSem.ClaimJoined
import GoSem.ClaimMapViews
import Derived.JoinedTies
import Derived.KernelRfl
namespace Go.Proofs.Ytapmbignpdkfbaa
/- THE CELL 'sum', in the pinned program and in every row, IS THE sha256 OF THE DUMP (.gsa) THAT YtapmbignpdkfbaaProg.lean LOADS. Nothing in Lean hashes anything: it is a label: what it is worth is what the hold of that sum in a sandbox is worth. -/
noncomputable def Try.pinned : Pinned := { name := "ytapmbignpdkfbaa", sum := "4e3a6756f5ff7e9c419aa6875aa6064847ebac0fcd27e1c819ac102ee85b7b50", checked := Try.checked }
namespace Rows
def none {H : Type} : Left H := { results := [], args := [] }

/-- 'skerrylaw17.PinSums': WHATEVER THE INPUT: true; the input reads as it did. -/
def pinSumsSpec : ChangeSpec := { name := "pinSums", fn := fun _ => fun
  | [d1, d2] => { results := [.lit (.bool true)], args := [d1, d2] }
  | _ => none }
def pinSumsRow : OpenClaim := { program := "ytapmbignpdkfbaa", sum := "4e3a6756f5ff7e9c419aa6875aa6064847ebac0fcd27e1c819ac102ee85b7b50", func := "skerry/skerrylaw17.PinSums", spec := "pinSums", unfollowed := true, recurses := true, apart := false }
def PinSumsSaid : Prop := pinSumsRow.holds Try.pinned (OpenSpec.ofChange pinSumsSpec)

/-- ITS FALSE NEIGHBOUR: 'it returns false'. Refute it at one input. -/
def pinSumsWrong : ChangeSpec := { name := "pinSums", fn := fun _ => fun
  | [d1, d2] => { results := [.lit (.bool false)], args := [d1, d2] }
  | _ => none }
def PinSumsWrongFalsely : Prop := pinSumsRow.holds Try.pinned (OpenSpec.ofChange pinSumsWrong)

/-- 'skerrylaw17.PinRises': WHATEVER THE INPUT: true; the input reads as it did. -/
def pinRisesSpec : ChangeSpec := { name := "pinRises", fn := fun _ => fun
  | [d] => { results := [.lit (.bool true)], args := [d] }
  | _ => none }
def pinRisesRow : OpenClaim := { program := "ytapmbignpdkfbaa", sum := "4e3a6756f5ff7e9c419aa6875aa6064847ebac0fcd27e1c819ac102ee85b7b50", func := "skerry/skerrylaw17.PinRises", spec := "pinRises", unfollowed := true, recurses := true, apart := false }
def PinRisesSaid : Prop := pinRisesRow.holds Try.pinned (OpenSpec.ofChange pinRisesSpec)

/-- ITS FALSE NEIGHBOUR: 'it returns false'. Refute it at one input. -/
def pinRisesWrong : ChangeSpec := { name := "pinRises", fn := fun _ => fun
  | [d] => { results := [.lit (.bool false)], args := [d] }
  | _ => none }
def PinRisesWrongFalsely : Prop := pinRisesRow.holds Try.pinned (OpenSpec.ofChange pinRisesWrong)

/-- 'skerrylaw17.PinPlays': WHATEVER THE INPUT: true; the input reads as it did. -/
def pinPlaysSpec : ChangeSpec := { name := "pinPlays", fn := fun _ => fun
  | [d1, d2] => { results := [.lit (.bool true)], args := [d1, d2] }
  | _ => none }
def pinPlaysRow : OpenClaim := { program := "ytapmbignpdkfbaa", sum := "4e3a6756f5ff7e9c419aa6875aa6064847ebac0fcd27e1c819ac102ee85b7b50", func := "skerry/skerrylaw17.PinPlays", spec := "pinPlays", inPlace := ["maps.clone"], unfollowed := true, recurses := true, apart := false }
def PinPlaysSaid : Prop := pinPlaysRow.holds Try.pinned (OpenSpec.ofChange pinPlaysSpec)

/-- ITS FALSE NEIGHBOUR: 'it returns false'. Refute it at one input. -/
def pinPlaysWrong : ChangeSpec := { name := "pinPlays", fn := fun _ => fun
  | [d1, d2] => { results := [.lit (.bool false)], args := [d1, d2] }
  | _ => none }
def PinPlaysWrongFalsely : Prop := pinPlaysRow.holds Try.pinned (OpenSpec.ofChange pinPlaysWrong)

/-- 'skerrylaw17.PinNil': WHATEVER THE INPUT: true; the input reads as it did. -/
def pinNilSpec : ChangeSpec := { name := "pinNil", fn := fun _ => fun
  | [d] => { results := [.lit (.bool true)], args := [d] }
  | _ => none }
def pinNilRow : OpenClaim := { program := "ytapmbignpdkfbaa", sum := "4e3a6756f5ff7e9c419aa6875aa6064847ebac0fcd27e1c819ac102ee85b7b50", func := "skerry/skerrylaw17.PinNil", spec := "pinNil", inPlace := ["maps.clone"], unfollowed := true, recurses := true, apart := false }
def PinNilSaid : Prop := pinNilRow.holds Try.pinned (OpenSpec.ofChange pinNilSpec)

/-- ITS FALSE NEIGHBOUR: 'it returns false'. Refute it at one input. -/
def pinNilWrong : ChangeSpec := { name := "pinNil", fn := fun _ => fun
  | [d] => { results := [.lit (.bool false)], args := [d] }
  | _ => none }
def PinNilWrongFalsely : Prop := pinNilRow.holds Try.pinned (OpenSpec.ofChange pinNilWrong)

/- THE SECOND FORM. 'bulk': how many values and letters a reading holds, each counted each time it is reached (what is shared counts as often as it is met; a slice's spare places count too). A statement '..UptoSaid' is the law's where the arguments, and the package variables that the reading takes, are together of bulk at most 1048576: NARROWER than '..Said'. Prove '..Said' where nothing that the law and all that it calls make is longer than what came in: it says more and counts as full. Else prove '..UptoSaid'. A law counts once. -/
mutual
def uptoBulk {H : Type} : DataW H → Nat
  | .lit (.string bytes) => bytes.length + 1
  | .lit _ => 1
  | .nil => 1
  | .ptr d => uptoBulk d + 1
  | .slice elems spare => uptoBulkAll elems + uptoBulkAll spare + 1
  | .agg parts => uptoBulkAll parts + 1
  | .iface _ d => uptoBulk d + 1
  | .map entries => uptoBulkEntries entries + 1
  | .held _ => 1
def uptoBulkAll {H : Type} : List (DataW H) → Nat
  | [] => 0
  | d :: r => uptoBulk d + uptoBulkAll r
def uptoBulkEntries {H : Type} : List (Lit × DataW H) → Nat
  | [] => 0
  | x :: r => uptoBulkEntry x + uptoBulkEntries r
def uptoBulkEntry {H : Type} : Lit × DataW H → Nat
  | (.string bytes, d) => bytes.length + uptoBulk d + 1
  | (_, d) => uptoBulk d + 1
 end
def uptoSmall : (H : Type) → List (DataW H) → Bool := fun _ ds => decide (uptoBulkAll ds ≤ 1048576)
def OpenSpec.upto (s : _root_.Go.ChangeSpec) : _root_.Go.OpenSpec := { _root_.Go.OpenSpec.ofChange s with cond := some uptoSmall }

/-- 'skerrylaw17.PinSums', WHERE WHAT IT READS IS OF BULK AT MOST 1048576: true; the input reads as it did. -/
def pinSumsUptoRow : OpenClaim := { program := "ytapmbignpdkfbaa", sum := "4e3a6756f5ff7e9c419aa6875aa6064847ebac0fcd27e1c819ac102ee85b7b50", func := "skerry/skerrylaw17.PinSums", spec := "pinSums", unfollowed := true, recurses := true, apart := false, narrowed := true }
def PinSumsUptoSaid : Prop := pinSumsUptoRow.holds Try.pinned (OpenSpec.upto pinSumsSpec)

/-- 'skerrylaw17.PinRises', WHERE WHAT IT READS IS OF BULK AT MOST 1048576: true; the input reads as it did. -/
def pinRisesUptoRow : OpenClaim := { program := "ytapmbignpdkfbaa", sum := "4e3a6756f5ff7e9c419aa6875aa6064847ebac0fcd27e1c819ac102ee85b7b50", func := "skerry/skerrylaw17.PinRises", spec := "pinRises", unfollowed := true, recurses := true, apart := false, narrowed := true }
def PinRisesUptoSaid : Prop := pinRisesUptoRow.holds Try.pinned (OpenSpec.upto pinRisesSpec)

/-- 'skerrylaw17.PinPlays', WHERE WHAT IT READS IS OF BULK AT MOST 1048576: true; the input reads as it did. -/
def pinPlaysUptoRow : OpenClaim := { program := "ytapmbignpdkfbaa", sum := "4e3a6756f5ff7e9c419aa6875aa6064847ebac0fcd27e1c819ac102ee85b7b50", func := "skerry/skerrylaw17.PinPlays", spec := "pinPlays", inPlace := ["maps.clone"], unfollowed := true, recurses := true, apart := false, narrowed := true }
def PinPlaysUptoSaid : Prop := pinPlaysUptoRow.holds Try.pinned (OpenSpec.upto pinPlaysSpec)

/-- 'skerrylaw17.PinNil', WHERE WHAT IT READS IS OF BULK AT MOST 1048576: true; the input reads as it did. -/
def pinNilUptoRow : OpenClaim := { program := "ytapmbignpdkfbaa", sum := "4e3a6756f5ff7e9c419aa6875aa6064847ebac0fcd27e1c819ac102ee85b7b50", func := "skerry/skerrylaw17.PinNil", spec := "pinNil", inPlace := ["maps.clone"], unfollowed := true, recurses := true, apart := false, narrowed := true }
def PinNilUptoSaid : Prop := pinNilUptoRow.holds Try.pinned (OpenSpec.upto pinNilSpec)

end Rows
end Go.Proofs.Ytapmbignpdkfbaa
