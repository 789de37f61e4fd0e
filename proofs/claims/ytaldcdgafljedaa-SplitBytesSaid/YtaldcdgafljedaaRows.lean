/-
  No cell of these rows narrows 'for every input' (looked for: loops, veiled, ifaces, maps, wideKeys, modest, calm, conditions, laid).
  DERIVED. THE GIVEN ROWS OF THIS SEAT. 6 by the template 'for every input the law returns true; each argument reads behind the call as it read before'; 0 by the template 'total and deterministic' (their statements: YtaldcdgafljedaaTotals.lean).
  GIVEN WITH THE SEED: the statements are not yours to turn. If you find one false, say at which input.
  Laid BY PROGRAM, IN A SANDBOX (cutbox-rows.mjs): the forced cells as the released guide's own fill.sh prints them over the translation 3e242edfc17403e0… (all of the seat's roots in one cut). By AI agents, Wed Nov 11 2026. No macro, syntax, notation, axiom, sorry.
-/
import Derived.Test.YtaldcdgafljedaaChecked
import GoSem.Claim
import GoSem.ClaimJoined
import GoSem.ClaimMapViews
import Derived.JoinedTies
import Derived.KernelRfl
namespace Go.Proofs.Ytaldcdgafljedaa
/- THE CELL 'sum', in the pinned program and in every row, IS THE sha256 OF THE DUMP (.gsa) THAT YtaldcdgafljedaaProg.lean LOADS. Nothing in Lean hashes anything: it is a label: what it is worth is what the hold of that sum in a sandbox is worth. -/
noncomputable def Try.pinned : Pinned := { name := "ytaldcdgafljedaa", sum := "3e242edfc17403e0054c14eb052029d8fcd67ca604115715fcfbeb77d0177f44", checked := Try.checked }
namespace Rows
def none {H : Type} : Left H := { results := [], args := [] }

/-- 'balerlaw19.SplitRoom': WHATEVER THE INPUT: true; the input reads as it did. -/
def splitRoomSpec : ChangeSpec := { name := "splitRoom", fn := fun _ => fun
  | [d1, d2] => { results := [.lit (.bool true)], args := [d1, d2] }
  | _ => none }
def splitRoomRow : OpenClaim := { program := "ytaldcdgafljedaa", sum := "3e242edfc17403e0054c14eb052029d8fcd67ca604115715fcfbeb77d0177f44", func := "baler/balerlaw19.SplitRoom", spec := "splitRoom", inPlace := ["internal/abi.NoEscape", "internal/bytealg.MakeNoZero"], apart := false }
def SplitRoomSaid : Prop := splitRoomRow.holds Try.pinned (OpenSpec.ofChange splitRoomSpec)

/-- ITS FALSE NEIGHBOUR: 'it returns false'. Refute it at one input. -/
def splitRoomWrong : ChangeSpec := { name := "splitRoom", fn := fun _ => fun
  | [d1, d2] => { results := [.lit (.bool false)], args := [d1, d2] }
  | _ => none }
def SplitRoomWrongFalsely : Prop := splitRoomRow.holds Try.pinned (OpenSpec.ofChange splitRoomWrong)

/-- 'balerlaw19.SplitOf': WHATEVER THE INPUT: true; the input reads as it did. -/
def splitOfSpec : ChangeSpec := { name := "splitOf", fn := fun _ => fun
  | [d1, d2] => { results := [.lit (.bool true)], args := [d1, d2] }
  | _ => none }
def splitOfRow : OpenClaim := { program := "ytaldcdgafljedaa", sum := "3e242edfc17403e0054c14eb052029d8fcd67ca604115715fcfbeb77d0177f44", func := "baler/balerlaw19.SplitOf", spec := "splitOf", inPlace := ["internal/abi.NoEscape", "internal/bytealg.MakeNoZero"], apart := false }
def SplitOfSaid : Prop := splitOfRow.holds Try.pinned (OpenSpec.ofChange splitOfSpec)

/-- ITS FALSE NEIGHBOUR: 'it returns false'. Refute it at one input. -/
def splitOfWrong : ChangeSpec := { name := "splitOf", fn := fun _ => fun
  | [d1, d2] => { results := [.lit (.bool false)], args := [d1, d2] }
  | _ => none }
def SplitOfWrongFalsely : Prop := splitOfRow.holds Try.pinned (OpenSpec.ofChange splitOfWrong)

/-- 'balerlaw19.SplitWhole': WHATEVER THE INPUT: true; the input reads as it did. -/
def splitWholeSpec : ChangeSpec := { name := "splitWhole", fn := fun _ => fun
  | [d1, d2] => { results := [.lit (.bool true)], args := [d1, d2] }
  | _ => none }
def splitWholeRow : OpenClaim := { program := "ytaldcdgafljedaa", sum := "3e242edfc17403e0054c14eb052029d8fcd67ca604115715fcfbeb77d0177f44", func := "baler/balerlaw19.SplitWhole", spec := "splitWhole", inPlace := ["internal/abi.NoEscape", "internal/bytealg.MakeNoZero"], apart := false }
def SplitWholeSaid : Prop := splitWholeRow.holds Try.pinned (OpenSpec.ofChange splitWholeSpec)

/-- ITS FALSE NEIGHBOUR: 'it returns false'. Refute it at one input. -/
def splitWholeWrong : ChangeSpec := { name := "splitWhole", fn := fun _ => fun
  | [d1, d2] => { results := [.lit (.bool false)], args := [d1, d2] }
  | _ => none }
def SplitWholeWrongFalsely : Prop := splitWholeRow.holds Try.pinned (OpenSpec.ofChange splitWholeWrong)

/-- 'balerlaw19.SplitFull': WHATEVER THE INPUT: true; the input reads as it did. -/
def splitFullSpec : ChangeSpec := { name := "splitFull", fn := fun _ => fun
  | [d1, d2] => { results := [.lit (.bool true)], args := [d1, d2] }
  | _ => none }
def splitFullRow : OpenClaim := { program := "ytaldcdgafljedaa", sum := "3e242edfc17403e0054c14eb052029d8fcd67ca604115715fcfbeb77d0177f44", func := "baler/balerlaw19.SplitFull", spec := "splitFull", inPlace := ["internal/abi.NoEscape", "internal/bytealg.MakeNoZero"], apart := false }
def SplitFullSaid : Prop := splitFullRow.holds Try.pinned (OpenSpec.ofChange splitFullSpec)

/-- ITS FALSE NEIGHBOUR: 'it returns false'. Refute it at one input. -/
def splitFullWrong : ChangeSpec := { name := "splitFull", fn := fun _ => fun
  | [d1, d2] => { results := [.lit (.bool false)], args := [d1, d2] }
  | _ => none }
def SplitFullWrongFalsely : Prop := splitFullRow.holds Try.pinned (OpenSpec.ofChange splitFullWrong)

/-- 'balerlaw19.SplitBytes': WHATEVER THE INPUT: true; the input reads as it did. -/
def splitBytesSpec : ChangeSpec := { name := "splitBytes", fn := fun _ => fun
  | [d1, d2] => { results := [.lit (.bool true)], args := [d1, d2] }
  | _ => none }
def splitBytesRow : OpenClaim := { program := "ytaldcdgafljedaa", sum := "3e242edfc17403e0054c14eb052029d8fcd67ca604115715fcfbeb77d0177f44", func := "baler/balerlaw19.SplitBytes", spec := "splitBytes", inPlace := ["internal/abi.NoEscape", "internal/bytealg.MakeNoZero"], apart := false }
def SplitBytesSaid : Prop := splitBytesRow.holds Try.pinned (OpenSpec.ofChange splitBytesSpec)

/-- ITS FALSE NEIGHBOUR: 'it returns false'. Refute it at one input. -/
def splitBytesWrong : ChangeSpec := { name := "splitBytes", fn := fun _ => fun
  | [d1, d2] => { results := [.lit (.bool false)], args := [d1, d2] }
  | _ => none }
def SplitBytesWrongFalsely : Prop := splitBytesRow.holds Try.pinned (OpenSpec.ofChange splitBytesWrong)

/-- 'balerlaw19.SplitNil': WHATEVER THE INPUT: true; the input reads as it did. -/
def splitNilSpec : ChangeSpec := { name := "splitNil", fn := fun _ => fun
  | [d] => { results := [.lit (.bool true)], args := [d] }
  | _ => none }
def splitNilRow : OpenClaim := { program := "ytaldcdgafljedaa", sum := "3e242edfc17403e0054c14eb052029d8fcd67ca604115715fcfbeb77d0177f44", func := "baler/balerlaw19.SplitNil", spec := "splitNil", inPlace := ["internal/abi.NoEscape", "internal/bytealg.MakeNoZero"], apart := false }
def SplitNilSaid : Prop := splitNilRow.holds Try.pinned (OpenSpec.ofChange splitNilSpec)

/-- ITS FALSE NEIGHBOUR: 'it returns false'. Refute it at one input. -/
def splitNilWrong : ChangeSpec := { name := "splitNil", fn := fun _ => fun
  | [d] => { results := [.lit (.bool false)], args := [d] }
  | _ => none }
def SplitNilWrongFalsely : Prop := splitNilRow.holds Try.pinned (OpenSpec.ofChange splitNilWrong)

/- THE SECOND FORM. 'bulk': how many values and letters a reading holds, each counted each time it is reached (what is shared counts as often as it is met; a slice's spare places count too). A statement '..UptoSaid' is the law's where the arguments, and the package variables that the reading takes, are together of bulk at most 1048576: NARROWER than '..Said'. Prove '..Said' where nothing that the law and all that it calls make is longer than what came in: it says more and counts as full. Else prove '..UptoSaid'. A law counts once. -/
mutual
def uptoBulk {H : Type} : DataW H → Nat
  | .lit (.string bytes) => bytes.length + 1
  | .lit _ => 1
  | .nil => 1
  | .ptr d => uptoBulk d + 1
  | .slice elems spare => uptoBulkAll elems + uptoBulkAll spare + 1
  | .agg parts => uptoBulkAll parts + 1
  | .iface _ d => uptoBulk d + 1
  | .map entries => uptoBulkEntries entries + 1
  | .held _ => 1
def uptoBulkAll {H : Type} : List (DataW H) → Nat
  | [] => 0
  | d :: r => uptoBulk d + uptoBulkAll r
def uptoBulkEntries {H : Type} : List (Lit × DataW H) → Nat
  | [] => 0
  | x :: r => uptoBulkEntry x + uptoBulkEntries r
def uptoBulkEntry {H : Type} : Lit × DataW H → Nat
  | (.string bytes, d) => bytes.length + uptoBulk d + 1
  | (_, d) => uptoBulk d + 1
 end
def uptoSmall : (H : Type) → List (DataW H) → Bool := fun _ ds => decide (uptoBulkAll ds ≤ 1048576)
def OpenSpec.upto (s : _root_.Go.ChangeSpec) : _root_.Go.OpenSpec := { _root_.Go.OpenSpec.ofChange s with cond := some uptoSmall }

/-- 'balerlaw19.SplitRoom', WHERE WHAT IT READS IS OF BULK AT MOST 1048576: true; the input reads as it did. -/
def splitRoomUptoRow : OpenClaim := { program := "ytaldcdgafljedaa", sum := "3e242edfc17403e0054c14eb052029d8fcd67ca604115715fcfbeb77d0177f44", func := "baler/balerlaw19.SplitRoom", spec := "splitRoom", inPlace := ["internal/abi.NoEscape", "internal/bytealg.MakeNoZero"], apart := false, narrowed := true }
def SplitRoomUptoSaid : Prop := splitRoomUptoRow.holds Try.pinned (OpenSpec.upto splitRoomSpec)

/-- 'balerlaw19.SplitOf', WHERE WHAT IT READS IS OF BULK AT MOST 1048576: true; the input reads as it did. -/
def splitOfUptoRow : OpenClaim := { program := "ytaldcdgafljedaa", sum := "3e242edfc17403e0054c14eb052029d8fcd67ca604115715fcfbeb77d0177f44", func := "baler/balerlaw19.SplitOf", spec := "splitOf", inPlace := ["internal/abi.NoEscape", "internal/bytealg.MakeNoZero"], apart := false, narrowed := true }
def SplitOfUptoSaid : Prop := splitOfUptoRow.holds Try.pinned (OpenSpec.upto splitOfSpec)

/-- 'balerlaw19.SplitWhole', WHERE WHAT IT READS IS OF BULK AT MOST 1048576: true; the input reads as it did. -/
def splitWholeUptoRow : OpenClaim := { program := "ytaldcdgafljedaa", sum := "3e242edfc17403e0054c14eb052029d8fcd67ca604115715fcfbeb77d0177f44", func := "baler/balerlaw19.SplitWhole", spec := "splitWhole", inPlace := ["internal/abi.NoEscape", "internal/bytealg.MakeNoZero"], apart := false, narrowed := true }
def SplitWholeUptoSaid : Prop := splitWholeUptoRow.holds Try.pinned (OpenSpec.upto splitWholeSpec)

/-- 'balerlaw19.SplitFull', WHERE WHAT IT READS IS OF BULK AT MOST 1048576: true; the input reads as it did. -/
def splitFullUptoRow : OpenClaim := { program := "ytaldcdgafljedaa", sum := "3e242edfc17403e0054c14eb052029d8fcd67ca604115715fcfbeb77d0177f44", func := "baler/balerlaw19.SplitFull", spec := "splitFull", inPlace := ["internal/abi.NoEscape", "internal/bytealg.MakeNoZero"], apart := false, narrowed := true }
def SplitFullUptoSaid : Prop := splitFullUptoRow.holds Try.pinned (OpenSpec.upto splitFullSpec)

/-- 'balerlaw19.SplitBytes', WHERE WHAT IT READS IS OF BULK AT MOST 1048576: true; the input reads as it did. -/
def splitBytesUptoRow : OpenClaim := { program := "ytaldcdgafljedaa", sum := "3e242edfc17403e0054c14eb052029d8fcd67ca604115715fcfbeb77d0177f44", func := "baler/balerlaw19.SplitBytes", spec := "splitBytes", inPlace := ["internal/abi.NoEscape", "internal/bytealg.MakeNoZero"], apart := false, narrowed := true }
def SplitBytesUptoSaid : Prop := splitBytesUptoRow.holds Try.pinned (OpenSpec.upto splitBytesSpec)

/-- 'balerlaw19.SplitNil', WHERE WHAT IT READS IS OF BULK AT MOST 1048576: true; the input reads as it did. -/
def splitNilUptoRow : OpenClaim := { program := "ytaldcdgafljedaa", sum := "3e242edfc17403e0054c14eb052029d8fcd67ca604115715fcfbeb77d0177f44", func := "baler/balerlaw19.SplitNil", spec := "splitNil", inPlace := ["internal/abi.NoEscape", "internal/bytealg.MakeNoZero"], apart := false, narrowed := true }
def SplitNilUptoSaid : Prop := splitNilUptoRow.holds Try.pinned (OpenSpec.upto splitNilSpec)

end Rows
end Go.Proofs.Ytaldcdgafljedaa
