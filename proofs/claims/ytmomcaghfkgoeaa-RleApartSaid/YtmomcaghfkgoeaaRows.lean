/-
  No cell of these rows narrows 'for every input' (looked for: loops, veiled, ifaces, maps, wideKeys, modest, calm, conditions, laid).
  DERIVED. THE GIVEN ROWS OF THIS SEAT. 5 by the template 'for every input the law returns true; each argument reads behind the call as it read before'; 0 by the template 'total and deterministic' (their statements: YtmomcaghfkgoeaaTotals.lean).
  GIVEN WITH THE SEED: the statements are not yours to turn. If you find one false, say at which input.
  Laid BY PROGRAM, IN A SANDBOX (cutbox-rows.mjs): the forced cells as the released guide's own fill.sh prints them over the translation fe21956226a099b9… (all of the seat's roots in one cut). By AI agents, Wed Nov 11 2026. No macro, syntax, notation, axiom, sorry.
-/
import Derived.Test.YtmomcaghfkgoeaaChecked
import GoSem.Claim
import GoSem.ClaimJoined
import GoSem.ClaimMapViews
import Derived.JoinedTies
import Derived.KernelRfl
namespace Go.Proofs.Ytmomcaghfkgoeaa
/- THE CELL 'sum', in the pinned program and in every row, IS THE sha256 OF THE DUMP (.gsa) THAT YtmomcaghfkgoeaaProg.lean LOADS. Nothing in Lean hashes anything: it is a label: what it is worth is what the hold of that sum in a sandbox is worth. -/
noncomputable def Try.pinned : Pinned := { name := "ytmomcaghfkgoeaa", sum := "fe21956226a099b91bae32c11f50bf86afe079b326573bf5f71cb3780d631b4e", checked := Try.checked }
namespace Rows
def none {H : Type} : Left H := { results := [], args := [] }

/-- 'balerlaw03.RleSmall': WHATEVER THE INPUT: true; the input reads as it did. -/
def rleSmallSpec : ChangeSpec := { name := "rleSmall", fn := fun _ => fun
  | [d1, d2] => { results := [.lit (.bool true)], args := [d1, d2] }
  | _ => none }
def rleSmallRow : OpenClaim := { program := "ytmomcaghfkgoeaa", sum := "fe21956226a099b91bae32c11f50bf86afe079b326573bf5f71cb3780d631b4e", func := "baler/balerlaw03.RleSmall", spec := "rleSmall", inPlace := ["internal/abi.NoEscape", "internal/bytealg.MakeNoZero"], unfollowed := true, recurses := true, apart := false }
def RleSmallSaid : Prop := rleSmallRow.holds Try.pinned (OpenSpec.ofChange rleSmallSpec)

/-- ITS FALSE NEIGHBOUR: 'it returns false'. Refute it at one input. -/
def rleSmallWrong : ChangeSpec := { name := "rleSmall", fn := fun _ => fun
  | [d1, d2] => { results := [.lit (.bool false)], args := [d1, d2] }
  | _ => none }
def RleSmallWrongFalsely : Prop := rleSmallRow.holds Try.pinned (OpenSpec.ofChange rleSmallWrong)

/-- 'balerlaw03.RleApart': WHATEVER THE INPUT: true; the input reads as it did. -/
def rleApartSpec : ChangeSpec := { name := "rleApart", fn := fun _ => fun
  | [d] => { results := [.lit (.bool true)], args := [d] }
  | _ => none }
def rleApartRow : OpenClaim := { program := "ytmomcaghfkgoeaa", sum := "fe21956226a099b91bae32c11f50bf86afe079b326573bf5f71cb3780d631b4e", func := "baler/balerlaw03.RleApart", spec := "rleApart", inPlace := ["internal/abi.NoEscape", "internal/bytealg.MakeNoZero"], unfollowed := true, recurses := true, apart := false }
def RleApartSaid : Prop := rleApartRow.holds Try.pinned (OpenSpec.ofChange rleApartSpec)

/-- ITS FALSE NEIGHBOUR: 'it returns false'. Refute it at one input. -/
def rleApartWrong : ChangeSpec := { name := "rleApart", fn := fun _ => fun
  | [d] => { results := [.lit (.bool false)], args := [d] }
  | _ => none }
def RleApartWrongFalsely : Prop := rleApartRow.holds Try.pinned (OpenSpec.ofChange rleApartWrong)

/-- 'balerlaw03.RleDecodes': WHATEVER THE INPUT: true; the input reads as it did. -/
def rleDecodesSpec : ChangeSpec := { name := "rleDecodes", fn := fun _ => fun
  | [d] => { results := [.lit (.bool true)], args := [d] }
  | _ => none }
def rleDecodesRow : OpenClaim := { program := "ytmomcaghfkgoeaa", sum := "fe21956226a099b91bae32c11f50bf86afe079b326573bf5f71cb3780d631b4e", func := "baler/balerlaw03.RleDecodes", spec := "rleDecodes", inPlace := ["internal/abi.NoEscape", "internal/bytealg.MakeNoZero"], unfollowed := true, recurses := true, apart := false }
def RleDecodesSaid : Prop := rleDecodesRow.holds Try.pinned (OpenSpec.ofChange rleDecodesSpec)

/-- ITS FALSE NEIGHBOUR: 'it returns false'. Refute it at one input. -/
def rleDecodesWrong : ChangeSpec := { name := "rleDecodes", fn := fun _ => fun
  | [d] => { results := [.lit (.bool false)], args := [d] }
  | _ => none }
def RleDecodesWrongFalsely : Prop := rleDecodesRow.holds Try.pinned (OpenSpec.ofChange rleDecodesWrong)

/-- 'balerlaw03.RlePieces': WHATEVER THE INPUT: true; the input reads as it did. -/
def rlePiecesSpec : ChangeSpec := { name := "rlePieces", fn := fun _ => fun
  | [d1, d2] => { results := [.lit (.bool true)], args := [d1, d2] }
  | _ => none }
def rlePiecesRow : OpenClaim := { program := "ytmomcaghfkgoeaa", sum := "fe21956226a099b91bae32c11f50bf86afe079b326573bf5f71cb3780d631b4e", func := "baler/balerlaw03.RlePieces", spec := "rlePieces", inPlace := ["internal/abi.NoEscape", "internal/bytealg.MakeNoZero"], unfollowed := true, recurses := true, apart := false }
def RlePiecesSaid : Prop := rlePiecesRow.holds Try.pinned (OpenSpec.ofChange rlePiecesSpec)

/-- ITS FALSE NEIGHBOUR: 'it returns false'. Refute it at one input. -/
def rlePiecesWrong : ChangeSpec := { name := "rlePieces", fn := fun _ => fun
  | [d1, d2] => { results := [.lit (.bool false)], args := [d1, d2] }
  | _ => none }
def RlePiecesWrongFalsely : Prop := rlePiecesRow.holds Try.pinned (OpenSpec.ofChange rlePiecesWrong)

/-- 'balerlaw03.RleEncodes': WHATEVER THE INPUT: true; the input reads as it did. -/
def rleEncodesSpec : ChangeSpec := { name := "rleEncodes", fn := fun _ => fun
  | [d] => { results := [.lit (.bool true)], args := [d] }
  | _ => none }
def rleEncodesRow : OpenClaim := { program := "ytmomcaghfkgoeaa", sum := "fe21956226a099b91bae32c11f50bf86afe079b326573bf5f71cb3780d631b4e", func := "baler/balerlaw03.RleEncodes", spec := "rleEncodes", inPlace := ["internal/abi.NoEscape", "internal/bytealg.MakeNoZero"], unfollowed := true, recurses := true, apart := false }
def RleEncodesSaid : Prop := rleEncodesRow.holds Try.pinned (OpenSpec.ofChange rleEncodesSpec)

/-- ITS FALSE NEIGHBOUR: 'it returns false'. Refute it at one input. -/
def rleEncodesWrong : ChangeSpec := { name := "rleEncodes", fn := fun _ => fun
  | [d] => { results := [.lit (.bool false)], args := [d] }
  | _ => none }
def RleEncodesWrongFalsely : Prop := rleEncodesRow.holds Try.pinned (OpenSpec.ofChange rleEncodesWrong)

/- THE SECOND FORM. 'bulk': how many values and letters a reading holds, each counted each time it is reached (what is shared counts as often as it is met; a slice's spare places count too). A statement '..UptoSaid' is the law's where the arguments, and the package variables that the reading takes, are together of bulk at most 1048576: NARROWER than '..Said'. Prove '..Said' where nothing that the law and all that it calls make is longer than what came in: it says more and counts as full. Else prove '..UptoSaid'. A law counts once. -/
mutual
def uptoBulk {H : Type} : DataW H → Nat
  | .lit (.string bytes) => bytes.length + 1
  | .lit _ => 1
  | .nil => 1
  | .ptr d => uptoBulk d + 1
  | .slice elems spare => uptoBulkAll elems + uptoBulkAll spare + 1
  | .agg parts => uptoBulkAll parts + 1
  | .iface _ d => uptoBulk d + 1
  | .map entries => uptoBulkEntries entries + 1
  | .held _ => 1
def uptoBulkAll {H : Type} : List (DataW H) → Nat
  | [] => 0
  | d :: r => uptoBulk d + uptoBulkAll r
def uptoBulkEntries {H : Type} : List (Lit × DataW H) → Nat
  | [] => 0
  | x :: r => uptoBulkEntry x + uptoBulkEntries r
def uptoBulkEntry {H : Type} : Lit × DataW H → Nat
  | (.string bytes, d) => bytes.length + uptoBulk d + 1
  | (_, d) => uptoBulk d + 1
 end
def uptoSmall : (H : Type) → List (DataW H) → Bool := fun _ ds => decide (uptoBulkAll ds ≤ 1048576)
def OpenSpec.upto (s : _root_.Go.ChangeSpec) : _root_.Go.OpenSpec := { _root_.Go.OpenSpec.ofChange s with cond := some uptoSmall }

/-- 'balerlaw03.RleSmall', WHERE WHAT IT READS IS OF BULK AT MOST 1048576: true; the input reads as it did. -/
def rleSmallUptoRow : OpenClaim := { program := "ytmomcaghfkgoeaa", sum := "fe21956226a099b91bae32c11f50bf86afe079b326573bf5f71cb3780d631b4e", func := "baler/balerlaw03.RleSmall", spec := "rleSmall", inPlace := ["internal/abi.NoEscape", "internal/bytealg.MakeNoZero"], unfollowed := true, recurses := true, apart := false, narrowed := true }
def RleSmallUptoSaid : Prop := rleSmallUptoRow.holds Try.pinned (OpenSpec.upto rleSmallSpec)

/-- 'balerlaw03.RleApart', WHERE WHAT IT READS IS OF BULK AT MOST 1048576: true; the input reads as it did. -/
def rleApartUptoRow : OpenClaim := { program := "ytmomcaghfkgoeaa", sum := "fe21956226a099b91bae32c11f50bf86afe079b326573bf5f71cb3780d631b4e", func := "baler/balerlaw03.RleApart", spec := "rleApart", inPlace := ["internal/abi.NoEscape", "internal/bytealg.MakeNoZero"], unfollowed := true, recurses := true, apart := false, narrowed := true }
def RleApartUptoSaid : Prop := rleApartUptoRow.holds Try.pinned (OpenSpec.upto rleApartSpec)

/-- 'balerlaw03.RleDecodes', WHERE WHAT IT READS IS OF BULK AT MOST 1048576: true; the input reads as it did. -/
def rleDecodesUptoRow : OpenClaim := { program := "ytmomcaghfkgoeaa", sum := "fe21956226a099b91bae32c11f50bf86afe079b326573bf5f71cb3780d631b4e", func := "baler/balerlaw03.RleDecodes", spec := "rleDecodes", inPlace := ["internal/abi.NoEscape", "internal/bytealg.MakeNoZero"], unfollowed := true, recurses := true, apart := false, narrowed := true }
def RleDecodesUptoSaid : Prop := rleDecodesUptoRow.holds Try.pinned (OpenSpec.upto rleDecodesSpec)

/-- 'balerlaw03.RlePieces', WHERE WHAT IT READS IS OF BULK AT MOST 1048576: true; the input reads as it did. -/
def rlePiecesUptoRow : OpenClaim := { program := "ytmomcaghfkgoeaa", sum := "fe21956226a099b91bae32c11f50bf86afe079b326573bf5f71cb3780d631b4e", func := "baler/balerlaw03.RlePieces", spec := "rlePieces", inPlace := ["internal/abi.NoEscape", "internal/bytealg.MakeNoZero"], unfollowed := true, recurses := true, apart := false, narrowed := true }
def RlePiecesUptoSaid : Prop := rlePiecesUptoRow.holds Try.pinned (OpenSpec.upto rlePiecesSpec)

/-- 'balerlaw03.RleEncodes', WHERE WHAT IT READS IS OF BULK AT MOST 1048576: true; the input reads as it did. -/
def rleEncodesUptoRow : OpenClaim := { program := "ytmomcaghfkgoeaa", sum := "fe21956226a099b91bae32c11f50bf86afe079b326573bf5f71cb3780d631b4e", func := "baler/balerlaw03.RleEncodes", spec := "rleEncodes", inPlace := ["internal/abi.NoEscape", "internal/bytealg.MakeNoZero"], unfollowed := true, recurses := true, apart := false, narrowed := true }
def RleEncodesUptoSaid : Prop := rleEncodesUptoRow.holds Try.pinned (OpenSpec.upto rleEncodesSpec)

end Rows
end Go.Proofs.Ytmomcaghfkgoeaa
