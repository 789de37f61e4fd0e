/-
  No cell of these rows narrows 'for every input' (looked for: loops, veiled, ifaces, maps, wideKeys, modest, calm, conditions, laid).
  DERIVED. THE GIVEN ROWS OF THIS SEAT. 3 by the template 'for every input the law returns true; each argument reads behind the call as it read before'; 0 by the template 'total and deterministic' (their statements: YtngheokngonhjaaTotals.lean).
  GIVEN WITH THE SEED: the statements are not yours to turn. If you find one false, say at which input.
  Laid BY PROGRAM, IN A SANDBOX (cutbox-rows.mjs): the forced cells as the released guide's own fill.sh prints them over the translation 8d4202f44e178d49… (all of the seat's roots in one cut). By AI agents, Wed Nov 11 2026. No macro, syntax, notation, axiom, sorry.
-/
import Derived.Test.YtngheokngonhjaaChecked
import GoSem.Claim
import GoSem.ClaimJoined
import GoSem.ClaimMapViews
import Derived.JoinedTies
import Derived.KernelRfl
namespace Go.Proofs.Ytngheokngonhjaa
/- THE CELL 'sum', in the pinned program and in every row, IS THE sha256 OF THE DUMP (.gsa) THAT YtngheokngonhjaaProg.lean LOADS. Nothing in Lean hashes anything: it is a label: what it is worth is what the hold of that sum in a sandbox is worth. -/
noncomputable def Try.pinned : Pinned := { name := "ytngheokngonhjaa", sum := "8d4202f44e178d49d301e97b432824cd39c25ad04932187d858f8deb030edbf5", checked := Try.checked }
namespace Rows
def none {H : Type} : Left H := { results := [], args := [] }

/-- 'balerlaw34.ParserPieces': WHATEVER THE INPUT: true; the input reads as it did. -/
def parserPiecesSpec : ChangeSpec := { name := "parserPieces", fn := fun _ => fun
  | [d1, d2, d3] => { results := [.lit (.bool true)], args := [d1, d2, d3] }
  | _ => none }
def parserPiecesRow : OpenClaim := { program := "ytngheokngonhjaa", sum := "8d4202f44e178d49d301e97b432824cd39c25ad04932187d858f8deb030edbf5", func := "baler/balerlaw34.ParserPieces", spec := "parserPieces", apart := false }
def ParserPiecesSaid : Prop := parserPiecesRow.holds Try.pinned (OpenSpec.ofChange parserPiecesSpec)

/-- ITS FALSE NEIGHBOUR: 'it returns false'. Refute it at one input. -/
def parserPiecesWrong : ChangeSpec := { name := "parserPieces", fn := fun _ => fun
  | [d1, d2, d3] => { results := [.lit (.bool false)], args := [d1, d2, d3] }
  | _ => none }
def ParserPiecesWrongFalsely : Prop := parserPiecesRow.holds Try.pinned (OpenSpec.ofChange parserPiecesWrong)

/-- 'balerlaw34.ParserActs': WHATEVER THE INPUT: true; the input reads as it did. -/
def parserActsSpec : ChangeSpec := { name := "parserActs", fn := fun _ => fun
  | [d1, d2] => { results := [.lit (.bool true)], args := [d1, d2] }
  | _ => none }
def parserActsRow : OpenClaim := { program := "ytngheokngonhjaa", sum := "8d4202f44e178d49d301e97b432824cd39c25ad04932187d858f8deb030edbf5", func := "baler/balerlaw34.ParserActs", spec := "parserActs", apart := false }
def ParserActsSaid : Prop := parserActsRow.holds Try.pinned (OpenSpec.ofChange parserActsSpec)

/-- ITS FALSE NEIGHBOUR: 'it returns false'. Refute it at one input. -/
def parserActsWrong : ChangeSpec := { name := "parserActs", fn := fun _ => fun
  | [d1, d2] => { results := [.lit (.bool false)], args := [d1, d2] }
  | _ => none }
def ParserActsWrongFalsely : Prop := parserActsRow.holds Try.pinned (OpenSpec.ofChange parserActsWrong)

/-- 'balerlaw34.ParserNil': WHATEVER THE INPUT: true; the input reads as it did. -/
def parserNilSpec : ChangeSpec := { name := "parserNil", fn := fun _ => fun
  | [d] => { results := [.lit (.bool true)], args := [d] }
  | _ => none }
def parserNilRow : OpenClaim := { program := "ytngheokngonhjaa", sum := "8d4202f44e178d49d301e97b432824cd39c25ad04932187d858f8deb030edbf5", func := "baler/balerlaw34.ParserNil", spec := "parserNil", apart := false }
def ParserNilSaid : Prop := parserNilRow.holds Try.pinned (OpenSpec.ofChange parserNilSpec)

/-- ITS FALSE NEIGHBOUR: 'it returns false'. Refute it at one input. -/
def parserNilWrong : ChangeSpec := { name := "parserNil", fn := fun _ => fun
  | [d] => { results := [.lit (.bool false)], args := [d] }
  | _ => none }
def ParserNilWrongFalsely : Prop := parserNilRow.holds Try.pinned (OpenSpec.ofChange parserNilWrong)

/- THE SECOND FORM. 'bulk': how many values and letters a reading holds, each counted each time it is reached (what is shared counts as often as it is met; a slice's spare places count too). A statement '..UptoSaid' is the law's where the arguments, and the package variables that the reading takes, are together of bulk at most 1048576: NARROWER than '..Said'. Prove '..Said' where nothing that the law and all that it calls make is longer than what came in: it says more and counts as full. Else prove '..UptoSaid'. A law counts once. -/
mutual
def uptoBulk {H : Type} : DataW H → Nat
  | .lit (.string bytes) => bytes.length + 1
  | .lit _ => 1
  | .nil => 1
  | .ptr d => uptoBulk d + 1
  | .slice elems spare => uptoBulkAll elems + uptoBulkAll spare + 1
  | .agg parts => uptoBulkAll parts + 1
  | .iface _ d => uptoBulk d + 1
  | .map entries => uptoBulkEntries entries + 1
  | .held _ => 1
def uptoBulkAll {H : Type} : List (DataW H) → Nat
  | [] => 0
  | d :: r => uptoBulk d + uptoBulkAll r
def uptoBulkEntries {H : Type} : List (Lit × DataW H) → Nat
  | [] => 0
  | x :: r => uptoBulkEntry x + uptoBulkEntries r
def uptoBulkEntry {H : Type} : Lit × DataW H → Nat
  | (.string bytes, d) => bytes.length + uptoBulk d + 1
  | (_, d) => uptoBulk d + 1
 end
def uptoSmall : (H : Type) → List (DataW H) → Bool := fun _ ds => decide (uptoBulkAll ds ≤ 1048576)
def OpenSpec.upto (s : _root_.Go.ChangeSpec) : _root_.Go.OpenSpec := { _root_.Go.OpenSpec.ofChange s with cond := some uptoSmall }

/-- 'balerlaw34.ParserPieces', WHERE WHAT IT READS IS OF BULK AT MOST 1048576: true; the input reads as it did. -/
def parserPiecesUptoRow : OpenClaim := { program := "ytngheokngonhjaa", sum := "8d4202f44e178d49d301e97b432824cd39c25ad04932187d858f8deb030edbf5", func := "baler/balerlaw34.ParserPieces", spec := "parserPieces", apart := false, narrowed := true }
def ParserPiecesUptoSaid : Prop := parserPiecesUptoRow.holds Try.pinned (OpenSpec.upto parserPiecesSpec)

/-- 'balerlaw34.ParserActs', WHERE WHAT IT READS IS OF BULK AT MOST 1048576: true; the input reads as it did. -/
def parserActsUptoRow : OpenClaim := { program := "ytngheokngonhjaa", sum := "8d4202f44e178d49d301e97b432824cd39c25ad04932187d858f8deb030edbf5", func := "baler/balerlaw34.ParserActs", spec := "parserActs", apart := false, narrowed := true }
def ParserActsUptoSaid : Prop := parserActsUptoRow.holds Try.pinned (OpenSpec.upto parserActsSpec)

/-- 'balerlaw34.ParserNil', WHERE WHAT IT READS IS OF BULK AT MOST 1048576: true; the input reads as it did. -/
def parserNilUptoRow : OpenClaim := { program := "ytngheokngonhjaa", sum := "8d4202f44e178d49d301e97b432824cd39c25ad04932187d858f8deb030edbf5", func := "baler/balerlaw34.ParserNil", spec := "parserNil", apart := false, narrowed := true }
def ParserNilUptoSaid : Prop := parserNilUptoRow.holds Try.pinned (OpenSpec.upto parserNilSpec)

end Rows
end Go.Proofs.Ytngheokngonhjaa
