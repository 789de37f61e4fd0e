/-
  NARROWER THAN 'FOR EVERY INPUT', by the rows' own cells (each row's printed sentence says how): ProtoReads: laid · ProtoAsks: laid · ProtoHears: laid · ProtoWrites: laid · ProtoTexts: laid · ProtoAnswers: laid.
  DERIVED. THE GIVEN ROWS OF THIS SEAT. 6 by the template 'for every input the law returns true; each argument reads behind the call as it read before'; 0 by the template 'total and deterministic' (their statements: YtckdbkbecelgcaaDoorTotals.lean).
  GIVEN WITH THE SEED: the statements are not yours to turn. If you find one false, say at which input.
  Laid BY PROGRAM, IN A SANDBOX (cutbox-rows.mjs): the forced cells as the released guide's own fill.sh prints them over the translation 73bff4a84e4a574f… (all of the seat's roots in one cut). By AI agents, Wed Nov 11 2026. No macro, syntax, notation, axiom, sorry.
-/
import Derived.Test.YtckdbkbecelgcaaDoorChecked
import GoSem.PinnedTables
import GoSem.Claim
import GoSem.ClaimJoined
import GoSem.ClaimMapViews
import Derived.JoinedTies
import Derived.KernelRfl
namespace Go.Proofs.YtckdbkbecelgcaaDoor
/- THE CELL 'sum', in the pinned program and in every row, IS THE sha256 OF THE DUMP (.gsa) THAT YtckdbkbecelgcaaDoorProg.lean LOADS. Nothing in Lean hashes anything: it is a label: what it is worth is what the hold of that sum in a sandbox is worth. -/
noncomputable def Tryd.pinned : Pinned := { name := "ytckdbkbecelgcaadoor", sum := "73bff4a84e4a574fa816ef9335f3609cf54196d9468cdaa01798e37a9e7fd11e", checked := Tryd.checked }
namespace Rows
def none {H : Type} : Left H := { results := [], args := [] }

/- WHAT THE LISTED PACKAGE-LEVEL VARIABLES READ AS WHEN THE CALL BEGINS. Each datum BY PROGRAM (the guide's laid-datum.mjs) off the statement by which the dump's own 'gosem.cut.vars' lays the variable. In a bare row this is a premise. The card (YtckdbkbecelgcaaDoorCards.lean) ties it to the program's text. -/
def laid_unicode_utf8_acceptRanges {H : Type} : DataW H := .agg [.agg [.lit (.int .u8 128), .lit (.int .u8 191)], .agg [.lit (.int .u8 160), .lit (.int .u8 191)], .agg [.lit (.int .u8 128), .lit (.int .u8 159)], .agg [.lit (.int .u8 144), .lit (.int .u8 191)], .agg [.lit (.int .u8 128), .lit (.int .u8 143)], .agg [.lit (.int .u8 0), .lit (.int .u8 0)], .agg [.lit (.int .u8 0), .lit (.int .u8 0)], .agg [.lit (.int .u8 0), .lit (.int .u8 0)], .agg [.lit (.int .u8 0), .lit (.int .u8 0)], .agg [.lit (.int .u8 0), .lit (.int .u8 0)], .agg [.lit (.int .u8 0), .lit (.int .u8 0)], .agg [.lit (.int .u8 0), .lit (.int .u8 0)], .agg [.lit (.int .u8 0), .lit (.int .u8 0)], .agg [.lit (.int .u8 0), .lit (.int .u8 0)], .agg [.lit (.int .u8 0), .lit (.int .u8 0)], .agg [.lit (.int .u8 0), .lit (.int .u8 0)]]
/-- One of Go's own tables, pinned by name: the form's constant. -/
def laid_unicode_utf8_first : DataW Unit := Go.Pinned.utf8First

/-- 'balerlaw35.ProtoReads': WHATEVER THE INPUT: true; the input reads as it did. -/
def protoReadsSpec : ChangeSpec := { name := "protoReads", fn := fun _ => fun
  | [d] => { results := [.lit (.bool true)], args := [d] }
  | _ => none }
def protoReadsRow : OpenClaim := { program := "ytckdbkbecelgcaadoor", sum := "73bff4a84e4a574fa816ef9335f3609cf54196d9468cdaa01798e37a9e7fd11e", func := "baler/balerlaw35.ProtoReads", spec := "protoReads", named := ["unicode/utf8.first", "unicode/utf8.acceptRanges"], apart := false, laid := [("unicode/utf8.acceptRanges", laid_unicode_utf8_acceptRanges), ("unicode/utf8.first", laid_unicode_utf8_first)] }
def ProtoReadsSaid : Prop := protoReadsRow.holds Tryd.pinned (OpenSpec.ofChange protoReadsSpec)

/-- ITS FALSE NEIGHBOUR: 'it returns false'. Refute it at one input. -/
def protoReadsWrong : ChangeSpec := { name := "protoReads", fn := fun _ => fun
  | [d] => { results := [.lit (.bool false)], args := [d] }
  | _ => none }
def ProtoReadsWrongFalsely : Prop := protoReadsRow.holds Tryd.pinned (OpenSpec.ofChange protoReadsWrong)

/-- 'balerlaw35.ProtoAsks': WHATEVER THE INPUT: true; the input reads as it did. -/
def protoAsksSpec : ChangeSpec := { name := "protoAsks", fn := fun _ => fun
  | [d] => { results := [.lit (.bool true)], args := [d] }
  | _ => none }
def protoAsksRow : OpenClaim := { program := "ytckdbkbecelgcaadoor", sum := "73bff4a84e4a574fa816ef9335f3609cf54196d9468cdaa01798e37a9e7fd11e", func := "baler/balerlaw35.ProtoAsks", spec := "protoAsks", named := ["unicode/utf8.first", "unicode/utf8.acceptRanges"], apart := false, laid := [("unicode/utf8.acceptRanges", laid_unicode_utf8_acceptRanges), ("unicode/utf8.first", laid_unicode_utf8_first)] }
def ProtoAsksSaid : Prop := protoAsksRow.holds Tryd.pinned (OpenSpec.ofChange protoAsksSpec)

/-- ITS FALSE NEIGHBOUR: 'it returns false'. Refute it at one input. -/
def protoAsksWrong : ChangeSpec := { name := "protoAsks", fn := fun _ => fun
  | [d] => { results := [.lit (.bool false)], args := [d] }
  | _ => none }
def ProtoAsksWrongFalsely : Prop := protoAsksRow.holds Tryd.pinned (OpenSpec.ofChange protoAsksWrong)

/-- 'balerlaw35.ProtoHears': WHATEVER THE INPUT: true; the input reads as it did. -/
def protoHearsSpec : ChangeSpec := { name := "protoHears", fn := fun _ => fun
  | [d] => { results := [.lit (.bool true)], args := [d] }
  | _ => none }
def protoHearsRow : OpenClaim := { program := "ytckdbkbecelgcaadoor", sum := "73bff4a84e4a574fa816ef9335f3609cf54196d9468cdaa01798e37a9e7fd11e", func := "baler/balerlaw35.ProtoHears", spec := "protoHears", named := ["unicode/utf8.first", "unicode/utf8.acceptRanges"], apart := false, laid := [("unicode/utf8.acceptRanges", laid_unicode_utf8_acceptRanges), ("unicode/utf8.first", laid_unicode_utf8_first)] }
def ProtoHearsSaid : Prop := protoHearsRow.holds Tryd.pinned (OpenSpec.ofChange protoHearsSpec)

/-- ITS FALSE NEIGHBOUR: 'it returns false'. Refute it at one input. -/
def protoHearsWrong : ChangeSpec := { name := "protoHears", fn := fun _ => fun
  | [d] => { results := [.lit (.bool false)], args := [d] }
  | _ => none }
def ProtoHearsWrongFalsely : Prop := protoHearsRow.holds Tryd.pinned (OpenSpec.ofChange protoHearsWrong)

/-- 'balerlaw35.ProtoWrites': WHATEVER THE INPUT: true; the input reads as it did. -/
def protoWritesSpec : ChangeSpec := { name := "protoWrites", fn := fun _ => fun
  | [d] => { results := [.lit (.bool true)], args := [d] }
  | _ => none }
def protoWritesRow : OpenClaim := { program := "ytckdbkbecelgcaadoor", sum := "73bff4a84e4a574fa816ef9335f3609cf54196d9468cdaa01798e37a9e7fd11e", func := "baler/balerlaw35.ProtoWrites", spec := "protoWrites", named := ["unicode/utf8.first", "unicode/utf8.acceptRanges"], apart := false, laid := [("unicode/utf8.acceptRanges", laid_unicode_utf8_acceptRanges), ("unicode/utf8.first", laid_unicode_utf8_first)] }
def ProtoWritesSaid : Prop := protoWritesRow.holds Tryd.pinned (OpenSpec.ofChange protoWritesSpec)

/-- ITS FALSE NEIGHBOUR: 'it returns false'. Refute it at one input. -/
def protoWritesWrong : ChangeSpec := { name := "protoWrites", fn := fun _ => fun
  | [d] => { results := [.lit (.bool false)], args := [d] }
  | _ => none }
def ProtoWritesWrongFalsely : Prop := protoWritesRow.holds Tryd.pinned (OpenSpec.ofChange protoWritesWrong)

/-- 'balerlaw35.ProtoTexts': WHATEVER THE INPUT: true; the input reads as it did. -/
def protoTextsSpec : ChangeSpec := { name := "protoTexts", fn := fun _ => fun
  | [d] => { results := [.lit (.bool true)], args := [d] }
  | _ => none }
def protoTextsRow : OpenClaim := { program := "ytckdbkbecelgcaadoor", sum := "73bff4a84e4a574fa816ef9335f3609cf54196d9468cdaa01798e37a9e7fd11e", func := "baler/balerlaw35.ProtoTexts", spec := "protoTexts", inPlace := ["internal/abi.NoEscape"], named := ["unicode/utf8.first", "unicode/utf8.acceptRanges"], apart := false, laid := [("unicode/utf8.acceptRanges", laid_unicode_utf8_acceptRanges), ("unicode/utf8.first", laid_unicode_utf8_first)] }
def ProtoTextsSaid : Prop := protoTextsRow.holds Tryd.pinned (OpenSpec.ofChange protoTextsSpec)

/-- ITS FALSE NEIGHBOUR: 'it returns false'. Refute it at one input. -/
def protoTextsWrong : ChangeSpec := { name := "protoTexts", fn := fun _ => fun
  | [d] => { results := [.lit (.bool false)], args := [d] }
  | _ => none }
def ProtoTextsWrongFalsely : Prop := protoTextsRow.holds Tryd.pinned (OpenSpec.ofChange protoTextsWrong)

/-- 'balerlaw35.ProtoAnswers': WHATEVER THE INPUT: true; the input reads as it did. -/
def protoAnswersSpec : ChangeSpec := { name := "protoAnswers", fn := fun _ => fun
  | [d] => { results := [.lit (.bool true)], args := [d] }
  | _ => none }
def protoAnswersRow : OpenClaim := { program := "ytckdbkbecelgcaadoor", sum := "73bff4a84e4a574fa816ef9335f3609cf54196d9468cdaa01798e37a9e7fd11e", func := "baler/balerlaw35.ProtoAnswers", spec := "protoAnswers", named := ["unicode/utf8.first", "unicode/utf8.acceptRanges"], apart := false, laid := [("unicode/utf8.acceptRanges", laid_unicode_utf8_acceptRanges), ("unicode/utf8.first", laid_unicode_utf8_first)] }
def ProtoAnswersSaid : Prop := protoAnswersRow.holds Tryd.pinned (OpenSpec.ofChange protoAnswersSpec)

/-- ITS FALSE NEIGHBOUR: 'it returns false'. Refute it at one input. -/
def protoAnswersWrong : ChangeSpec := { name := "protoAnswers", fn := fun _ => fun
  | [d] => { results := [.lit (.bool false)], args := [d] }
  | _ => none }
def ProtoAnswersWrongFalsely : Prop := protoAnswersRow.holds Tryd.pinned (OpenSpec.ofChange protoAnswersWrong)

/- THE SECOND FORM. 'bulk': how many values and letters a reading holds, each counted each time it is reached (what is shared counts as often as it is met; a slice's spare places count too). A statement '..UptoSaid' is the law's where the arguments, and the package variables that the reading takes, are together of bulk at most 1048576: NARROWER than '..Said'. Prove '..Said' where nothing that the law and all that it calls make is longer than what came in: it says more and counts as full. Else prove '..UptoSaid'. A law counts once. -/
mutual
def uptoBulk {H : Type} : DataW H → Nat
  | .lit (.string bytes) => bytes.length + 1
  | .lit _ => 1
  | .nil => 1
  | .ptr d => uptoBulk d + 1
  | .slice elems spare => uptoBulkAll elems + uptoBulkAll spare + 1
  | .agg parts => uptoBulkAll parts + 1
  | .iface _ d => uptoBulk d + 1
  | .map entries => uptoBulkEntries entries + 1
  | .held _ => 1
def uptoBulkAll {H : Type} : List (DataW H) → Nat
  | [] => 0
  | d :: r => uptoBulk d + uptoBulkAll r
def uptoBulkEntries {H : Type} : List (Lit × DataW H) → Nat
  | [] => 0
  | x :: r => uptoBulkEntry x + uptoBulkEntries r
def uptoBulkEntry {H : Type} : Lit × DataW H → Nat
  | (.string bytes, d) => bytes.length + uptoBulk d + 1
  | (_, d) => uptoBulk d + 1
 end
def uptoSmall : (H : Type) → List (DataW H) → Bool := fun _ ds => decide (uptoBulkAll ds ≤ 1048576)
def OpenSpec.upto (s : _root_.Go.ChangeSpec) : _root_.Go.OpenSpec := { _root_.Go.OpenSpec.ofChange s with cond := some uptoSmall }

/-- 'balerlaw35.ProtoReads', WHERE WHAT IT READS IS OF BULK AT MOST 1048576: true; the input reads as it did. -/
def protoReadsUptoRow : OpenClaim := { program := "ytckdbkbecelgcaadoor", sum := "73bff4a84e4a574fa816ef9335f3609cf54196d9468cdaa01798e37a9e7fd11e", func := "baler/balerlaw35.ProtoReads", spec := "protoReads", named := ["unicode/utf8.first", "unicode/utf8.acceptRanges"], apart := false, laid := [("unicode/utf8.acceptRanges", laid_unicode_utf8_acceptRanges), ("unicode/utf8.first", laid_unicode_utf8_first)], narrowed := true }
def ProtoReadsUptoSaid : Prop := protoReadsUptoRow.holds Tryd.pinned (OpenSpec.upto protoReadsSpec)

/-- 'balerlaw35.ProtoAsks', WHERE WHAT IT READS IS OF BULK AT MOST 1048576: true; the input reads as it did. -/
def protoAsksUptoRow : OpenClaim := { program := "ytckdbkbecelgcaadoor", sum := "73bff4a84e4a574fa816ef9335f3609cf54196d9468cdaa01798e37a9e7fd11e", func := "baler/balerlaw35.ProtoAsks", spec := "protoAsks", named := ["unicode/utf8.first", "unicode/utf8.acceptRanges"], apart := false, laid := [("unicode/utf8.acceptRanges", laid_unicode_utf8_acceptRanges), ("unicode/utf8.first", laid_unicode_utf8_first)], narrowed := true }
def ProtoAsksUptoSaid : Prop := protoAsksUptoRow.holds Tryd.pinned (OpenSpec.upto protoAsksSpec)

/-- 'balerlaw35.ProtoHears', WHERE WHAT IT READS IS OF BULK AT MOST 1048576: true; the input reads as it did. -/
def protoHearsUptoRow : OpenClaim := { program := "ytckdbkbecelgcaadoor", sum := "73bff4a84e4a574fa816ef9335f3609cf54196d9468cdaa01798e37a9e7fd11e", func := "baler/balerlaw35.ProtoHears", spec := "protoHears", named := ["unicode/utf8.first", "unicode/utf8.acceptRanges"], apart := false, laid := [("unicode/utf8.acceptRanges", laid_unicode_utf8_acceptRanges), ("unicode/utf8.first", laid_unicode_utf8_first)], narrowed := true }
def ProtoHearsUptoSaid : Prop := protoHearsUptoRow.holds Tryd.pinned (OpenSpec.upto protoHearsSpec)

/-- 'balerlaw35.ProtoWrites', WHERE WHAT IT READS IS OF BULK AT MOST 1048576: true; the input reads as it did. -/
def protoWritesUptoRow : OpenClaim := { program := "ytckdbkbecelgcaadoor", sum := "73bff4a84e4a574fa816ef9335f3609cf54196d9468cdaa01798e37a9e7fd11e", func := "baler/balerlaw35.ProtoWrites", spec := "protoWrites", named := ["unicode/utf8.first", "unicode/utf8.acceptRanges"], apart := false, laid := [("unicode/utf8.acceptRanges", laid_unicode_utf8_acceptRanges), ("unicode/utf8.first", laid_unicode_utf8_first)], narrowed := true }
def ProtoWritesUptoSaid : Prop := protoWritesUptoRow.holds Tryd.pinned (OpenSpec.upto protoWritesSpec)

/-- 'balerlaw35.ProtoTexts', WHERE WHAT IT READS IS OF BULK AT MOST 1048576: true; the input reads as it did. -/
def protoTextsUptoRow : OpenClaim := { program := "ytckdbkbecelgcaadoor", sum := "73bff4a84e4a574fa816ef9335f3609cf54196d9468cdaa01798e37a9e7fd11e", func := "baler/balerlaw35.ProtoTexts", spec := "protoTexts", inPlace := ["internal/abi.NoEscape"], named := ["unicode/utf8.first", "unicode/utf8.acceptRanges"], apart := false, laid := [("unicode/utf8.acceptRanges", laid_unicode_utf8_acceptRanges), ("unicode/utf8.first", laid_unicode_utf8_first)], narrowed := true }
def ProtoTextsUptoSaid : Prop := protoTextsUptoRow.holds Tryd.pinned (OpenSpec.upto protoTextsSpec)

/-- 'balerlaw35.ProtoAnswers', WHERE WHAT IT READS IS OF BULK AT MOST 1048576: true; the input reads as it did. -/
def protoAnswersUptoRow : OpenClaim := { program := "ytckdbkbecelgcaadoor", sum := "73bff4a84e4a574fa816ef9335f3609cf54196d9468cdaa01798e37a9e7fd11e", func := "baler/balerlaw35.ProtoAnswers", spec := "protoAnswers", named := ["unicode/utf8.first", "unicode/utf8.acceptRanges"], apart := false, laid := [("unicode/utf8.acceptRanges", laid_unicode_utf8_acceptRanges), ("unicode/utf8.first", laid_unicode_utf8_first)], narrowed := true }
def ProtoAnswersUptoSaid : Prop := protoAnswersUptoRow.holds Tryd.pinned (OpenSpec.upto protoAnswersSpec)

end Rows
end Go.Proofs.YtckdbkbecelgcaaDoor
