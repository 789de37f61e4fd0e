/-
  NARROWER THAN 'FOR EVERY INPUT', by the rows' own cells (each row's printed sentence says how): ConnSame: laid · ConnOnce: laid · ConnFull: laid · ConnSteps: laid · ConnNil: laid.
  DERIVED. THE GIVEN ROWS OF THIS SEAT. 5 by the template 'for every input the law returns true; each argument reads behind the call as it read before'; 0 by the template 'total and deterministic' (their statements: YtajalllecoclcaaDoorTotals.lean).
  GIVEN WITH THE SEED: the statements are not yours to turn. If you find one false, say at which input.
  Laid BY PROGRAM, IN A SANDBOX (cutbox-rows.mjs): the forced cells as the released guide's own fill.sh prints them over the translation ec1ffb239c11fbe5… (all of the seat's roots in one cut). By AI agents, Wed Nov 11 2026. No macro, syntax, notation, axiom, sorry.
-/
import Derived.Test.YtajalllecoclcaaDoorChecked
import GoSem.PinnedTables
import GoSem.Claim
import GoSem.ClaimJoined
import GoSem.ClaimMapViews
import Derived.JoinedTies
import Derived.KernelRfl
namespace Go.Proofs.YtajalllecoclcaaDoor
/- THE CELL 'sum', in the pinned program and in every row, IS THE sha256 OF THE DUMP (.gsa) THAT YtajalllecoclcaaDoorProg.lean LOADS. Nothing in Lean hashes anything: it is a label: what it is worth is what the hold of that sum in a sandbox is worth. -/
noncomputable def Tryd.pinned : Pinned := { name := "ytajalllecoclcaadoor", sum := "ec1ffb239c11fbe5ba8ef268081140a75a70f3c82fc478bef833788a4205c54d", checked := Tryd.checked }
namespace Rows
def none {H : Type} : Left H := { results := [], args := [] }

/- WHAT THE LISTED PACKAGE-LEVEL VARIABLES READ AS WHEN THE CALL BEGINS. Each datum BY PROGRAM (the guide's laid-datum.mjs) off the statement by which the dump's own 'gosem.cut.vars' lays the variable. In a bare row this is a premise. The card (YtajalllecoclcaaDoorCards.lean) ties it to the program's text. -/
def laid_unicode_utf8_acceptRanges {H : Type} : DataW H := .agg [.agg [.lit (.int .u8 128), .lit (.int .u8 191)], .agg [.lit (.int .u8 160), .lit (.int .u8 191)], .agg [.lit (.int .u8 128), .lit (.int .u8 159)], .agg [.lit (.int .u8 144), .lit (.int .u8 191)], .agg [.lit (.int .u8 128), .lit (.int .u8 143)], .agg [.lit (.int .u8 0), .lit (.int .u8 0)], .agg [.lit (.int .u8 0), .lit (.int .u8 0)], .agg [.lit (.int .u8 0), .lit (.int .u8 0)], .agg [.lit (.int .u8 0), .lit (.int .u8 0)], .agg [.lit (.int .u8 0), .lit (.int .u8 0)], .agg [.lit (.int .u8 0), .lit (.int .u8 0)], .agg [.lit (.int .u8 0), .lit (.int .u8 0)], .agg [.lit (.int .u8 0), .lit (.int .u8 0)], .agg [.lit (.int .u8 0), .lit (.int .u8 0)], .agg [.lit (.int .u8 0), .lit (.int .u8 0)], .agg [.lit (.int .u8 0), .lit (.int .u8 0)]]
/-- One of Go's own tables, pinned by name: the form's constant. -/
def laid_unicode_utf8_first : DataW Unit := Go.Pinned.utf8First

/-- 'balerlaw36.ConnSame': WHATEVER THE INPUT: true; the input reads as it did. -/
def connSameSpec : ChangeSpec := { name := "connSame", fn := fun _ => fun
  | [d1, d2] => { results := [.lit (.bool true)], args := [d1, d2] }
  | _ => none }
def connSameRow : OpenClaim := { program := "ytajalllecoclcaadoor", sum := "ec1ffb239c11fbe5ba8ef268081140a75a70f3c82fc478bef833788a4205c54d", func := "baler/balerlaw36.ConnSame", spec := "connSame", named := ["unicode/utf8.first", "unicode/utf8.acceptRanges"], apart := false, laid := [("unicode/utf8.acceptRanges", laid_unicode_utf8_acceptRanges), ("unicode/utf8.first", laid_unicode_utf8_first)] }
def ConnSameSaid : Prop := connSameRow.holds Tryd.pinned (OpenSpec.ofChange connSameSpec)

/-- ITS FALSE NEIGHBOUR: 'it returns false'. Refute it at one input. -/
def connSameWrong : ChangeSpec := { name := "connSame", fn := fun _ => fun
  | [d1, d2] => { results := [.lit (.bool false)], args := [d1, d2] }
  | _ => none }
def ConnSameWrongFalsely : Prop := connSameRow.holds Tryd.pinned (OpenSpec.ofChange connSameWrong)

/-- 'balerlaw36.ConnOnce': WHATEVER THE INPUT: true; the input reads as it did. -/
def connOnceSpec : ChangeSpec := { name := "connOnce", fn := fun _ => fun
  | [d] => { results := [.lit (.bool true)], args := [d] }
  | _ => none }
def connOnceRow : OpenClaim := { program := "ytajalllecoclcaadoor", sum := "ec1ffb239c11fbe5ba8ef268081140a75a70f3c82fc478bef833788a4205c54d", func := "baler/balerlaw36.ConnOnce", spec := "connOnce", named := ["unicode/utf8.first", "unicode/utf8.acceptRanges"], apart := false, laid := [("unicode/utf8.acceptRanges", laid_unicode_utf8_acceptRanges), ("unicode/utf8.first", laid_unicode_utf8_first)] }
def ConnOnceSaid : Prop := connOnceRow.holds Tryd.pinned (OpenSpec.ofChange connOnceSpec)

/-- ITS FALSE NEIGHBOUR: 'it returns false'. Refute it at one input. -/
def connOnceWrong : ChangeSpec := { name := "connOnce", fn := fun _ => fun
  | [d] => { results := [.lit (.bool false)], args := [d] }
  | _ => none }
def ConnOnceWrongFalsely : Prop := connOnceRow.holds Tryd.pinned (OpenSpec.ofChange connOnceWrong)

/-- 'balerlaw36.ConnFull': WHATEVER THE INPUT: true; the input reads as it did. -/
def connFullSpec : ChangeSpec := { name := "connFull", fn := fun _ => fun
  | [d] => { results := [.lit (.bool true)], args := [d] }
  | _ => none }
def connFullRow : OpenClaim := { program := "ytajalllecoclcaadoor", sum := "ec1ffb239c11fbe5ba8ef268081140a75a70f3c82fc478bef833788a4205c54d", func := "baler/balerlaw36.ConnFull", spec := "connFull", named := ["unicode/utf8.first", "unicode/utf8.acceptRanges"], apart := false, laid := [("unicode/utf8.acceptRanges", laid_unicode_utf8_acceptRanges), ("unicode/utf8.first", laid_unicode_utf8_first)] }
def ConnFullSaid : Prop := connFullRow.holds Tryd.pinned (OpenSpec.ofChange connFullSpec)

/-- ITS FALSE NEIGHBOUR: 'it returns false'. Refute it at one input. -/
def connFullWrong : ChangeSpec := { name := "connFull", fn := fun _ => fun
  | [d] => { results := [.lit (.bool false)], args := [d] }
  | _ => none }
def ConnFullWrongFalsely : Prop := connFullRow.holds Tryd.pinned (OpenSpec.ofChange connFullWrong)

/-- 'balerlaw36.ConnSteps': WHATEVER THE INPUT: true; the input reads as it did. -/
def connStepsSpec : ChangeSpec := { name := "connSteps", fn := fun _ => fun
  | [d1, d2] => { results := [.lit (.bool true)], args := [d1, d2] }
  | _ => none }
def connStepsRow : OpenClaim := { program := "ytajalllecoclcaadoor", sum := "ec1ffb239c11fbe5ba8ef268081140a75a70f3c82fc478bef833788a4205c54d", func := "baler/balerlaw36.ConnSteps", spec := "connSteps", named := ["unicode/utf8.first", "unicode/utf8.acceptRanges"], apart := false, laid := [("unicode/utf8.acceptRanges", laid_unicode_utf8_acceptRanges), ("unicode/utf8.first", laid_unicode_utf8_first)] }
def ConnStepsSaid : Prop := connStepsRow.holds Tryd.pinned (OpenSpec.ofChange connStepsSpec)

/-- ITS FALSE NEIGHBOUR: 'it returns false'. Refute it at one input. -/
def connStepsWrong : ChangeSpec := { name := "connSteps", fn := fun _ => fun
  | [d1, d2] => { results := [.lit (.bool false)], args := [d1, d2] }
  | _ => none }
def ConnStepsWrongFalsely : Prop := connStepsRow.holds Tryd.pinned (OpenSpec.ofChange connStepsWrong)

/-- 'balerlaw36.ConnNil': WHATEVER THE INPUT: true; the input reads as it did. -/
def connNilSpec : ChangeSpec := { name := "connNil", fn := fun _ => fun
  | [d] => { results := [.lit (.bool true)], args := [d] }
  | _ => none }
def connNilRow : OpenClaim := { program := "ytajalllecoclcaadoor", sum := "ec1ffb239c11fbe5ba8ef268081140a75a70f3c82fc478bef833788a4205c54d", func := "baler/balerlaw36.ConnNil", spec := "connNil", named := ["unicode/utf8.first", "unicode/utf8.acceptRanges"], apart := false, laid := [("unicode/utf8.acceptRanges", laid_unicode_utf8_acceptRanges), ("unicode/utf8.first", laid_unicode_utf8_first)] }
def ConnNilSaid : Prop := connNilRow.holds Tryd.pinned (OpenSpec.ofChange connNilSpec)

/-- ITS FALSE NEIGHBOUR: 'it returns false'. Refute it at one input. -/
def connNilWrong : ChangeSpec := { name := "connNil", fn := fun _ => fun
  | [d] => { results := [.lit (.bool false)], args := [d] }
  | _ => none }
def ConnNilWrongFalsely : Prop := connNilRow.holds Tryd.pinned (OpenSpec.ofChange connNilWrong)

/- THE SECOND FORM. 'bulk': how many values and letters a reading holds, each counted each time it is reached (what is shared counts as often as it is met; a slice's spare places count too). A statement '..UptoSaid' is the law's where the arguments, and the package variables that the reading takes, are together of bulk at most 1048576: NARROWER than '..Said'. Prove '..Said' where nothing that the law and all that it calls make is longer than what came in: it says more and counts as full. Else prove '..UptoSaid'. A law counts once. -/
mutual
def uptoBulk {H : Type} : DataW H → Nat
  | .lit (.string bytes) => bytes.length + 1
  | .lit _ => 1
  | .nil => 1
  | .ptr d => uptoBulk d + 1
  | .slice elems spare => uptoBulkAll elems + uptoBulkAll spare + 1
  | .agg parts => uptoBulkAll parts + 1
  | .iface _ d => uptoBulk d + 1
  | .map entries => uptoBulkEntries entries + 1
  | .held _ => 1
def uptoBulkAll {H : Type} : List (DataW H) → Nat
  | [] => 0
  | d :: r => uptoBulk d + uptoBulkAll r
def uptoBulkEntries {H : Type} : List (Lit × DataW H) → Nat
  | [] => 0
  | x :: r => uptoBulkEntry x + uptoBulkEntries r
def uptoBulkEntry {H : Type} : Lit × DataW H → Nat
  | (.string bytes, d) => bytes.length + uptoBulk d + 1
  | (_, d) => uptoBulk d + 1
 end
def uptoSmall : (H : Type) → List (DataW H) → Bool := fun _ ds => decide (uptoBulkAll ds ≤ 1048576)
def OpenSpec.upto (s : _root_.Go.ChangeSpec) : _root_.Go.OpenSpec := { _root_.Go.OpenSpec.ofChange s with cond := some uptoSmall }

/-- 'balerlaw36.ConnSame', WHERE WHAT IT READS IS OF BULK AT MOST 1048576: true; the input reads as it did. -/
def connSameUptoRow : OpenClaim := { program := "ytajalllecoclcaadoor", sum := "ec1ffb239c11fbe5ba8ef268081140a75a70f3c82fc478bef833788a4205c54d", func := "baler/balerlaw36.ConnSame", spec := "connSame", named := ["unicode/utf8.first", "unicode/utf8.acceptRanges"], apart := false, laid := [("unicode/utf8.acceptRanges", laid_unicode_utf8_acceptRanges), ("unicode/utf8.first", laid_unicode_utf8_first)], narrowed := true }
def ConnSameUptoSaid : Prop := connSameUptoRow.holds Tryd.pinned (OpenSpec.upto connSameSpec)

/-- 'balerlaw36.ConnOnce', WHERE WHAT IT READS IS OF BULK AT MOST 1048576: true; the input reads as it did. -/
def connOnceUptoRow : OpenClaim := { program := "ytajalllecoclcaadoor", sum := "ec1ffb239c11fbe5ba8ef268081140a75a70f3c82fc478bef833788a4205c54d", func := "baler/balerlaw36.ConnOnce", spec := "connOnce", named := ["unicode/utf8.first", "unicode/utf8.acceptRanges"], apart := false, laid := [("unicode/utf8.acceptRanges", laid_unicode_utf8_acceptRanges), ("unicode/utf8.first", laid_unicode_utf8_first)], narrowed := true }
def ConnOnceUptoSaid : Prop := connOnceUptoRow.holds Tryd.pinned (OpenSpec.upto connOnceSpec)

/-- 'balerlaw36.ConnFull', WHERE WHAT IT READS IS OF BULK AT MOST 1048576: true; the input reads as it did. -/
def connFullUptoRow : OpenClaim := { program := "ytajalllecoclcaadoor", sum := "ec1ffb239c11fbe5ba8ef268081140a75a70f3c82fc478bef833788a4205c54d", func := "baler/balerlaw36.ConnFull", spec := "connFull", named := ["unicode/utf8.first", "unicode/utf8.acceptRanges"], apart := false, laid := [("unicode/utf8.acceptRanges", laid_unicode_utf8_acceptRanges), ("unicode/utf8.first", laid_unicode_utf8_first)], narrowed := true }
def ConnFullUptoSaid : Prop := connFullUptoRow.holds Tryd.pinned (OpenSpec.upto connFullSpec)

/-- 'balerlaw36.ConnSteps', WHERE WHAT IT READS IS OF BULK AT MOST 1048576: true; the input reads as it did. -/
def connStepsUptoRow : OpenClaim := { program := "ytajalllecoclcaadoor", sum := "ec1ffb239c11fbe5ba8ef268081140a75a70f3c82fc478bef833788a4205c54d", func := "baler/balerlaw36.ConnSteps", spec := "connSteps", named := ["unicode/utf8.first", "unicode/utf8.acceptRanges"], apart := false, laid := [("unicode/utf8.acceptRanges", laid_unicode_utf8_acceptRanges), ("unicode/utf8.first", laid_unicode_utf8_first)], narrowed := true }
def ConnStepsUptoSaid : Prop := connStepsUptoRow.holds Tryd.pinned (OpenSpec.upto connStepsSpec)

/-- 'balerlaw36.ConnNil', WHERE WHAT IT READS IS OF BULK AT MOST 1048576: true; the input reads as it did. -/
def connNilUptoRow : OpenClaim := { program := "ytajalllecoclcaadoor", sum := "ec1ffb239c11fbe5ba8ef268081140a75a70f3c82fc478bef833788a4205c54d", func := "baler/balerlaw36.ConnNil", spec := "connNil", named := ["unicode/utf8.first", "unicode/utf8.acceptRanges"], apart := false, laid := [("unicode/utf8.acceptRanges", laid_unicode_utf8_acceptRanges), ("unicode/utf8.first", laid_unicode_utf8_first)], narrowed := true }
def ConnNilUptoSaid : Prop := connNilUptoRow.holds Tryd.pinned (OpenSpec.upto connNilSpec)

end Rows
end Go.Proofs.YtajalllecoclcaaDoor
