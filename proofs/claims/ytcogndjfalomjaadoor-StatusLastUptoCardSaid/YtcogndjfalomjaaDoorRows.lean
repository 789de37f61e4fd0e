/-
  NARROWER THAN 'FOR EVERY INPUT', by the rows' own cells (each row's printed sentence says how): StatusTexts: laid · StatusParses: laid · StatusJoins: laid · StatusLast: laid · StatusCounts: laid.
  DERIVED. THE GIVEN ROWS OF THIS SEAT. 5 by the template 'for every input the law returns true; each argument reads behind the call as it read before'; 0 by the template 'total and deterministic' (their statements: YtcogndjfalomjaaDoorTotals.lean).
  GIVEN WITH THE SEED: the statements are not yours to turn. If you find one false, say at which input.
  Laid BY PROGRAM, IN A SANDBOX (cutbox-rows.mjs): the forced cells as the released guide's own fill.sh prints them over the translation 35ca88c216f98f45… (all of the seat's roots in one cut). By AI agents, Wed Nov 11 2026. No macro, syntax, notation, axiom, sorry.
-/
import Derived.Test.YtcogndjfalomjaaDoorChecked
import GoSem.PinnedTables
import GoSem.Claim
import GoSem.ClaimJoined
import GoSem.ClaimMapViews
import Derived.JoinedTies
import Derived.KernelRfl
namespace Go.Proofs.YtcogndjfalomjaaDoor
/- THE CELL 'sum', in the pinned program and in every row, IS THE sha256 OF THE DUMP (.gsa) THAT YtcogndjfalomjaaDoorProg.lean LOADS. Nothing in Lean hashes anything: it is a label: what it is worth is what the hold of that sum in a sandbox is worth. -/
noncomputable def Tryd.pinned : Pinned := { name := "ytcogndjfalomjaadoor", sum := "35ca88c216f98f45e46b27df7b7db64269fb4d6e8b4fedaac999a53f8ee98c87", checked := Tryd.checked }
namespace Rows
def none {H : Type} : Left H := { results := [], args := [] }

/- WHAT THE LISTED PACKAGE-LEVEL VARIABLES READ AS WHEN THE CALL BEGINS. Each datum BY PROGRAM (the guide's laid-datum.mjs) off the statement by which the dump's own 'gosem.cut.vars' lays the variable. In a bare row this is a premise. The card (YtcogndjfalomjaaDoorCards.lean) ties it to the program's text. -/
def laid_unicode_utf8_acceptRanges {H : Type} : DataW H := .agg [.agg [.lit (.int .u8 128), .lit (.int .u8 191)], .agg [.lit (.int .u8 160), .lit (.int .u8 191)], .agg [.lit (.int .u8 128), .lit (.int .u8 159)], .agg [.lit (.int .u8 144), .lit (.int .u8 191)], .agg [.lit (.int .u8 128), .lit (.int .u8 143)], .agg [.lit (.int .u8 0), .lit (.int .u8 0)], .agg [.lit (.int .u8 0), .lit (.int .u8 0)], .agg [.lit (.int .u8 0), .lit (.int .u8 0)], .agg [.lit (.int .u8 0), .lit (.int .u8 0)], .agg [.lit (.int .u8 0), .lit (.int .u8 0)], .agg [.lit (.int .u8 0), .lit (.int .u8 0)], .agg [.lit (.int .u8 0), .lit (.int .u8 0)], .agg [.lit (.int .u8 0), .lit (.int .u8 0)], .agg [.lit (.int .u8 0), .lit (.int .u8 0)], .agg [.lit (.int .u8 0), .lit (.int .u8 0)], .agg [.lit (.int .u8 0), .lit (.int .u8 0)]]
/-- One of Go's own tables, pinned by name: the form's constant. -/
def laid_unicode_utf8_first : DataW Unit := Go.Pinned.utf8First

/-- 'balerlaw41.StatusTexts': WHATEVER THE INPUT: true; the input reads as it did. -/
def statusTextsSpec : ChangeSpec := { name := "statusTexts", fn := fun _ => fun
  | [d] => { results := [.lit (.bool true)], args := [d] }
  | _ => none }
def statusTextsRow : OpenClaim := { program := "ytcogndjfalomjaadoor", sum := "35ca88c216f98f45e46b27df7b7db64269fb4d6e8b4fedaac999a53f8ee98c87", func := "baler/balerlaw41.StatusTexts", spec := "statusTexts", inPlace := ["internal/abi.NoEscape", "internal/bytealg.MakeNoZero", "internal/bytealg.CountString", "internal/bytealg.IndexByteString", "internal/bytealg.IndexString"], recurses := true, named := ["unicode/utf8.first", "unicode/utf8.acceptRanges", "internal/bytealg.MaxLen"], apart := false, laid := [("unicode/utf8.acceptRanges", laid_unicode_utf8_acceptRanges), ("unicode/utf8.first", laid_unicode_utf8_first)] }
def StatusTextsSaid : Prop := statusTextsRow.holds Tryd.pinned (OpenSpec.ofChange statusTextsSpec)

/-- ITS FALSE NEIGHBOUR: 'it returns false'. Refute it at one input. -/
def statusTextsWrong : ChangeSpec := { name := "statusTexts", fn := fun _ => fun
  | [d] => { results := [.lit (.bool false)], args := [d] }
  | _ => none }
def StatusTextsWrongFalsely : Prop := statusTextsRow.holds Tryd.pinned (OpenSpec.ofChange statusTextsWrong)

/-- 'balerlaw41.StatusParses': WHATEVER THE INPUT: true; the input reads as it did. -/
def statusParsesSpec : ChangeSpec := { name := "statusParses", fn := fun _ => fun
  | [d] => { results := [.lit (.bool true)], args := [d] }
  | _ => none }
def statusParsesRow : OpenClaim := { program := "ytcogndjfalomjaadoor", sum := "35ca88c216f98f45e46b27df7b7db64269fb4d6e8b4fedaac999a53f8ee98c87", func := "baler/balerlaw41.StatusParses", spec := "statusParses", inPlace := ["internal/bytealg.CountString", "internal/bytealg.IndexByteString", "internal/bytealg.IndexString", "internal/abi.NoEscape", "internal/bytealg.MakeNoZero"], recurses := true, named := ["unicode/utf8.first", "unicode/utf8.acceptRanges", "internal/bytealg.MaxLen"], apart := false, laid := [("unicode/utf8.acceptRanges", laid_unicode_utf8_acceptRanges), ("unicode/utf8.first", laid_unicode_utf8_first)] }
def StatusParsesSaid : Prop := statusParsesRow.holds Tryd.pinned (OpenSpec.ofChange statusParsesSpec)

/-- ITS FALSE NEIGHBOUR: 'it returns false'. Refute it at one input. -/
def statusParsesWrong : ChangeSpec := { name := "statusParses", fn := fun _ => fun
  | [d] => { results := [.lit (.bool false)], args := [d] }
  | _ => none }
def StatusParsesWrongFalsely : Prop := statusParsesRow.holds Tryd.pinned (OpenSpec.ofChange statusParsesWrong)

/-- 'balerlaw41.StatusJoins': WHATEVER THE INPUT: true; the input reads as it did. -/
def statusJoinsSpec : ChangeSpec := { name := "statusJoins", fn := fun _ => fun
  | [d1, d2] => { results := [.lit (.bool true)], args := [d1, d2] }
  | _ => none }
def statusJoinsRow : OpenClaim := { program := "ytcogndjfalomjaadoor", sum := "35ca88c216f98f45e46b27df7b7db64269fb4d6e8b4fedaac999a53f8ee98c87", func := "baler/balerlaw41.StatusJoins", spec := "statusJoins", inPlace := ["internal/bytealg.CountString", "internal/bytealg.IndexByteString", "internal/bytealg.IndexString", "internal/abi.NoEscape", "internal/bytealg.MakeNoZero"], recurses := true, named := ["unicode/utf8.first", "unicode/utf8.acceptRanges", "internal/bytealg.MaxLen"], apart := false, laid := [("unicode/utf8.acceptRanges", laid_unicode_utf8_acceptRanges), ("unicode/utf8.first", laid_unicode_utf8_first)] }
def StatusJoinsSaid : Prop := statusJoinsRow.holds Tryd.pinned (OpenSpec.ofChange statusJoinsSpec)

/-- ITS FALSE NEIGHBOUR: 'it returns false'. Refute it at one input. -/
def statusJoinsWrong : ChangeSpec := { name := "statusJoins", fn := fun _ => fun
  | [d1, d2] => { results := [.lit (.bool false)], args := [d1, d2] }
  | _ => none }
def StatusJoinsWrongFalsely : Prop := statusJoinsRow.holds Tryd.pinned (OpenSpec.ofChange statusJoinsWrong)

/-- 'balerlaw41.StatusLast': WHATEVER THE INPUT: true; the input reads as it did. -/
def statusLastSpec : ChangeSpec := { name := "statusLast", fn := fun _ => fun
  | [d] => { results := [.lit (.bool true)], args := [d] }
  | _ => none }
def statusLastRow : OpenClaim := { program := "ytcogndjfalomjaadoor", sum := "35ca88c216f98f45e46b27df7b7db64269fb4d6e8b4fedaac999a53f8ee98c87", func := "baler/balerlaw41.StatusLast", spec := "statusLast", inPlace := ["internal/bytealg.CountString", "internal/bytealg.IndexByteString", "internal/bytealg.IndexString", "internal/abi.NoEscape", "internal/bytealg.MakeNoZero"], unfollowed := true, recurses := true, named := ["unicode/utf8.first", "unicode/utf8.acceptRanges", "internal/bytealg.MaxLen"], apart := false, laid := [("unicode/utf8.acceptRanges", laid_unicode_utf8_acceptRanges), ("unicode/utf8.first", laid_unicode_utf8_first)] }
def StatusLastSaid : Prop := statusLastRow.holds Tryd.pinned (OpenSpec.ofChange statusLastSpec)

/-- ITS FALSE NEIGHBOUR: 'it returns false'. Refute it at one input. -/
def statusLastWrong : ChangeSpec := { name := "statusLast", fn := fun _ => fun
  | [d] => { results := [.lit (.bool false)], args := [d] }
  | _ => none }
def StatusLastWrongFalsely : Prop := statusLastRow.holds Tryd.pinned (OpenSpec.ofChange statusLastWrong)

/-- 'balerlaw41.StatusCounts': WHATEVER THE INPUT: true; the input reads as it did. -/
def statusCountsSpec : ChangeSpec := { name := "statusCounts", fn := fun _ => fun
  | [d1, d2] => { results := [.lit (.bool true)], args := [d1, d2] }
  | _ => none }
def statusCountsRow : OpenClaim := { program := "ytcogndjfalomjaadoor", sum := "35ca88c216f98f45e46b27df7b7db64269fb4d6e8b4fedaac999a53f8ee98c87", func := "baler/balerlaw41.StatusCounts", spec := "statusCounts", inPlace := ["internal/bytealg.CountString", "internal/bytealg.IndexByteString", "internal/bytealg.IndexString", "internal/abi.NoEscape", "internal/bytealg.MakeNoZero"], unfollowed := true, recurses := true, named := ["unicode/utf8.first", "unicode/utf8.acceptRanges", "internal/bytealg.MaxLen"], apart := false, laid := [("unicode/utf8.acceptRanges", laid_unicode_utf8_acceptRanges), ("unicode/utf8.first", laid_unicode_utf8_first)] }
def StatusCountsSaid : Prop := statusCountsRow.holds Tryd.pinned (OpenSpec.ofChange statusCountsSpec)

/-- ITS FALSE NEIGHBOUR: 'it returns false'. Refute it at one input. -/
def statusCountsWrong : ChangeSpec := { name := "statusCounts", fn := fun _ => fun
  | [d1, d2] => { results := [.lit (.bool false)], args := [d1, d2] }
  | _ => none }
def StatusCountsWrongFalsely : Prop := statusCountsRow.holds Tryd.pinned (OpenSpec.ofChange statusCountsWrong)

/- THE SECOND FORM. 'bulk': how many values and letters a reading holds, each counted each time it is reached (what is shared counts as often as it is met; a slice's spare places count too). A statement '..UptoSaid' is the law's where the arguments, and the package variables that the reading takes, are together of bulk at most 1048576: NARROWER than '..Said'. Prove '..Said' where nothing that the law and all that it calls make is longer than what came in: it says more and counts as full. Else prove '..UptoSaid'. A law counts once. -/
mutual
def uptoBulk {H : Type} : DataW H → Nat
  | .lit (.string bytes) => bytes.length + 1
  | .lit _ => 1
  | .nil => 1
  | .ptr d => uptoBulk d + 1
  | .slice elems spare => uptoBulkAll elems + uptoBulkAll spare + 1
  | .agg parts => uptoBulkAll parts + 1
  | .iface _ d => uptoBulk d + 1
  | .map entries => uptoBulkEntries entries + 1
  | .held _ => 1
def uptoBulkAll {H : Type} : List (DataW H) → Nat
  | [] => 0
  | d :: r => uptoBulk d + uptoBulkAll r
def uptoBulkEntries {H : Type} : List (Lit × DataW H) → Nat
  | [] => 0
  | x :: r => uptoBulkEntry x + uptoBulkEntries r
def uptoBulkEntry {H : Type} : Lit × DataW H → Nat
  | (.string bytes, d) => bytes.length + uptoBulk d + 1
  | (_, d) => uptoBulk d + 1
 end
def uptoSmall : (H : Type) → List (DataW H) → Bool := fun _ ds => decide (uptoBulkAll ds ≤ 1048576)
def OpenSpec.upto (s : _root_.Go.ChangeSpec) : _root_.Go.OpenSpec := { _root_.Go.OpenSpec.ofChange s with cond := some uptoSmall }

/-- 'balerlaw41.StatusTexts', WHERE WHAT IT READS IS OF BULK AT MOST 1048576: true; the input reads as it did. -/
def statusTextsUptoRow : OpenClaim := { program := "ytcogndjfalomjaadoor", sum := "35ca88c216f98f45e46b27df7b7db64269fb4d6e8b4fedaac999a53f8ee98c87", func := "baler/balerlaw41.StatusTexts", spec := "statusTexts", inPlace := ["internal/abi.NoEscape", "internal/bytealg.MakeNoZero", "internal/bytealg.CountString", "internal/bytealg.IndexByteString", "internal/bytealg.IndexString"], recurses := true, named := ["unicode/utf8.first", "unicode/utf8.acceptRanges", "internal/bytealg.MaxLen"], apart := false, laid := [("unicode/utf8.acceptRanges", laid_unicode_utf8_acceptRanges), ("unicode/utf8.first", laid_unicode_utf8_first)], narrowed := true }
def StatusTextsUptoSaid : Prop := statusTextsUptoRow.holds Tryd.pinned (OpenSpec.upto statusTextsSpec)

/-- 'balerlaw41.StatusParses', WHERE WHAT IT READS IS OF BULK AT MOST 1048576: true; the input reads as it did. -/
def statusParsesUptoRow : OpenClaim := { program := "ytcogndjfalomjaadoor", sum := "35ca88c216f98f45e46b27df7b7db64269fb4d6e8b4fedaac999a53f8ee98c87", func := "baler/balerlaw41.StatusParses", spec := "statusParses", inPlace := ["internal/bytealg.CountString", "internal/bytealg.IndexByteString", "internal/bytealg.IndexString", "internal/abi.NoEscape", "internal/bytealg.MakeNoZero"], recurses := true, named := ["unicode/utf8.first", "unicode/utf8.acceptRanges", "internal/bytealg.MaxLen"], apart := false, laid := [("unicode/utf8.acceptRanges", laid_unicode_utf8_acceptRanges), ("unicode/utf8.first", laid_unicode_utf8_first)], narrowed := true }
def StatusParsesUptoSaid : Prop := statusParsesUptoRow.holds Tryd.pinned (OpenSpec.upto statusParsesSpec)

/-- 'balerlaw41.StatusJoins', WHERE WHAT IT READS IS OF BULK AT MOST 1048576: true; the input reads as it did. -/
def statusJoinsUptoRow : OpenClaim := { program := "ytcogndjfalomjaadoor", sum := "35ca88c216f98f45e46b27df7b7db64269fb4d6e8b4fedaac999a53f8ee98c87", func := "baler/balerlaw41.StatusJoins", spec := "statusJoins", inPlace := ["internal/bytealg.CountString", "internal/bytealg.IndexByteString", "internal/bytealg.IndexString", "internal/abi.NoEscape", "internal/bytealg.MakeNoZero"], recurses := true, named := ["unicode/utf8.first", "unicode/utf8.acceptRanges", "internal/bytealg.MaxLen"], apart := false, laid := [("unicode/utf8.acceptRanges", laid_unicode_utf8_acceptRanges), ("unicode/utf8.first", laid_unicode_utf8_first)], narrowed := true }
def StatusJoinsUptoSaid : Prop := statusJoinsUptoRow.holds Tryd.pinned (OpenSpec.upto statusJoinsSpec)

/-- 'balerlaw41.StatusLast', WHERE WHAT IT READS IS OF BULK AT MOST 1048576: true; the input reads as it did. -/
def statusLastUptoRow : OpenClaim := { program := "ytcogndjfalomjaadoor", sum := "35ca88c216f98f45e46b27df7b7db64269fb4d6e8b4fedaac999a53f8ee98c87", func := "baler/balerlaw41.StatusLast", spec := "statusLast", inPlace := ["internal/bytealg.CountString", "internal/bytealg.IndexByteString", "internal/bytealg.IndexString", "internal/abi.NoEscape", "internal/bytealg.MakeNoZero"], unfollowed := true, recurses := true, named := ["unicode/utf8.first", "unicode/utf8.acceptRanges", "internal/bytealg.MaxLen"], apart := false, laid := [("unicode/utf8.acceptRanges", laid_unicode_utf8_acceptRanges), ("unicode/utf8.first", laid_unicode_utf8_first)], narrowed := true }
def StatusLastUptoSaid : Prop := statusLastUptoRow.holds Tryd.pinned (OpenSpec.upto statusLastSpec)

/-- 'balerlaw41.StatusCounts', WHERE WHAT IT READS IS OF BULK AT MOST 1048576: true; the input reads as it did. -/
def statusCountsUptoRow : OpenClaim := { program := "ytcogndjfalomjaadoor", sum := "35ca88c216f98f45e46b27df7b7db64269fb4d6e8b4fedaac999a53f8ee98c87", func := "baler/balerlaw41.StatusCounts", spec := "statusCounts", inPlace := ["internal/bytealg.CountString", "internal/bytealg.IndexByteString", "internal/bytealg.IndexString", "internal/abi.NoEscape", "internal/bytealg.MakeNoZero"], unfollowed := true, recurses := true, named := ["unicode/utf8.first", "unicode/utf8.acceptRanges", "internal/bytealg.MaxLen"], apart := false, laid := [("unicode/utf8.acceptRanges", laid_unicode_utf8_acceptRanges), ("unicode/utf8.first", laid_unicode_utf8_first)], narrowed := true }
def StatusCountsUptoSaid : Prop := statusCountsUptoRow.holds Tryd.pinned (OpenSpec.upto statusCountsSpec)

end Rows
end Go.Proofs.YtcogndjfalomjaaDoor
