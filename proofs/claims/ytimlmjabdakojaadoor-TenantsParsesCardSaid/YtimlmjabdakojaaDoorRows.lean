/-
  NARROWER THAN 'FOR EVERY INPUT', by the rows' own cells (each row's printed sentence says how): TenantsCheck: laid · TenantsFind: laid · TenantsTexts: laid · TenantsParses: laid · TenantsConfig: laid.
  DERIVED. THE GIVEN ROWS OF THIS SEAT. 5 by the template 'for every input the law returns true; each argument reads behind the call as it read before'; 0 by the template 'total and deterministic' (their statements: YtimlmjabdakojaaDoorTotals.lean).
  GIVEN WITH THE SEED: the statements are not yours to turn. If you find one false, say at which input.
  Laid BY PROGRAM, IN A SANDBOX (cutbox-rows.mjs): the forced cells as the released guide's own fill.sh prints them over the translation 589eba3de00e6f16… (all of the seat's roots in one cut). By AI agents, Wed Nov 11 2026. No macro, syntax, notation, axiom, sorry.
-/
import Derived.Test.YtimlmjabdakojaaDoorChecked
import GoSem.PinnedTables
import GoSem.Claim
import GoSem.ClaimJoined
import GoSem.ClaimMapViews
import Derived.JoinedTies
import Derived.KernelRfl
namespace Go.Proofs.YtimlmjabdakojaaDoor
/- THE CELL 'sum', in the pinned program and in every row, IS THE sha256 OF THE DUMP (.gsa) THAT YtimlmjabdakojaaDoorProg.lean LOADS. Nothing in Lean hashes anything: it is a label: what it is worth is what the hold of that sum in a sandbox is worth. -/
noncomputable def Tryd.pinned : Pinned := { name := "ytimlmjabdakojaadoor", sum := "589eba3de00e6f16faaf1caf0aa7f499e0739917e8811fc201b7b4c4bb1fb83c", checked := Tryd.checked }
namespace Rows
def none {H : Type} : Left H := { results := [], args := [] }

/- WHAT THE LISTED PACKAGE-LEVEL VARIABLES READ AS WHEN THE CALL BEGINS. Each datum BY PROGRAM (the guide's laid-datum.mjs) off the statement by which the dump's own 'gosem.cut.vars' lays the variable. In a bare row this is a premise. The card (YtimlmjabdakojaaDoorCards.lean) ties it to the program's text. -/
def laid_unicode_utf8_acceptRanges {H : Type} : DataW H := .agg [.agg [.lit (.int .u8 128), .lit (.int .u8 191)], .agg [.lit (.int .u8 160), .lit (.int .u8 191)], .agg [.lit (.int .u8 128), .lit (.int .u8 159)], .agg [.lit (.int .u8 144), .lit (.int .u8 191)], .agg [.lit (.int .u8 128), .lit (.int .u8 143)], .agg [.lit (.int .u8 0), .lit (.int .u8 0)], .agg [.lit (.int .u8 0), .lit (.int .u8 0)], .agg [.lit (.int .u8 0), .lit (.int .u8 0)], .agg [.lit (.int .u8 0), .lit (.int .u8 0)], .agg [.lit (.int .u8 0), .lit (.int .u8 0)], .agg [.lit (.int .u8 0), .lit (.int .u8 0)], .agg [.lit (.int .u8 0), .lit (.int .u8 0)], .agg [.lit (.int .u8 0), .lit (.int .u8 0)], .agg [.lit (.int .u8 0), .lit (.int .u8 0)], .agg [.lit (.int .u8 0), .lit (.int .u8 0)], .agg [.lit (.int .u8 0), .lit (.int .u8 0)]]
/-- One of Go's own tables, pinned by name: the form's constant. -/
def laid_unicode_utf8_first : DataW Unit := Go.Pinned.utf8First

/-- 'balerlaw32.TenantsCheck': WHATEVER THE INPUT: true; the input reads as it did. -/
def tenantsCheckSpec : ChangeSpec := { name := "tenantsCheck", fn := fun _ => fun
  | [d] => { results := [.lit (.bool true)], args := [d] }
  | _ => none }
def tenantsCheckRow : OpenClaim := { program := "ytimlmjabdakojaadoor", sum := "589eba3de00e6f16faaf1caf0aa7f499e0739917e8811fc201b7b4c4bb1fb83c", func := "baler/balerlaw32.TenantsCheck", spec := "tenantsCheck", inPlace := ["internal/bytealg.CountString", "internal/bytealg.IndexByteString", "internal/bytealg.IndexString", "internal/abi.NoEscape", "internal/bytealg.MakeNoZero"], recurses := true, named := ["unicode/utf8.first", "unicode/utf8.acceptRanges", "internal/bytealg.MaxLen"], apart := false, laid := [("unicode/utf8.acceptRanges", laid_unicode_utf8_acceptRanges), ("unicode/utf8.first", laid_unicode_utf8_first)] }
def TenantsCheckSaid : Prop := tenantsCheckRow.holds Tryd.pinned (OpenSpec.ofChange tenantsCheckSpec)

/-- ITS FALSE NEIGHBOUR: 'it returns false'. Refute it at one input. -/
def tenantsCheckWrong : ChangeSpec := { name := "tenantsCheck", fn := fun _ => fun
  | [d] => { results := [.lit (.bool false)], args := [d] }
  | _ => none }
def TenantsCheckWrongFalsely : Prop := tenantsCheckRow.holds Tryd.pinned (OpenSpec.ofChange tenantsCheckWrong)

/-- 'balerlaw32.TenantsFind': WHATEVER THE INPUT: true; the input reads as it did. -/
def tenantsFindSpec : ChangeSpec := { name := "tenantsFind", fn := fun _ => fun
  | [d1, d2] => { results := [.lit (.bool true)], args := [d1, d2] }
  | _ => none }
def tenantsFindRow : OpenClaim := { program := "ytimlmjabdakojaadoor", sum := "589eba3de00e6f16faaf1caf0aa7f499e0739917e8811fc201b7b4c4bb1fb83c", func := "baler/balerlaw32.TenantsFind", spec := "tenantsFind", inPlace := ["internal/bytealg.CountString", "internal/bytealg.IndexByteString", "internal/bytealg.IndexString", "internal/abi.NoEscape", "internal/bytealg.MakeNoZero"], recurses := true, named := ["unicode/utf8.first", "unicode/utf8.acceptRanges", "internal/bytealg.MaxLen"], apart := false, laid := [("unicode/utf8.acceptRanges", laid_unicode_utf8_acceptRanges), ("unicode/utf8.first", laid_unicode_utf8_first)] }
def TenantsFindSaid : Prop := tenantsFindRow.holds Tryd.pinned (OpenSpec.ofChange tenantsFindSpec)

/-- ITS FALSE NEIGHBOUR: 'it returns false'. Refute it at one input. -/
def tenantsFindWrong : ChangeSpec := { name := "tenantsFind", fn := fun _ => fun
  | [d1, d2] => { results := [.lit (.bool false)], args := [d1, d2] }
  | _ => none }
def TenantsFindWrongFalsely : Prop := tenantsFindRow.holds Tryd.pinned (OpenSpec.ofChange tenantsFindWrong)

/-- 'balerlaw32.TenantsTexts': WHATEVER THE INPUT: true; the input reads as it did. -/
def tenantsTextsSpec : ChangeSpec := { name := "tenantsTexts", fn := fun _ => fun
  | [d] => { results := [.lit (.bool true)], args := [d] }
  | _ => none }
def tenantsTextsRow : OpenClaim := { program := "ytimlmjabdakojaadoor", sum := "589eba3de00e6f16faaf1caf0aa7f499e0739917e8811fc201b7b4c4bb1fb83c", func := "baler/balerlaw32.TenantsTexts", spec := "tenantsTexts", inPlace := ["internal/bytealg.CountString", "internal/bytealg.IndexByteString", "internal/bytealg.IndexString", "internal/abi.NoEscape", "internal/bytealg.MakeNoZero"], recurses := true, named := ["unicode/utf8.first", "unicode/utf8.acceptRanges", "internal/bytealg.MaxLen"], apart := false, laid := [("unicode/utf8.acceptRanges", laid_unicode_utf8_acceptRanges), ("unicode/utf8.first", laid_unicode_utf8_first)] }
def TenantsTextsSaid : Prop := tenantsTextsRow.holds Tryd.pinned (OpenSpec.ofChange tenantsTextsSpec)

/-- ITS FALSE NEIGHBOUR: 'it returns false'. Refute it at one input. -/
def tenantsTextsWrong : ChangeSpec := { name := "tenantsTexts", fn := fun _ => fun
  | [d] => { results := [.lit (.bool false)], args := [d] }
  | _ => none }
def TenantsTextsWrongFalsely : Prop := tenantsTextsRow.holds Tryd.pinned (OpenSpec.ofChange tenantsTextsWrong)

/-- 'balerlaw32.TenantsParses': WHATEVER THE INPUT: true; the input reads as it did. -/
def tenantsParsesSpec : ChangeSpec := { name := "tenantsParses", fn := fun _ => fun
  | [d] => { results := [.lit (.bool true)], args := [d] }
  | _ => none }
def tenantsParsesRow : OpenClaim := { program := "ytimlmjabdakojaadoor", sum := "589eba3de00e6f16faaf1caf0aa7f499e0739917e8811fc201b7b4c4bb1fb83c", func := "baler/balerlaw32.TenantsParses", spec := "tenantsParses", inPlace := ["internal/bytealg.CountString", "internal/bytealg.IndexByteString", "internal/bytealg.IndexString", "internal/abi.NoEscape", "internal/bytealg.MakeNoZero"], recurses := true, named := ["unicode/utf8.first", "unicode/utf8.acceptRanges", "internal/bytealg.MaxLen"], apart := false, laid := [("unicode/utf8.acceptRanges", laid_unicode_utf8_acceptRanges), ("unicode/utf8.first", laid_unicode_utf8_first)] }
def TenantsParsesSaid : Prop := tenantsParsesRow.holds Tryd.pinned (OpenSpec.ofChange tenantsParsesSpec)

/-- ITS FALSE NEIGHBOUR: 'it returns false'. Refute it at one input. -/
def tenantsParsesWrong : ChangeSpec := { name := "tenantsParses", fn := fun _ => fun
  | [d] => { results := [.lit (.bool false)], args := [d] }
  | _ => none }
def TenantsParsesWrongFalsely : Prop := tenantsParsesRow.holds Tryd.pinned (OpenSpec.ofChange tenantsParsesWrong)

/-- 'balerlaw32.TenantsConfig': WHATEVER THE INPUT: true; the input reads as it did. -/
def tenantsConfigSpec : ChangeSpec := { name := "tenantsConfig", fn := fun _ => fun
  | [d] => { results := [.lit (.bool true)], args := [d] }
  | _ => none }
def tenantsConfigRow : OpenClaim := { program := "ytimlmjabdakojaadoor", sum := "589eba3de00e6f16faaf1caf0aa7f499e0739917e8811fc201b7b4c4bb1fb83c", func := "baler/balerlaw32.TenantsConfig", spec := "tenantsConfig", inPlace := ["internal/bytealg.CountString", "internal/bytealg.IndexByteString", "internal/bytealg.IndexString", "internal/abi.NoEscape", "internal/bytealg.MakeNoZero"], recurses := true, named := ["unicode/utf8.first", "unicode/utf8.acceptRanges", "internal/bytealg.MaxLen"], apart := false, laid := [("unicode/utf8.acceptRanges", laid_unicode_utf8_acceptRanges), ("unicode/utf8.first", laid_unicode_utf8_first)] }
def TenantsConfigSaid : Prop := tenantsConfigRow.holds Tryd.pinned (OpenSpec.ofChange tenantsConfigSpec)

/-- ITS FALSE NEIGHBOUR: 'it returns false'. Refute it at one input. -/
def tenantsConfigWrong : ChangeSpec := { name := "tenantsConfig", fn := fun _ => fun
  | [d] => { results := [.lit (.bool false)], args := [d] }
  | _ => none }
def TenantsConfigWrongFalsely : Prop := tenantsConfigRow.holds Tryd.pinned (OpenSpec.ofChange tenantsConfigWrong)

/- THE SECOND FORM. 'bulk': how many values and letters a reading holds, each counted each time it is reached (what is shared counts as often as it is met; a slice's spare places count too). A statement '..UptoSaid' is the law's where the arguments, and the package variables that the reading takes, are together of bulk at most 1048576: NARROWER than '..Said'. Prove '..Said' where nothing that the law and all that it calls make is longer than what came in: it says more and counts as full. Else prove '..UptoSaid'. A law counts once. -/
mutual
def uptoBulk {H : Type} : DataW H → Nat
  | .lit (.string bytes) => bytes.length + 1
  | .lit _ => 1
  | .nil => 1
  | .ptr d => uptoBulk d + 1
  | .slice elems spare => uptoBulkAll elems + uptoBulkAll spare + 1
  | .agg parts => uptoBulkAll parts + 1
  | .iface _ d => uptoBulk d + 1
  | .map entries => uptoBulkEntries entries + 1
  | .held _ => 1
def uptoBulkAll {H : Type} : List (DataW H) → Nat
  | [] => 0
  | d :: r => uptoBulk d + uptoBulkAll r
def uptoBulkEntries {H : Type} : List (Lit × DataW H) → Nat
  | [] => 0
  | x :: r => uptoBulkEntry x + uptoBulkEntries r
def uptoBulkEntry {H : Type} : Lit × DataW H → Nat
  | (.string bytes, d) => bytes.length + uptoBulk d + 1
  | (_, d) => uptoBulk d + 1
 end
def uptoSmall : (H : Type) → List (DataW H) → Bool := fun _ ds => decide (uptoBulkAll ds ≤ 1048576)
def OpenSpec.upto (s : _root_.Go.ChangeSpec) : _root_.Go.OpenSpec := { _root_.Go.OpenSpec.ofChange s with cond := some uptoSmall }

/-- 'balerlaw32.TenantsCheck', WHERE WHAT IT READS IS OF BULK AT MOST 1048576: true; the input reads as it did. -/
def tenantsCheckUptoRow : OpenClaim := { program := "ytimlmjabdakojaadoor", sum := "589eba3de00e6f16faaf1caf0aa7f499e0739917e8811fc201b7b4c4bb1fb83c", func := "baler/balerlaw32.TenantsCheck", spec := "tenantsCheck", inPlace := ["internal/bytealg.CountString", "internal/bytealg.IndexByteString", "internal/bytealg.IndexString", "internal/abi.NoEscape", "internal/bytealg.MakeNoZero"], recurses := true, named := ["unicode/utf8.first", "unicode/utf8.acceptRanges", "internal/bytealg.MaxLen"], apart := false, laid := [("unicode/utf8.acceptRanges", laid_unicode_utf8_acceptRanges), ("unicode/utf8.first", laid_unicode_utf8_first)], narrowed := true }
def TenantsCheckUptoSaid : Prop := tenantsCheckUptoRow.holds Tryd.pinned (OpenSpec.upto tenantsCheckSpec)

/-- 'balerlaw32.TenantsFind', WHERE WHAT IT READS IS OF BULK AT MOST 1048576: true; the input reads as it did. -/
def tenantsFindUptoRow : OpenClaim := { program := "ytimlmjabdakojaadoor", sum := "589eba3de00e6f16faaf1caf0aa7f499e0739917e8811fc201b7b4c4bb1fb83c", func := "baler/balerlaw32.TenantsFind", spec := "tenantsFind", inPlace := ["internal/bytealg.CountString", "internal/bytealg.IndexByteString", "internal/bytealg.IndexString", "internal/abi.NoEscape", "internal/bytealg.MakeNoZero"], recurses := true, named := ["unicode/utf8.first", "unicode/utf8.acceptRanges", "internal/bytealg.MaxLen"], apart := false, laid := [("unicode/utf8.acceptRanges", laid_unicode_utf8_acceptRanges), ("unicode/utf8.first", laid_unicode_utf8_first)], narrowed := true }
def TenantsFindUptoSaid : Prop := tenantsFindUptoRow.holds Tryd.pinned (OpenSpec.upto tenantsFindSpec)

/-- 'balerlaw32.TenantsTexts', WHERE WHAT IT READS IS OF BULK AT MOST 1048576: true; the input reads as it did. -/
def tenantsTextsUptoRow : OpenClaim := { program := "ytimlmjabdakojaadoor", sum := "589eba3de00e6f16faaf1caf0aa7f499e0739917e8811fc201b7b4c4bb1fb83c", func := "baler/balerlaw32.TenantsTexts", spec := "tenantsTexts", inPlace := ["internal/bytealg.CountString", "internal/bytealg.IndexByteString", "internal/bytealg.IndexString", "internal/abi.NoEscape", "internal/bytealg.MakeNoZero"], recurses := true, named := ["unicode/utf8.first", "unicode/utf8.acceptRanges", "internal/bytealg.MaxLen"], apart := false, laid := [("unicode/utf8.acceptRanges", laid_unicode_utf8_acceptRanges), ("unicode/utf8.first", laid_unicode_utf8_first)], narrowed := true }
def TenantsTextsUptoSaid : Prop := tenantsTextsUptoRow.holds Tryd.pinned (OpenSpec.upto tenantsTextsSpec)

/-- 'balerlaw32.TenantsParses', WHERE WHAT IT READS IS OF BULK AT MOST 1048576: true; the input reads as it did. -/
def tenantsParsesUptoRow : OpenClaim := { program := "ytimlmjabdakojaadoor", sum := "589eba3de00e6f16faaf1caf0aa7f499e0739917e8811fc201b7b4c4bb1fb83c", func := "baler/balerlaw32.TenantsParses", spec := "tenantsParses", inPlace := ["internal/bytealg.CountString", "internal/bytealg.IndexByteString", "internal/bytealg.IndexString", "internal/abi.NoEscape", "internal/bytealg.MakeNoZero"], recurses := true, named := ["unicode/utf8.first", "unicode/utf8.acceptRanges", "internal/bytealg.MaxLen"], apart := false, laid := [("unicode/utf8.acceptRanges", laid_unicode_utf8_acceptRanges), ("unicode/utf8.first", laid_unicode_utf8_first)], narrowed := true }
def TenantsParsesUptoSaid : Prop := tenantsParsesUptoRow.holds Tryd.pinned (OpenSpec.upto tenantsParsesSpec)

/-- 'balerlaw32.TenantsConfig', WHERE WHAT IT READS IS OF BULK AT MOST 1048576: true; the input reads as it did. -/
def tenantsConfigUptoRow : OpenClaim := { program := "ytimlmjabdakojaadoor", sum := "589eba3de00e6f16faaf1caf0aa7f499e0739917e8811fc201b7b4c4bb1fb83c", func := "baler/balerlaw32.TenantsConfig", spec := "tenantsConfig", inPlace := ["internal/bytealg.CountString", "internal/bytealg.IndexByteString", "internal/bytealg.IndexString", "internal/abi.NoEscape", "internal/bytealg.MakeNoZero"], recurses := true, named := ["unicode/utf8.first", "unicode/utf8.acceptRanges", "internal/bytealg.MaxLen"], apart := false, laid := [("unicode/utf8.acceptRanges", laid_unicode_utf8_acceptRanges), ("unicode/utf8.first", laid_unicode_utf8_first)], narrowed := true }
def TenantsConfigUptoSaid : Prop := tenantsConfigUptoRow.holds Tryd.pinned (OpenSpec.upto tenantsConfigSpec)

end Rows
end Go.Proofs.YtimlmjabdakojaaDoor
