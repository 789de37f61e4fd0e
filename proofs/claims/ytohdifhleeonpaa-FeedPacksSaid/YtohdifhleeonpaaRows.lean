/-
  No cell of these rows narrows 'for every input' (looked for: loops, veiled, ifaces, maps, wideKeys, modest, calm, conditions, laid).
  DERIVED. THE GIVEN ROWS OF THIS SEAT. 5 by the template 'for every input the law returns true; each argument reads behind the call as it read before'; 0 by the template 'total and deterministic' (their statements: YtohdifhleeonpaaTotals.lean).
  GIVEN WITH THE SEED: the statements are not yours to turn. If you find one false, say at which input.
  Laid BY PROGRAM, IN A SANDBOX (cutbox-rows.mjs): the forced cells as the released guide's own fill.sh prints them over the translation 542f61bafbc261ef… (all of the seat's roots in one cut). By AI agents, Wed Nov 11 2026. No macro, syntax, notation, axiom, sorry.
-/
import Derived.Test.YtohdifhleeonpaaChecked
import GoSem.Claim
import GoSem.ClaimJoined
import GoSem.ClaimMapViews
import Derived.JoinedTies
import Derived.KernelRfl
namespace Go.Proofs.Ytohdifhleeonpaa
/- THE CELL 'sum', in the pinned program and in every row, IS THE sha256 OF THE DUMP (.gsa) THAT YtohdifhleeonpaaProg.lean LOADS. Nothing in Lean hashes anything: it is a label: what it is worth is what the hold of that sum in a sandbox is worth. -/
noncomputable def Try.pinned : Pinned := { name := "ytohdifhleeonpaa", sum := "542f61bafbc261ef5eef5611467d8429017179a7e9f2925927d8c5502d4dd79e", checked := Try.checked }
namespace Rows
def none {H : Type} : Left H := { results := [], args := [] }

/-- 'balerlaw04.FeedPacks': WHATEVER THE INPUT: true; the input reads as it did. -/
def feedPacksSpec : ChangeSpec := { name := "feedPacks", fn := fun _ => fun
  | [d] => { results := [.lit (.bool true)], args := [d] }
  | _ => none }
def feedPacksRow : OpenClaim := { program := "ytohdifhleeonpaa", sum := "542f61bafbc261ef5eef5611467d8429017179a7e9f2925927d8c5502d4dd79e", func := "baler/balerlaw04.FeedPacks", spec := "feedPacks", inPlace := ["internal/abi.NoEscape", "internal/bytealg.MakeNoZero"], apart := false }
def FeedPacksSaid : Prop := feedPacksRow.holds Try.pinned (OpenSpec.ofChange feedPacksSpec)

/-- ITS FALSE NEIGHBOUR: 'it returns false'. Refute it at one input. -/
def feedPacksWrong : ChangeSpec := { name := "feedPacks", fn := fun _ => fun
  | [d] => { results := [.lit (.bool false)], args := [d] }
  | _ => none }
def FeedPacksWrongFalsely : Prop := feedPacksRow.holds Try.pinned (OpenSpec.ofChange feedPacksWrong)

/-- 'balerlaw04.FeedUnpacks': WHATEVER THE INPUT: true; the input reads as it did. -/
def feedUnpacksSpec : ChangeSpec := { name := "feedUnpacks", fn := fun _ => fun
  | [d] => { results := [.lit (.bool true)], args := [d] }
  | _ => none }
def feedUnpacksRow : OpenClaim := { program := "ytohdifhleeonpaa", sum := "542f61bafbc261ef5eef5611467d8429017179a7e9f2925927d8c5502d4dd79e", func := "baler/balerlaw04.FeedUnpacks", spec := "feedUnpacks", inPlace := ["internal/abi.NoEscape", "internal/bytealg.MakeNoZero"], apart := false }
def FeedUnpacksSaid : Prop := feedUnpacksRow.holds Try.pinned (OpenSpec.ofChange feedUnpacksSpec)

/-- ITS FALSE NEIGHBOUR: 'it returns false'. Refute it at one input. -/
def feedUnpacksWrong : ChangeSpec := { name := "feedUnpacks", fn := fun _ => fun
  | [d] => { results := [.lit (.bool false)], args := [d] }
  | _ => none }
def FeedUnpacksWrongFalsely : Prop := feedUnpacksRow.holds Try.pinned (OpenSpec.ofChange feedUnpacksWrong)

/-- 'balerlaw04.FeedBack': WHATEVER THE INPUT: true; the input reads as it did. -/
def feedBackSpec : ChangeSpec := { name := "feedBack", fn := fun _ => fun
  | [d] => { results := [.lit (.bool true)], args := [d] }
  | _ => none }
def feedBackRow : OpenClaim := { program := "ytohdifhleeonpaa", sum := "542f61bafbc261ef5eef5611467d8429017179a7e9f2925927d8c5502d4dd79e", func := "baler/balerlaw04.FeedBack", spec := "feedBack", inPlace := ["internal/abi.NoEscape", "internal/bytealg.MakeNoZero"], apart := false }
def FeedBackSaid : Prop := feedBackRow.holds Try.pinned (OpenSpec.ofChange feedBackSpec)

/-- ITS FALSE NEIGHBOUR: 'it returns false'. Refute it at one input. -/
def feedBackWrong : ChangeSpec := { name := "feedBack", fn := fun _ => fun
  | [d] => { results := [.lit (.bool false)], args := [d] }
  | _ => none }
def FeedBackWrongFalsely : Prop := feedBackRow.holds Try.pinned (OpenSpec.ofChange feedBackWrong)

/-- 'balerlaw04.FeedAnew': WHATEVER THE INPUT: true; the input reads as it did. -/
def feedAnewSpec : ChangeSpec := { name := "feedAnew", fn := fun _ => fun
  | [d1, d2] => { results := [.lit (.bool true)], args := [d1, d2] }
  | _ => none }
def feedAnewRow : OpenClaim := { program := "ytohdifhleeonpaa", sum := "542f61bafbc261ef5eef5611467d8429017179a7e9f2925927d8c5502d4dd79e", func := "baler/balerlaw04.FeedAnew", spec := "feedAnew", inPlace := ["internal/abi.NoEscape", "internal/bytealg.MakeNoZero"], apart := false }
def FeedAnewSaid : Prop := feedAnewRow.holds Try.pinned (OpenSpec.ofChange feedAnewSpec)

/-- ITS FALSE NEIGHBOUR: 'it returns false'. Refute it at one input. -/
def feedAnewWrong : ChangeSpec := { name := "feedAnew", fn := fun _ => fun
  | [d1, d2] => { results := [.lit (.bool false)], args := [d1, d2] }
  | _ => none }
def FeedAnewWrongFalsely : Prop := feedAnewRow.holds Try.pinned (OpenSpec.ofChange feedAnewWrong)

/-- 'balerlaw04.FeedNil': WHATEVER THE INPUT: true; the input reads as it did. -/
def feedNilSpec : ChangeSpec := { name := "feedNil", fn := fun _ => fun
  | [d] => { results := [.lit (.bool true)], args := [d] }
  | _ => none }
def feedNilRow : OpenClaim := { program := "ytohdifhleeonpaa", sum := "542f61bafbc261ef5eef5611467d8429017179a7e9f2925927d8c5502d4dd79e", func := "baler/balerlaw04.FeedNil", spec := "feedNil", inPlace := ["internal/abi.NoEscape", "internal/bytealg.MakeNoZero"], apart := false }
def FeedNilSaid : Prop := feedNilRow.holds Try.pinned (OpenSpec.ofChange feedNilSpec)

/-- ITS FALSE NEIGHBOUR: 'it returns false'. Refute it at one input. -/
def feedNilWrong : ChangeSpec := { name := "feedNil", fn := fun _ => fun
  | [d] => { results := [.lit (.bool false)], args := [d] }
  | _ => none }
def FeedNilWrongFalsely : Prop := feedNilRow.holds Try.pinned (OpenSpec.ofChange feedNilWrong)

/- THE SECOND FORM. 'bulk': how many values and letters a reading holds, each counted each time it is reached (what is shared counts as often as it is met; a slice's spare places count too). A statement '..UptoSaid' is the law's where the arguments, and the package variables that the reading takes, are together of bulk at most 1048576: NARROWER than '..Said'. Prove '..Said' where nothing that the law and all that it calls make is longer than what came in: it says more and counts as full. Else prove '..UptoSaid'. A law counts once. -/
mutual
def uptoBulk {H : Type} : DataW H → Nat
  | .lit (.string bytes) => bytes.length + 1
  | .lit _ => 1
  | .nil => 1
  | .ptr d => uptoBulk d + 1
  | .slice elems spare => uptoBulkAll elems + uptoBulkAll spare + 1
  | .agg parts => uptoBulkAll parts + 1
  | .iface _ d => uptoBulk d + 1
  | .map entries => uptoBulkEntries entries + 1
  | .held _ => 1
def uptoBulkAll {H : Type} : List (DataW H) → Nat
  | [] => 0
  | d :: r => uptoBulk d + uptoBulkAll r
def uptoBulkEntries {H : Type} : List (Lit × DataW H) → Nat
  | [] => 0
  | x :: r => uptoBulkEntry x + uptoBulkEntries r
def uptoBulkEntry {H : Type} : Lit × DataW H → Nat
  | (.string bytes, d) => bytes.length + uptoBulk d + 1
  | (_, d) => uptoBulk d + 1
 end
def uptoSmall : (H : Type) → List (DataW H) → Bool := fun _ ds => decide (uptoBulkAll ds ≤ 1048576)
def OpenSpec.upto (s : _root_.Go.ChangeSpec) : _root_.Go.OpenSpec := { _root_.Go.OpenSpec.ofChange s with cond := some uptoSmall }

/-- 'balerlaw04.FeedPacks', WHERE WHAT IT READS IS OF BULK AT MOST 1048576: true; the input reads as it did. -/
def feedPacksUptoRow : OpenClaim := { program := "ytohdifhleeonpaa", sum := "542f61bafbc261ef5eef5611467d8429017179a7e9f2925927d8c5502d4dd79e", func := "baler/balerlaw04.FeedPacks", spec := "feedPacks", inPlace := ["internal/abi.NoEscape", "internal/bytealg.MakeNoZero"], apart := false, narrowed := true }
def FeedPacksUptoSaid : Prop := feedPacksUptoRow.holds Try.pinned (OpenSpec.upto feedPacksSpec)

/-- 'balerlaw04.FeedUnpacks', WHERE WHAT IT READS IS OF BULK AT MOST 1048576: true; the input reads as it did. -/
def feedUnpacksUptoRow : OpenClaim := { program := "ytohdifhleeonpaa", sum := "542f61bafbc261ef5eef5611467d8429017179a7e9f2925927d8c5502d4dd79e", func := "baler/balerlaw04.FeedUnpacks", spec := "feedUnpacks", inPlace := ["internal/abi.NoEscape", "internal/bytealg.MakeNoZero"], apart := false, narrowed := true }
def FeedUnpacksUptoSaid : Prop := feedUnpacksUptoRow.holds Try.pinned (OpenSpec.upto feedUnpacksSpec)

/-- 'balerlaw04.FeedBack', WHERE WHAT IT READS IS OF BULK AT MOST 1048576: true; the input reads as it did. -/
def feedBackUptoRow : OpenClaim := { program := "ytohdifhleeonpaa", sum := "542f61bafbc261ef5eef5611467d8429017179a7e9f2925927d8c5502d4dd79e", func := "baler/balerlaw04.FeedBack", spec := "feedBack", inPlace := ["internal/abi.NoEscape", "internal/bytealg.MakeNoZero"], apart := false, narrowed := true }
def FeedBackUptoSaid : Prop := feedBackUptoRow.holds Try.pinned (OpenSpec.upto feedBackSpec)

/-- 'balerlaw04.FeedAnew', WHERE WHAT IT READS IS OF BULK AT MOST 1048576: true; the input reads as it did. -/
def feedAnewUptoRow : OpenClaim := { program := "ytohdifhleeonpaa", sum := "542f61bafbc261ef5eef5611467d8429017179a7e9f2925927d8c5502d4dd79e", func := "baler/balerlaw04.FeedAnew", spec := "feedAnew", inPlace := ["internal/abi.NoEscape", "internal/bytealg.MakeNoZero"], apart := false, narrowed := true }
def FeedAnewUptoSaid : Prop := feedAnewUptoRow.holds Try.pinned (OpenSpec.upto feedAnewSpec)

/-- 'balerlaw04.FeedNil', WHERE WHAT IT READS IS OF BULK AT MOST 1048576: true; the input reads as it did. -/
def feedNilUptoRow : OpenClaim := { program := "ytohdifhleeonpaa", sum := "542f61bafbc261ef5eef5611467d8429017179a7e9f2925927d8c5502d4dd79e", func := "baler/balerlaw04.FeedNil", spec := "feedNil", inPlace := ["internal/abi.NoEscape", "internal/bytealg.MakeNoZero"], apart := false, narrowed := true }
def FeedNilUptoSaid : Prop := feedNilUptoRow.holds Try.pinned (OpenSpec.upto feedNilSpec)

end Rows
end Go.Proofs.Ytohdifhleeonpaa
