/- A status's numbers. -/
import Derived.Test.YtimlmjabdakojaaDoorStMath
import Derived.Test.YtimlmjabdakojaaDoorRleRef1
namespace Go.Proofs.YtimlmjabdakojaaDoor
open Go.RowKit
set_option linter.unusedVariables false

theorem stempty (s : ByteArray) : s.toList.isEmpty = decide (s.size = 0) := by
  rw [ByteArray.toList_eq, Bool.eq_iff_iff, decide_eq_true_eq, List.isEmpty_iff, ← Fr.size_list]
  exact ⟨fun h => by rw [h]; rfl, fun h => List.eq_nil_of_length_eq_zero h⟩
end Go.Proofs.YtimlmjabdakojaaDoor
