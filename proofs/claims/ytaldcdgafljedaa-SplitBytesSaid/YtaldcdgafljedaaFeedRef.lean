/- The reference of feeding: Wants, Told, Sure. -/
import Derived.Test.YtaldcdgafljedaaFeedMath
import Derived.Test.YtaldcdgafljedaaRleRef3
namespace Go.Proofs.Ytaldcdgafljedaa
open Go.RowKit
set_option linter.unusedVariables false
set_option linter.unusedSimpArgs false

theorem list_to (t : ByteArray) (n : Nat) : (t.extract 0 n).data.toList = t.data.toList.take n := by
  simp only [ByteArray.data_extract, Array.toList_extract, List.extract_eq_take_drop, List.drop_zero, Nat.sub_zero]
end Go.Proofs.Ytaldcdgafljedaa
