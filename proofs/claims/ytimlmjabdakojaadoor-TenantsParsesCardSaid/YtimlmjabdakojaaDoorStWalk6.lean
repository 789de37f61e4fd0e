/- Text of a status; the five numbers as a row, and whether they may be. -/
import Derived.Test.YtimlmjabdakojaaDoorStWalk5
namespace Go.Proofs.YtimlmjabdakojaaDoor
open Go.RowKit
set_option linter.unusedVariables false
set_option linter.unusedSimpArgs false

namespace St
theorem mayL_may (n : Nums) : mayL [n.at', n.jobs, n.used, n.limit, n.left] (decide (n.used ≤ n.limit)) = may n := by
  unfold may
  simp only [mayL, Bool.and_assoc]
/-- a status's five values -/
def ints (n : Nums) : Array Value := #[.int .i64 n.at', .int .i64 n.jobs, .int .i64 n.used, .int .i64 n.limit, .int .i64 n.left]
end St
end Go.Proofs.YtimlmjabdakojaaDoor
