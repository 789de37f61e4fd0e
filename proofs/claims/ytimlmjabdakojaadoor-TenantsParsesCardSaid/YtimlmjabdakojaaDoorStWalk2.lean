/- A status's list, and whether it may be. -/
import Derived.Test.YtimlmjabdakojaaDoorStWalk1
import Derived.Deep.CutRange
import Derived.Test.YtimlmjabdakojaaDoorRet
namespace Go.Proofs.YtimlmjabdakojaaDoor
open Go.RowKit
set_option linter.unusedVariables false

namespace St
def mayL : List Int → Bool → Bool
  | [], r => r
  | x :: l, r => okI x && mayL l r
theorem mayL_ok (x : Int) (l : List Int) (r : Bool) (h : okI x = true) : mayL (x :: l) r = mayL l r := by show (okI x && mayL l r) = _; rw [h, Bool.true_and]
theorem mayL_no (x : Int) (l : List Int) (r : Bool) (h : ¬ okI x = true) : mayL (x :: l) r = false := by
  have h2 : okI x = false := by simpa using h
  show (okI x && mayL l r) = _; rw [h2, Bool.false_and]
end St
end Go.Proofs.YtimlmjabdakojaaDoor
