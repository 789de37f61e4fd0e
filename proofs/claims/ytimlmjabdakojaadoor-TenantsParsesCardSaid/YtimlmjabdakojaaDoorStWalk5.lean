/- A status as text. -/
import Derived.Test.YtimlmjabdakojaaDoorStWalk4
import Derived.Test.YtimlmjabdakojaaDoorRowS
import Derived.Test.YtimlmjabdakojaaDoorShelf
namespace Go.Proofs.YtimlmjabdakojaaDoor
open Go.RowKit
set_option linter.unusedVariables false
set_option linter.unusedSimpArgs false

theorem info_string : (Tryd.prog.info? 9).map (fun i => (i.zero, i.size, i.bytes)) = some (some (.string ⟨#[]⟩), 1, 16) := by kernel_rfl
theorem own_strings {w : World} {B : Nat} {v : Value} {xs : List ByteArray} (h : w.ownsRow B 9 1 v xs.length (xs.map Value.string)) (h0 : 0 < xs.length) :
    ∃ b o c, v = .slice (some ⟨b, o, none⟩) xs.length c ∧ b < w.heap.size ∧ xs.length ≤ c ∧ ∀ (j : Nat) x, xs[j]? = some x → w.cell? ⟨b, o + j, none⟩ = some (.string x) := by
  obtain ⟨a, c, rfl, hr, -⟩ := rowS_owns h
  obtain ⟨b, o, rfl, hb, -⟩ := hr.at 0 h0
  refine ⟨b, o, c, rfl, hb, hr.le, fun j x hx => ?_⟩
  have hj : j < xs.length := (List.getElem?_eq_some_iff.1 hx).1
  obtain ⟨b', o', he, _, hc⟩ := hr.at j hj
  cases he
  have := hc 0 (by decide)
  rw [Nat.mul_one, Nat.add_zero] at this
  rw [this, List.getD_eq_getElem?_getD, List.getElem?_map, hx]
  rfl
theorem join5 (a b c d e : List UInt8) : Lib.join [a, b, c, d, e] [32] = a ++ [32] ++ b ++ [32] ++ c ++ [32] ++ d ++ [32] ++ e := by
  rw [Lib.join_cons]
  simp [Lib.joinTail]
end Go.Proofs.YtimlmjabdakojaaDoor
