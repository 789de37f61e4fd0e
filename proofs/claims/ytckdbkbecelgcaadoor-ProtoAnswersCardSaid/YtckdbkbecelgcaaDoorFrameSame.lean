/- The same frames. -/
import Derived.Test.YtckdbkbecelgcaaDoorFrameAll1
import Derived.Test.YtckdbkbecelgcaaDoorFrameWalk6
namespace Go.Proofs.YtckdbkbecelgcaaDoor
open Go.RowKit

theorem fcells_get (fs : List Fr.Frm) (i : Nat) (h : i < fs.length) : (fs.flatMap fcells).getD (i * 3 + 0) undef = .int .i64 fs[i].t ∧ (fs.flatMap fcells).getD (i * 3 + 1) undef = .int .i64 fs[i].j ∧ (fs.flatMap fcells).getD (i * 3 + 2) undef = .string fs[i].d := by
  induction fs generalizing i with
  | nil => cases h
  | cons f fs ih =>
    cases i with
    | zero => exact ⟨rfl, rfl, rfl⟩
    | succ i =>
      have := ih i (by simpa using h)
      have e : ∀ j, (i + 1) * 3 + j = (i * 3 + j) + 3 := fun j => by omega
      simp only [List.flatMap_cons, e, fcells, List.cons_append, List.nil_append, List.getD_cons_succ, List.getElem_cons_succ]
      exact this

end Go.Proofs.YtckdbkbecelgcaaDoor
