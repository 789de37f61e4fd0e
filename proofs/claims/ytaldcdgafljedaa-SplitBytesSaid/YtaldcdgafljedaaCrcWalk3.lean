/- Walks of package crc: New, Of. -/
import Derived.Test.YtaldcdgafljedaaCrcWalk2
namespace Go.Proofs.Ytaldcdgafljedaa
open Go.RowKit
theorem built_sum : (Try.prog.built 80 (#[(0, Value.agg (tabCells 256)), (1, Value.int .u32 4294967295)] : Array (Nat × Value)).toList) = some (sumCells (BitVec.allOnes 32)) := by kernel_rfl

set_option maxRecDepth 100000 in
set_option maxHeartbeats 400000 in
theorem new_walk (w : World) :
    Calls Try.prog 27 #[] w fun e w' => ∃ b, e = .returned (.pointer (some ⟨b, 0, none⟩)) ∧ w.heap.size ≤ b ∧ SumAt w' b (BitVec.allOnes 32) ∧ Below w.heap.size w w' := by
  go_enter Try.func27, Try.ntmps27
  go_wp2_with fail
  refine (table_walk _).mono ?_
  rintro e w1 ⟨rfl, hb⟩
  have Hb := Lib.hid hb
  clear hb
  generalize hT : tabCells 256 = T
  go_wp2_with (refine wpList_build rfl 80 _ rfl (by subst hT; kernel_rfl) ?_)
  have hbt : (Try.prog.built 80 [(0, Value.agg T), (1, Value.int IntKind.u32 4294967295)]).getD #[] = sumCells (BitVec.allOnes 32) := by
    subst hT; exact congrArg (fun o => Option.getD o #[]) built_sum
  rw [hbt]
  generalize hS : sumCells (BitVec.allOnes 32) = S
  go_ret
  subst hS
  refine ⟨w1.heap.size, rfl, Hb.out.size, Has.new _ _ _, Hb.out.alloc Hb.out.size _⟩

end Go.Proofs.Ytaldcdgafljedaa
