/- Walks of package crc: New, Of. -/
import Derived.Test.YtaefkkpdemilpaaCrcWalk2
namespace Go.Proofs.Ytaefkkpdemilpaa
open Go.RowKit
theorem built_sum : (Try.prog.built 52 (#[(0, Value.agg (tabCells 256)), (1, Value.int .u32 4294967295)] : Array (Nat × Value)).toList) = some (sumCells (BitVec.allOnes 32)) := by kernel_rfl

set_option maxRecDepth 100000 in
set_option maxHeartbeats 400000 in
theorem new_walk (w : World) :
    Calls Try.prog 13 #[] w fun e w' => ∃ b, e = .returned (.pointer (some ⟨b, 0, none⟩)) ∧ w.heap.size ≤ b ∧ SumAt w' b (BitVec.allOnes 32) ∧ Below w.heap.size w w' := by
  go_enter Try.func13, Try.ntmps13
  go_wp2_with fail
  refine (table_walk _).mono ?_
  rintro e w1 ⟨rfl, hb⟩
  have Hb := Lib.hid hb
  clear hb
  generalize hT : tabCells 256 = T
  go_wp2_with (refine wpList_build rfl 52 _ rfl (by subst hT; kernel_rfl) ?_)
  have hbt : (Try.prog.built 52 [(0, Value.agg T), (1, Value.int IntKind.u32 4294967295)]).getD #[] = sumCells (BitVec.allOnes 32) := by
    subst hT; exact congrArg (fun o => Option.getD o #[]) built_sum
  rw [hbt]
  generalize hS : sumCells (BitVec.allOnes 32) = S
  go_ret
  subst hS
  refine ⟨w1.heap.size, rfl, Hb.out.size, Has.new _ _ _, Hb.out.alloc Hb.out.size _⟩

set_option maxRecDepth 100000 in
set_option maxHeartbeats 400000 in
theorem of_walk (s : ByteArray) (w : World) (hs : s.size ≤ maxLen) :
    Calls Try.prog 11 #[.string s] w fun e w' => e = .returned (vW (Crc.sumOf s.data.toList)) ∧ Below w.heap.size w w' := by
  go_enter Try.func11, Try.ntmps11
  go_wp2_with fail
  refine (new_walk _).mono ?_
  rintro e w1 ⟨b, rfl, hb0, hs1, hb⟩
  go_wp2_with fail
  refine (text_walk b _ s _ hs hs1).mono ?_
  rintro e w2 ⟨rfl, hs2, hc2⟩
  have hb2 := below_of_chg hb hb.size hc2 (by simpa using hb0)
  clear hb hs1 hc2
  go_wp2_with fail
  refine (value_walk b _ _ hs2).mono ?_
  rintro e w3 ⟨rfl, rfl⟩
  go_wp2
  go_ret
  exact ⟨rfl, hb2⟩
end Go.Proofs.Ytaefkkpdemilpaa
