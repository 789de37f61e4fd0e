/- Requests: the reference's open. -/
import Derived.Test.YtajalllecoclcaaDoorPrWalk1
import Derived.Test.YtajalllecoclcaaDoorTokRef2
namespace Go.Proofs.YtajalllecoclcaaDoor
open Go.RowKit
set_option linter.unusedVariables false
set_option linter.unusedSimpArgs false
set_option maxRecDepth 100000 in
set_option maxHeartbeats 1600000 in
theorem open_walk (j : Int) (d : ByteArray) (w : World) : Calls Tryd.prog 51 #[.agg #[.int .i64 2, .int .i64 j, .string ⟨#[]⟩, .string ⟨#[]⟩, .int .i64 0, .int .i64 0, .int .i64 0], .string d] w fun e w' => e = .returned (askV (openV j d)) ∧ Below w.heap.size w w' := by
  rcases kcases d with rfl | rfl | ⟨q1, q2, ⟨q3, ho⟩ | ⟨h0, h1, q3, ⟨q4, ho⟩ | ⟨q4, ⟨q5, ho⟩ | ⟨q5, ⟨q6, ho⟩ | ⟨q6, q7, q8, ho⟩⟩⟩⟩⟩
  · have hv : openV j ⟨#[120]⟩ = some ⟨2, j, Pr.e0, Pr.e0, 2, 0, 0⟩ := by unfold openV; rw [kx, if_neg (by decide)]
    rw [hv]
    clear hv
    go_enter Tryd.func51, Tryd.ntmps51
    go_upto_region 1 with (fail)
    obtain ⟨hr, ho, hb⟩ := rn_two w #[.int .i64 2, .int .i64 j, .string ⟨#[]⟩, .string ⟨#[]⟩, .int .i64 0, .int .i64 0, .int .i64 0] #[.int .i64 0, .int .i64 0, .string ⟨#[]⟩, .string ⟨#[]⟩, .int .i64 0, .int .i64 0, .int .i64 0, .bool false] 76 78
    have HB := Lib.hid hb
    have r0 := hr.cell 0; have r1 := hr.cell 1; have r2 := hr.cell 2; have r3 := hr.cell 3; have r4 := hr.cell 4; have r5 := hr.cell 5; have r6 := hr.cell 6
    have o0 := ho.cell 0; have o1 := ho.cell 1; have o2 := ho.cell 2; have o3 := ho.cell 3; have o4 := ho.cell 4; have o5 := ho.cell 5; have o6 := ho.cell 6; have o7 := ho.cell 7
    have f4 := hr.free 4; have f5 := hr.free 5
    have g0 := ho.free 0; have g1 := ho.free 1; have g2 := ho.free 2; have g3 := ho.free 3; have g4 := ho.free 4; have g5 := ho.free 5; have g6 := ho.free 6; have g7 := ho.free 7
    simp only [List.getElem?_toArray, List.getElem?_cons_zero, List.getElem?_cons_succ] at r0 r1 r2 r3 r4 r5 r6 o0 o1 o2 o3 o4 o5 o6 o7
    clear hr ho hb
    generalize (w.alloc (.cells #[.int .i64 2, .int .i64 j, .string ⟨#[]⟩, .string ⟨#[]⟩, .int .i64 0, .int .i64 0, .int .i64 0] 76)).alloc (.cells #[.int .i64 0, .int .i64 0, .string ⟨#[]⟩, .string ⟨#[]⟩, .int .i64 0, .int .i64 0, .int .i64 0, .bool false] 78) = w2 at *
    go_wp2
    ((try simp only [Exit.inBlock, Exit.then]); refine bodyPost_ret (v := (.agg #[.int .i64 2, .int .i64 j, .string ⟨#[]⟩, .string ⟨#[]⟩, .int .i64 2, .int .i64 0, .int .i64 0, .bool true])) ?_ rfl ⟨?_, ?_⟩; (rw [results_cell1 rfl]; go_simp))
    · rfl
    · (repeat (first | (with_reducible exact HB.out) | refine Below.setCell ?_ (by first | exact Nat.le_refl _ | exact Nat.le_succ _) _))
  · have hv : openV j ⟨#[116]⟩ = some ⟨2, j, Pr.e0, Pr.e0, 3, 0, 0⟩ := by unfold openV; rw [kt, if_neg (by decide)]
    rw [hv]
    clear hv
    go_enter Tryd.func51, Tryd.ntmps51
    go_upto_region 1 with (fail)
    obtain ⟨hr, ho, hb⟩ := rn_two w #[.int .i64 2, .int .i64 j, .string ⟨#[]⟩, .string ⟨#[]⟩, .int .i64 0, .int .i64 0, .int .i64 0] #[.int .i64 0, .int .i64 0, .string ⟨#[]⟩, .string ⟨#[]⟩, .int .i64 0, .int .i64 0, .int .i64 0, .bool false] 76 78
    have HB := Lib.hid hb
    have r0 := hr.cell 0; have r1 := hr.cell 1; have r2 := hr.cell 2; have r3 := hr.cell 3; have r4 := hr.cell 4; have r5 := hr.cell 5; have r6 := hr.cell 6
    have o0 := ho.cell 0; have o1 := ho.cell 1; have o2 := ho.cell 2; have o3 := ho.cell 3; have o4 := ho.cell 4; have o5 := ho.cell 5; have o6 := ho.cell 6; have o7 := ho.cell 7
    have f4 := hr.free 4; have f5 := hr.free 5
    have g0 := ho.free 0; have g1 := ho.free 1; have g2 := ho.free 2; have g3 := ho.free 3; have g4 := ho.free 4; have g5 := ho.free 5; have g6 := ho.free 6; have g7 := ho.free 7
    simp only [List.getElem?_toArray, List.getElem?_cons_zero, List.getElem?_cons_succ] at r0 r1 r2 r3 r4 r5 r6 o0 o1 o2 o3 o4 o5 o6 o7
    clear hr ho hb
    generalize (w.alloc (.cells #[.int .i64 2, .int .i64 j, .string ⟨#[]⟩, .string ⟨#[]⟩, .int .i64 0, .int .i64 0, .int .i64 0] 76)).alloc (.cells #[.int .i64 0, .int .i64 0, .string ⟨#[]⟩, .string ⟨#[]⟩, .int .i64 0, .int .i64 0, .int .i64 0, .bool false] 78) = w2 at *
    go_wp2
    ((try simp only [Exit.inBlock, Exit.then]); refine bodyPost_ret (v := (.agg #[.int .i64 2, .int .i64 j, .string ⟨#[]⟩, .string ⟨#[]⟩, .int .i64 3, .int .i64 0, .int .i64 0, .bool true])) ?_ rfl ⟨?_, ?_⟩; (rw [results_cell1 rfl]; go_simp))
    · rfl
    · (repeat (first | (with_reducible exact HB.out) | refine Below.setCell ?_ (by first | exact Nat.le_refl _ | exact Nat.le_succ _) _))
  · have p3 : ((d.size : Int) != 2) = true := bne_of q3
    have hv : openV j d = none := by unfold openV; rw [ho, if_pos rfl]
    rw [hv]
    clear ho hv
    go_enter Tryd.func51, Tryd.ntmps51
    go_upto_region 1 with (fail)
    obtain ⟨hr, ho, hb⟩ := rn_two w #[.int .i64 2, .int .i64 j, .string ⟨#[]⟩, .string ⟨#[]⟩, .int .i64 0, .int .i64 0, .int .i64 0] #[.int .i64 0, .int .i64 0, .string ⟨#[]⟩, .string ⟨#[]⟩, .int .i64 0, .int .i64 0, .int .i64 0, .bool false] 76 78
    have HB := Lib.hid hb
    have r0 := hr.cell 0; have r1 := hr.cell 1; have r2 := hr.cell 2; have r3 := hr.cell 3; have r4 := hr.cell 4; have r5 := hr.cell 5; have r6 := hr.cell 6
    have o0 := ho.cell 0; have o1 := ho.cell 1; have o2 := ho.cell 2; have o3 := ho.cell 3; have o4 := ho.cell 4; have o5 := ho.cell 5; have o6 := ho.cell 6; have o7 := ho.cell 7
    have f4 := hr.free 4; have f5 := hr.free 5
    have g0 := ho.free 0; have g1 := ho.free 1; have g2 := ho.free 2; have g3 := ho.free 3; have g4 := ho.free 4; have g5 := ho.free 5; have g6 := ho.free 6; have g7 := ho.free 7
    simp only [List.getElem?_toArray, List.getElem?_cons_zero, List.getElem?_cons_succ] at r0 r1 r2 r3 r4 r5 r6 o0 o1 o2 o3 o4 o5 o6 o7
    clear hr ho hb
    generalize (w.alloc (.cells #[.int .i64 2, .int .i64 j, .string ⟨#[]⟩, .string ⟨#[]⟩, .int .i64 0, .int .i64 0, .int .i64 0] 76)).alloc (.cells #[.int .i64 0, .int .i64 0, .string ⟨#[]⟩, .string ⟨#[]⟩, .int .i64 0, .int .i64 0, .int .i64 0, .bool false] 78) = w2 at *
    go_wp2
    ((try simp only [Exit.inBlock, Exit.then]); refine bodyPost_ret (v := (.agg #[.int .i64 0, .int .i64 0, .string ⟨#[]⟩, .string ⟨#[]⟩, .int .i64 0, .int .i64 0, .int .i64 0, .bool false])) ?_ rfl ⟨?_, ?_⟩; (rw [results_cell1 rfl]; go_simp))
    · rfl
    · (repeat (first | (with_reducible exact HB.out) | refine Below.setCell ?_ (by first | exact Nat.le_refl _ | exact Nat.le_succ _) _))
  · have h0' : (0 : Int) < (d.size : Int) := by omega
    have h1' : (1 : Int) < (d.size : Int) := by omega
    have p3 : ((d.size : Int) != 2) = false := bne_of q3
    have p4 : ((d[0].toNat : Int) != 99) = true := bne_of q4
    have hv : openV j d = none := by unfold openV; rw [ho, if_pos rfl]
    rw [hv]
    clear ho hv
    go_enter Tryd.func51, Tryd.ntmps51
    go_upto_region 1 with (fail)
    obtain ⟨hr, ho, hb⟩ := rn_two w #[.int .i64 2, .int .i64 j, .string ⟨#[]⟩, .string ⟨#[]⟩, .int .i64 0, .int .i64 0, .int .i64 0] #[.int .i64 0, .int .i64 0, .string ⟨#[]⟩, .string ⟨#[]⟩, .int .i64 0, .int .i64 0, .int .i64 0, .bool false] 76 78
    have HB := Lib.hid hb
    have r0 := hr.cell 0; have r1 := hr.cell 1; have r2 := hr.cell 2; have r3 := hr.cell 3; have r4 := hr.cell 4; have r5 := hr.cell 5; have r6 := hr.cell 6
    have o0 := ho.cell 0; have o1 := ho.cell 1; have o2 := ho.cell 2; have o3 := ho.cell 3; have o4 := ho.cell 4; have o5 := ho.cell 5; have o6 := ho.cell 6; have o7 := ho.cell 7
    have f4 := hr.free 4; have f5 := hr.free 5
    have g0 := ho.free 0; have g1 := ho.free 1; have g2 := ho.free 2; have g3 := ho.free 3; have g4 := ho.free 4; have g5 := ho.free 5; have g6 := ho.free 6; have g7 := ho.free 7
    simp only [List.getElem?_toArray, List.getElem?_cons_zero, List.getElem?_cons_succ] at r0 r1 r2 r3 r4 r5 r6 o0 o1 o2 o3 o4 o5 o6 o7
    clear hr ho hb
    generalize (w.alloc (.cells #[.int .i64 2, .int .i64 j, .string ⟨#[]⟩, .string ⟨#[]⟩, .int .i64 0, .int .i64 0, .int .i64 0] 76)).alloc (.cells #[.int .i64 0, .int .i64 0, .string ⟨#[]⟩, .string ⟨#[]⟩, .int .i64 0, .int .i64 0, .int .i64 0, .bool false] 78) = w2 at *
    go_wp2
    ((try simp only [Exit.inBlock, Exit.then]); refine bodyPost_ret (v := (.agg #[.int .i64 0, .int .i64 0, .string ⟨#[]⟩, .string ⟨#[]⟩, .int .i64 0, .int .i64 0, .int .i64 0, .bool false])) ?_ rfl ⟨?_, ?_⟩; (rw [results_cell1 rfl]; go_simp))
    · rfl
    · (repeat (first | (with_reducible exact HB.out) | refine Below.setCell ?_ (by first | exact Nat.le_refl _ | exact Nat.le_succ _) _))
  · have h0' : (0 : Int) < (d.size : Int) := by omega
    have h1' : (1 : Int) < (d.size : Int) := by omega
    have p3 : ((d.size : Int) != 2) = false := bne_of q3
    have p4 : ((d[0].toNat : Int) != 99) = false := bne_of q4
    have p5 : decide ((d[1].toNat : Int) < 49) = true := lt_of_le q5
    have hv : openV j d = none := by unfold openV; rw [ho, if_pos rfl]
    rw [hv]
    clear ho hv
    go_enter Tryd.func51, Tryd.ntmps51
    go_upto_region 1 with (fail)
    obtain ⟨hr, ho, hb⟩ := rn_two w #[.int .i64 2, .int .i64 j, .string ⟨#[]⟩, .string ⟨#[]⟩, .int .i64 0, .int .i64 0, .int .i64 0] #[.int .i64 0, .int .i64 0, .string ⟨#[]⟩, .string ⟨#[]⟩, .int .i64 0, .int .i64 0, .int .i64 0, .bool false] 76 78
    have HB := Lib.hid hb
    have r0 := hr.cell 0; have r1 := hr.cell 1; have r2 := hr.cell 2; have r3 := hr.cell 3; have r4 := hr.cell 4; have r5 := hr.cell 5; have r6 := hr.cell 6
    have o0 := ho.cell 0; have o1 := ho.cell 1; have o2 := ho.cell 2; have o3 := ho.cell 3; have o4 := ho.cell 4; have o5 := ho.cell 5; have o6 := ho.cell 6; have o7 := ho.cell 7
    have f4 := hr.free 4; have f5 := hr.free 5
    have g0 := ho.free 0; have g1 := ho.free 1; have g2 := ho.free 2; have g3 := ho.free 3; have g4 := ho.free 4; have g5 := ho.free 5; have g6 := ho.free 6; have g7 := ho.free 7
    simp only [List.getElem?_toArray, List.getElem?_cons_zero, List.getElem?_cons_succ] at r0 r1 r2 r3 r4 r5 r6 o0 o1 o2 o3 o4 o5 o6 o7
    clear hr ho hb
    generalize (w.alloc (.cells #[.int .i64 2, .int .i64 j, .string ⟨#[]⟩, .string ⟨#[]⟩, .int .i64 0, .int .i64 0, .int .i64 0] 76)).alloc (.cells #[.int .i64 0, .int .i64 0, .string ⟨#[]⟩, .string ⟨#[]⟩, .int .i64 0, .int .i64 0, .int .i64 0, .bool false] 78) = w2 at *
    go_wp2
    ((try simp only [Exit.inBlock, Exit.then]); refine bodyPost_ret (v := (.agg #[.int .i64 0, .int .i64 0, .string ⟨#[]⟩, .string ⟨#[]⟩, .int .i64 0, .int .i64 0, .int .i64 0, .bool false])) ?_ rfl ⟨?_, ?_⟩; (rw [results_cell1 rfl]; go_simp))
    · rfl
    · (repeat (first | (with_reducible exact HB.out) | refine Below.setCell ?_ (by first | exact Nat.le_refl _ | exact Nat.le_succ _) _))
  · have h0' : (0 : Int) < (d.size : Int) := by omega
    have h1' : (1 : Int) < (d.size : Int) := by omega
    have p3 : ((d.size : Int) != 2) = false := bne_of q3
    have p4 : ((d[0].toNat : Int) != 99) = false := bne_of q4
    have p5 : decide ((d[1].toNat : Int) < 49) = false := lt_of_le q5
    have p6 : decide ((57 : Int) < (d[1].toNat : Int)) = true := gt_of_le q6
    have hv : openV j d = none := by unfold openV; rw [ho, if_pos rfl]
    rw [hv]
    clear ho hv
    go_enter Tryd.func51, Tryd.ntmps51
    go_upto_region 1 with (fail)
    obtain ⟨hr, ho, hb⟩ := rn_two w #[.int .i64 2, .int .i64 j, .string ⟨#[]⟩, .string ⟨#[]⟩, .int .i64 0, .int .i64 0, .int .i64 0] #[.int .i64 0, .int .i64 0, .string ⟨#[]⟩, .string ⟨#[]⟩, .int .i64 0, .int .i64 0, .int .i64 0, .bool false] 76 78
    have HB := Lib.hid hb
    have r0 := hr.cell 0; have r1 := hr.cell 1; have r2 := hr.cell 2; have r3 := hr.cell 3; have r4 := hr.cell 4; have r5 := hr.cell 5; have r6 := hr.cell 6
    have o0 := ho.cell 0; have o1 := ho.cell 1; have o2 := ho.cell 2; have o3 := ho.cell 3; have o4 := ho.cell 4; have o5 := ho.cell 5; have o6 := ho.cell 6; have o7 := ho.cell 7
    have f4 := hr.free 4; have f5 := hr.free 5
    have g0 := ho.free 0; have g1 := ho.free 1; have g2 := ho.free 2; have g3 := ho.free 3; have g4 := ho.free 4; have g5 := ho.free 5; have g6 := ho.free 6; have g7 := ho.free 7
    simp only [List.getElem?_toArray, List.getElem?_cons_zero, List.getElem?_cons_succ] at r0 r1 r2 r3 r4 r5 r6 o0 o1 o2 o3 o4 o5 o6 o7
    clear hr ho hb
    generalize (w.alloc (.cells #[.int .i64 2, .int .i64 j, .string ⟨#[]⟩, .string ⟨#[]⟩, .int .i64 0, .int .i64 0, .int .i64 0] 76)).alloc (.cells #[.int .i64 0, .int .i64 0, .string ⟨#[]⟩, .string ⟨#[]⟩, .int .i64 0, .int .i64 0, .int .i64 0, .bool false] 78) = w2 at *
    go_wp2
    ((try simp only [Exit.inBlock, Exit.then]); refine bodyPost_ret (v := (.agg #[.int .i64 0, .int .i64 0, .string ⟨#[]⟩, .string ⟨#[]⟩, .int .i64 0, .int .i64 0, .int .i64 0, .bool false])) ?_ rfl ⟨?_, ?_⟩; (rw [results_cell1 rfl]; go_simp))
    · rfl
    · (repeat (first | (with_reducible exact HB.out) | refine Below.setCell ?_ (by first | exact Nat.le_refl _ | exact Nat.le_succ _) _))
  · have h0' : (0 : Int) < (d.size : Int) := by omega
    have h1' : (1 : Int) < (d.size : Int) := by omega
    have p3 : ((d.size : Int) != 2) = false := bne_of q3
    have p4 : ((d[0].toNat : Int) != 99) = false := bne_of q4
    have p5 : decide ((d[1].toNat : Int) < 49) = false := lt_of_le q5
    have p6 : decide ((57 : Int) < (d[1].toNat : Int)) = false := gt_of_le q6
    have hv : openV j d = some ⟨2, j, Pr.e0, Pr.e0, 1, (d[1].toNat : Int) - 48, 0⟩ := by unfold openV; rw [ho, if_neg (by show ¬ (1 : Int) = 0; decide)]
    rw [hv]
    clear ho hv
    go_enter Tryd.func51, Tryd.ntmps51
    go_upto_region 1 with (fail)
    obtain ⟨hr, ho, hb⟩ := rn_two w #[.int .i64 2, .int .i64 j, .string ⟨#[]⟩, .string ⟨#[]⟩, .int .i64 0, .int .i64 0, .int .i64 0] #[.int .i64 0, .int .i64 0, .string ⟨#[]⟩, .string ⟨#[]⟩, .int .i64 0, .int .i64 0, .int .i64 0, .bool false] 76 78
    have HB := Lib.hid hb
    have r0 := hr.cell 0; have r1 := hr.cell 1; have r2 := hr.cell 2; have r3 := hr.cell 3; have r4 := hr.cell 4; have r5 := hr.cell 5; have r6 := hr.cell 6
    have o0 := ho.cell 0; have o1 := ho.cell 1; have o2 := ho.cell 2; have o3 := ho.cell 3; have o4 := ho.cell 4; have o5 := ho.cell 5; have o6 := ho.cell 6; have o7 := ho.cell 7
    have f4 := hr.free 4; have f5 := hr.free 5
    have g0 := ho.free 0; have g1 := ho.free 1; have g2 := ho.free 2; have g3 := ho.free 3; have g4 := ho.free 4; have g5 := ho.free 5; have g6 := ho.free 6; have g7 := ho.free 7
    simp only [List.getElem?_toArray, List.getElem?_cons_zero, List.getElem?_cons_succ] at r0 r1 r2 r3 r4 r5 r6 o0 o1 o2 o3 o4 o5 o6 o7
    clear hr ho hb
    generalize (w.alloc (.cells #[.int .i64 2, .int .i64 j, .string ⟨#[]⟩, .string ⟨#[]⟩, .int .i64 0, .int .i64 0, .int .i64 0] 76)).alloc (.cells #[.int .i64 0, .int .i64 0, .string ⟨#[]⟩, .string ⟨#[]⟩, .int .i64 0, .int .i64 0, .int .i64 0, .bool false] 78) = w2 at *
    go_wp2
    ((try simp only [Exit.inBlock, Exit.then]); refine bodyPost_ret (v := (.agg #[.int .i64 2, .int .i64 j, .string ⟨#[]⟩, .string ⟨#[]⟩, .int .i64 1, .int .i64 ((d[1].toNat : Int) - 48), .int .i64 0, .bool true])) ?_ rfl ⟨?_, ?_⟩; (rw [results_cell1 rfl]; go_simp))
    · rfl
    · (repeat (first | (with_reducible exact HB.out) | refine Below.setCell ?_ (by first | exact Nat.le_refl _ | exact Nat.le_succ _) _))
end Go.Proofs.YtajalllecoclcaaDoor
