/- Requests: the reference's Read. (Printed by gen_proread.py --ref.) -/
import Derived.Test.YtajalllecoclcaaDoorPrRead
namespace Go.Proofs.YtajalllecoclcaaDoor
open Go.RowKit
set_option linter.unusedVariables false
set_option linter.unusedSimpArgs false

set_option maxRecDepth 100000 in
set_option maxHeartbeats 1600000 in
theorem rread1 (j : Int) (d : ByteArray) (w : World) : Calls Tryd.prog 33 #[.agg #[.int .i64 1, .int .i64 j, .string d]] w fun e w' => e = .returned (askV (Pr.rd ⟨1, j, d⟩)) ∧ Below w.heap.size w w' := by
  cases hW : Pr.whole ⟨1, j, d⟩ with
  | false =>
    have hh : Pr.rd ⟨1, j, d⟩ = none := by rw [rd_w _ hW]
    rw [hh]
    have HW := Lib.hid (rwhole_walk 1 j d)
    rw [hW] at HW
    clear hW hh
    go_enter Tryd.func33, Tryd.ntmps33
    go_upto_region 2 with (fail)
    have H2 := Lib.hid (T3.new w #[.int .i64 1, .int .i64 j, .string d] #[.int .i64 0, .int .i64 0, .string ⟨#[]⟩, .string ⟨#[]⟩, .int .i64 0, .int .i64 0, .int .i64 0, .bool false] #[.int .i64 1, .int .i64 j, .string ⟨#[]⟩, .string ⟨#[]⟩, .int .i64 0, .int .i64 0, .int .i64 0] 42 78 76)
    have p0 := H2.out.hp.cell 0; have p1 := H2.out.hp.cell 1; have p2 := H2.out.hp.cell 2
    simp only [List.getElem?_toArray, List.getElem?_cons_zero, List.getElem?_cons_succ] at p0 p1 p2
    generalize ((w.alloc (.cells #[.int .i64 1, .int .i64 j, .string d] 42)).alloc (.cells #[.int .i64 0, .int .i64 0, .string ⟨#[]⟩, .string ⟨#[]⟩, .int .i64 0, .int .i64 0, .int .i64 0, .bool false] 78)).alloc (.cells #[.int .i64 1, .int .i64 j, .string ⟨#[]⟩, .string ⟨#[]⟩, .int .i64 0, .int .i64 0, .int .i64 0] 76) = w2 at *
    go_wp2_with fail
    (with_reducible refine (HW.out _).mono ?_)
    rintro e w3 ⟨rfl, hb⟩
    have HH := Lib.hid (H2.out.keep hb)
    clear p0 p1 p2 hb H2 HW
    have HBX := Lib.hid HH.out.hb
    have p0 := HH.out.hp.cell 0; have p1 := HH.out.hp.cell 1; have p2 := HH.out.hp.cell 2
    simp only [List.getElem?_toArray, List.getElem?_cons_zero, List.getElem?_cons_succ, List.setIfInBounds_toArray, List.set_cons_zero, List.set_cons_succ] at p0 p1 p2
    have a0 := HH.out.ha.cell 0; have a1 := HH.out.ha.cell 1; have a2 := HH.out.ha.cell 2; have a3 := HH.out.ha.cell 3; have a4 := HH.out.ha.cell 4; have a5 := HH.out.ha.cell 5; have a6 := HH.out.ha.cell 6
    have g2 := HH.out.ha.free 2; have g3 := HH.out.ha.free 3; have g4 := HH.out.ha.free 4; have g5 := HH.out.ha.free 5; have g6 := HH.out.ha.free 6
    simp only [List.getElem?_toArray, List.getElem?_cons_zero, List.getElem?_cons_succ, List.setIfInBounds_toArray, List.set_cons_zero, List.set_cons_succ] at a0 a1 a2 a3 a4 a5 a6
    have r0 := HH.out.hr.cell 0; have r1 := HH.out.hr.cell 1; have r2 := HH.out.hr.cell 2; have r3 := HH.out.hr.cell 3; have r4 := HH.out.hr.cell 4; have r5 := HH.out.hr.cell 5; have r6 := HH.out.hr.cell 6; have r7 := HH.out.hr.cell 7
    have f0 := HH.out.hr.free 0; have f1 := HH.out.hr.free 1; have f2 := HH.out.hr.free 2; have f3 := HH.out.hr.free 3; have f4 := HH.out.hr.free 4; have f5 := HH.out.hr.free 5; have f6 := HH.out.hr.free 6; have f7 := HH.out.hr.free 7
    simp only [List.getElem?_toArray, List.getElem?_cons_zero, List.getElem?_cons_succ, List.setIfInBounds_toArray, List.set_cons_zero, List.set_cons_succ] at r0 r1 r2 r3 r4 r5 r6 r7
    clear HH
    go_wp2
    ((try simp only [Exit.inBlock, Exit.then]); refine bodyPost_ret (v := (.agg #[.int .i64 0, .int .i64 0, .string ⟨#[]⟩, .string ⟨#[]⟩, .int .i64 0, .int .i64 0, .int .i64 0, .bool false])) ?_ rfl ⟨?_, ?_⟩; (rw [results_cell1 rfl]; go_simp))
    · rfl
    · repeat (first | (with_reducible exact HBX.out) | refine below_set ?_ _ _ (by omega) _)
  | true =>
    have hsz := whole_size hW
    by_cases hj : j = 0
    · cases hword : wordB d.data.toList with
      | true =>
        have ej : (j == 0) = true := by rw [hj]; rfl
        have ej' : (j != 0) = false := by rw [hj]; rfl
        have HIS := Lib.hid (fun w => word_walk d w (by omega))
        rw [hword] at HIS
        have hh : Pr.rd ⟨1, j, d⟩ = some ⟨1, j, d, Pr.e0, 0, 0, 0⟩ := by rw [rd_1 j d hW, if_pos ⟨hj, hword⟩]
        rw [hh]
        clear hj hword hsz
        have HW := Lib.hid (rwhole_walk 1 j d)
        rw [hW] at HW
        clear hW hh
        go_enter Tryd.func33, Tryd.ntmps33
        go_upto_region 2 with (fail)
        have H2 := Lib.hid (T3.new w #[.int .i64 1, .int .i64 j, .string d] #[.int .i64 0, .int .i64 0, .string ⟨#[]⟩, .string ⟨#[]⟩, .int .i64 0, .int .i64 0, .int .i64 0, .bool false] #[.int .i64 1, .int .i64 j, .string ⟨#[]⟩, .string ⟨#[]⟩, .int .i64 0, .int .i64 0, .int .i64 0] 42 78 76)
        have p0 := H2.out.hp.cell 0; have p1 := H2.out.hp.cell 1; have p2 := H2.out.hp.cell 2
        simp only [List.getElem?_toArray, List.getElem?_cons_zero, List.getElem?_cons_succ] at p0 p1 p2
        generalize ((w.alloc (.cells #[.int .i64 1, .int .i64 j, .string d] 42)).alloc (.cells #[.int .i64 0, .int .i64 0, .string ⟨#[]⟩, .string ⟨#[]⟩, .int .i64 0, .int .i64 0, .int .i64 0, .bool false] 78)).alloc (.cells #[.int .i64 1, .int .i64 j, .string ⟨#[]⟩, .string ⟨#[]⟩, .int .i64 0, .int .i64 0, .int .i64 0] 76) = w2 at *
        go_wp2_with fail
        (with_reducible refine (HW.out _).mono ?_)
        rintro e w3 ⟨rfl, hb⟩
        have HH := Lib.hid (H2.out.keep hb)
        clear p0 p1 p2 hb H2 HW
        have p0 := HH.out.hp.cell 0; have p1 := HH.out.hp.cell 1; have p2 := HH.out.hp.cell 2
        simp only [List.getElem?_toArray, List.getElem?_cons_zero, List.getElem?_cons_succ, List.setIfInBounds_toArray, List.set_cons_zero, List.set_cons_succ] at p0 p1 p2
        go_wp2_with fail
        (with_reducible refine (HIS.out _).mono ?_)
        rintro e w4 ⟨rfl, hb⟩
        have HH4 := Lib.hid (HH.out.keep hb)
        clear p0 p1 p2 hb HH HIS
        have HH := HH4
        clear HH4
        have HBX := Lib.hid HH.out.hb
        have p0 := HH.out.hp.cell 0; have p1 := HH.out.hp.cell 1; have p2 := HH.out.hp.cell 2
        simp only [List.getElem?_toArray, List.getElem?_cons_zero, List.getElem?_cons_succ, List.setIfInBounds_toArray, List.set_cons_zero, List.set_cons_succ] at p0 p1 p2
        have a0 := HH.out.ha.cell 0; have a1 := HH.out.ha.cell 1; have a2 := HH.out.ha.cell 2; have a3 := HH.out.ha.cell 3; have a4 := HH.out.ha.cell 4; have a5 := HH.out.ha.cell 5; have a6 := HH.out.ha.cell 6
        have g2 := HH.out.ha.free 2; have g3 := HH.out.ha.free 3; have g4 := HH.out.ha.free 4; have g5 := HH.out.ha.free 5; have g6 := HH.out.ha.free 6
        simp only [List.getElem?_toArray, List.getElem?_cons_zero, List.getElem?_cons_succ, List.setIfInBounds_toArray, List.set_cons_zero, List.set_cons_succ] at a0 a1 a2 a3 a4 a5 a6
        have r0 := HH.out.hr.cell 0; have r1 := HH.out.hr.cell 1; have r2 := HH.out.hr.cell 2; have r3 := HH.out.hr.cell 3; have r4 := HH.out.hr.cell 4; have r5 := HH.out.hr.cell 5; have r6 := HH.out.hr.cell 6; have r7 := HH.out.hr.cell 7
        have f0 := HH.out.hr.free 0; have f1 := HH.out.hr.free 1; have f2 := HH.out.hr.free 2; have f3 := HH.out.hr.free 3; have f4 := HH.out.hr.free 4; have f5 := HH.out.hr.free 5; have f6 := HH.out.hr.free 6; have f7 := HH.out.hr.free 7
        simp only [List.getElem?_toArray, List.getElem?_cons_zero, List.getElem?_cons_succ, List.setIfInBounds_toArray, List.set_cons_zero, List.set_cons_succ] at r0 r1 r2 r3 r4 r5 r6 r7
        clear HH
        go_wp2
        ((try simp only [Exit.inBlock, Exit.then]); refine bodyPost_ret (v := (.agg #[.int .i64 1, .int .i64 j, .string d, .string ⟨#[]⟩, .int .i64 0, .int .i64 0, .int .i64 0, .bool true])) ?_ rfl ⟨?_, ?_⟩; (rw [results_cell1 rfl]; go_simp))
        · rfl
        · repeat (first | (with_reducible exact HBX.out) | refine below_set ?_ _ _ (by omega) _)
      | false =>
        have ej : (j == 0) = true := by rw [hj]; rfl
        have ej' : (j != 0) = false := by rw [hj]; rfl
        have HIS := Lib.hid (fun w => word_walk d w (by omega))
        rw [hword] at HIS
        have hh : Pr.rd ⟨1, j, d⟩ = none := by rw [rd_1 j d hW, if_neg (fun x => by rw [hword] at x; cases x.2)]
        rw [hh]
        clear hj hword hsz
        have HW := Lib.hid (rwhole_walk 1 j d)
        rw [hW] at HW
        clear hW hh
        go_enter Tryd.func33, Tryd.ntmps33
        go_upto_region 2 with (fail)
        have H2 := Lib.hid (T3.new w #[.int .i64 1, .int .i64 j, .string d] #[.int .i64 0, .int .i64 0, .string ⟨#[]⟩, .string ⟨#[]⟩, .int .i64 0, .int .i64 0, .int .i64 0, .bool false] #[.int .i64 1, .int .i64 j, .string ⟨#[]⟩, .string ⟨#[]⟩, .int .i64 0, .int .i64 0, .int .i64 0] 42 78 76)
        have p0 := H2.out.hp.cell 0; have p1 := H2.out.hp.cell 1; have p2 := H2.out.hp.cell 2
        simp only [List.getElem?_toArray, List.getElem?_cons_zero, List.getElem?_cons_succ] at p0 p1 p2
        generalize ((w.alloc (.cells #[.int .i64 1, .int .i64 j, .string d] 42)).alloc (.cells #[.int .i64 0, .int .i64 0, .string ⟨#[]⟩, .string ⟨#[]⟩, .int .i64 0, .int .i64 0, .int .i64 0, .bool false] 78)).alloc (.cells #[.int .i64 1, .int .i64 j, .string ⟨#[]⟩, .string ⟨#[]⟩, .int .i64 0, .int .i64 0, .int .i64 0] 76) = w2 at *
        go_wp2_with fail
        (with_reducible refine (HW.out _).mono ?_)
        rintro e w3 ⟨rfl, hb⟩
        have HH := Lib.hid (H2.out.keep hb)
        clear p0 p1 p2 hb H2 HW
        have p0 := HH.out.hp.cell 0; have p1 := HH.out.hp.cell 1; have p2 := HH.out.hp.cell 2
        simp only [List.getElem?_toArray, List.getElem?_cons_zero, List.getElem?_cons_succ, List.setIfInBounds_toArray, List.set_cons_zero, List.set_cons_succ] at p0 p1 p2
        go_wp2_with fail
        (with_reducible refine (HIS.out _).mono ?_)
        rintro e w4 ⟨rfl, hb⟩
        have HH4 := Lib.hid (HH.out.keep hb)
        clear p0 p1 p2 hb HH HIS
        have HH := HH4
        clear HH4
        have HBX := Lib.hid HH.out.hb
        have p0 := HH.out.hp.cell 0; have p1 := HH.out.hp.cell 1; have p2 := HH.out.hp.cell 2
        simp only [List.getElem?_toArray, List.getElem?_cons_zero, List.getElem?_cons_succ, List.setIfInBounds_toArray, List.set_cons_zero, List.set_cons_succ] at p0 p1 p2
        have a0 := HH.out.ha.cell 0; have a1 := HH.out.ha.cell 1; have a2 := HH.out.ha.cell 2; have a3 := HH.out.ha.cell 3; have a4 := HH.out.ha.cell 4; have a5 := HH.out.ha.cell 5; have a6 := HH.out.ha.cell 6
        have g2 := HH.out.ha.free 2; have g3 := HH.out.ha.free 3; have g4 := HH.out.ha.free 4; have g5 := HH.out.ha.free 5; have g6 := HH.out.ha.free 6
        simp only [List.getElem?_toArray, List.getElem?_cons_zero, List.getElem?_cons_succ, List.setIfInBounds_toArray, List.set_cons_zero, List.set_cons_succ] at a0 a1 a2 a3 a4 a5 a6
        have r0 := HH.out.hr.cell 0; have r1 := HH.out.hr.cell 1; have r2 := HH.out.hr.cell 2; have r3 := HH.out.hr.cell 3; have r4 := HH.out.hr.cell 4; have r5 := HH.out.hr.cell 5; have r6 := HH.out.hr.cell 6; have r7 := HH.out.hr.cell 7
        have f0 := HH.out.hr.free 0; have f1 := HH.out.hr.free 1; have f2 := HH.out.hr.free 2; have f3 := HH.out.hr.free 3; have f4 := HH.out.hr.free 4; have f5 := HH.out.hr.free 5; have f6 := HH.out.hr.free 6; have f7 := HH.out.hr.free 7
        simp only [List.getElem?_toArray, List.getElem?_cons_zero, List.getElem?_cons_succ, List.setIfInBounds_toArray, List.set_cons_zero, List.set_cons_succ] at r0 r1 r2 r3 r4 r5 r6 r7
        clear HH
        go_wp2
        ((try simp only [Exit.inBlock, Exit.then]); refine bodyPost_ret (v := (.agg #[.int .i64 0, .int .i64 0, .string ⟨#[]⟩, .string ⟨#[]⟩, .int .i64 0, .int .i64 0, .int .i64 0, .bool false])) ?_ rfl ⟨?_, ?_⟩; (rw [results_cell1 rfl]; go_simp))
        · rfl
        · repeat (first | (with_reducible exact HBX.out) | refine below_set ?_ _ _ (by omega) _)
    · skip
      have ej : (j == 0) = false := by simpa using hj
      have ej' : (j != 0) = true := by simpa using hj
      have hh : Pr.rd ⟨1, j, d⟩ = none := by rw [rd_1 j d hW, if_neg (fun x => hj x.1)]
      rw [hh]
      clear hj hsz
      have HW := Lib.hid (rwhole_walk 1 j d)
      rw [hW] at HW
      clear hW hh
      go_enter Tryd.func33, Tryd.ntmps33
      go_upto_region 2 with (fail)
      have H2 := Lib.hid (T3.new w #[.int .i64 1, .int .i64 j, .string d] #[.int .i64 0, .int .i64 0, .string ⟨#[]⟩, .string ⟨#[]⟩, .int .i64 0, .int .i64 0, .int .i64 0, .bool false] #[.int .i64 1, .int .i64 j, .string ⟨#[]⟩, .string ⟨#[]⟩, .int .i64 0, .int .i64 0, .int .i64 0] 42 78 76)
      have p0 := H2.out.hp.cell 0; have p1 := H2.out.hp.cell 1; have p2 := H2.out.hp.cell 2
      simp only [List.getElem?_toArray, List.getElem?_cons_zero, List.getElem?_cons_succ] at p0 p1 p2
      generalize ((w.alloc (.cells #[.int .i64 1, .int .i64 j, .string d] 42)).alloc (.cells #[.int .i64 0, .int .i64 0, .string ⟨#[]⟩, .string ⟨#[]⟩, .int .i64 0, .int .i64 0, .int .i64 0, .bool false] 78)).alloc (.cells #[.int .i64 1, .int .i64 j, .string ⟨#[]⟩, .string ⟨#[]⟩, .int .i64 0, .int .i64 0, .int .i64 0] 76) = w2 at *
      go_wp2_with fail
      (with_reducible refine (HW.out _).mono ?_)
      rintro e w3 ⟨rfl, hb⟩
      have HH := Lib.hid (H2.out.keep hb)
      clear p0 p1 p2 hb H2 HW
      have HBX := Lib.hid HH.out.hb
      have p0 := HH.out.hp.cell 0; have p1 := HH.out.hp.cell 1; have p2 := HH.out.hp.cell 2
      simp only [List.getElem?_toArray, List.getElem?_cons_zero, List.getElem?_cons_succ, List.setIfInBounds_toArray, List.set_cons_zero, List.set_cons_succ] at p0 p1 p2
      have a0 := HH.out.ha.cell 0; have a1 := HH.out.ha.cell 1; have a2 := HH.out.ha.cell 2; have a3 := HH.out.ha.cell 3; have a4 := HH.out.ha.cell 4; have a5 := HH.out.ha.cell 5; have a6 := HH.out.ha.cell 6
      have g2 := HH.out.ha.free 2; have g3 := HH.out.ha.free 3; have g4 := HH.out.ha.free 4; have g5 := HH.out.ha.free 5; have g6 := HH.out.ha.free 6
      simp only [List.getElem?_toArray, List.getElem?_cons_zero, List.getElem?_cons_succ, List.setIfInBounds_toArray, List.set_cons_zero, List.set_cons_succ] at a0 a1 a2 a3 a4 a5 a6
      have r0 := HH.out.hr.cell 0; have r1 := HH.out.hr.cell 1; have r2 := HH.out.hr.cell 2; have r3 := HH.out.hr.cell 3; have r4 := HH.out.hr.cell 4; have r5 := HH.out.hr.cell 5; have r6 := HH.out.hr.cell 6; have r7 := HH.out.hr.cell 7
      have f0 := HH.out.hr.free 0; have f1 := HH.out.hr.free 1; have f2 := HH.out.hr.free 2; have f3 := HH.out.hr.free 3; have f4 := HH.out.hr.free 4; have f5 := HH.out.hr.free 5; have f6 := HH.out.hr.free 6; have f7 := HH.out.hr.free 7
      simp only [List.getElem?_toArray, List.getElem?_cons_zero, List.getElem?_cons_succ, List.setIfInBounds_toArray, List.set_cons_zero, List.set_cons_succ] at r0 r1 r2 r3 r4 r5 r6 r7
      clear HH
      go_wp2
      ((try simp only [Exit.inBlock, Exit.then]); refine bodyPost_ret (v := (.agg #[.int .i64 0, .int .i64 0, .string ⟨#[]⟩, .string ⟨#[]⟩, .int .i64 0, .int .i64 0, .int .i64 0, .bool false])) ?_ rfl ⟨?_, ?_⟩; (rw [results_cell1 rfl]; go_simp))
      · rfl
      · repeat (first | (with_reducible exact HBX.out) | refine below_set ?_ _ _ (by omega) _)
set_option maxRecDepth 100000 in
set_option maxHeartbeats 1600000 in
theorem rread2 (j : Int) (d : ByteArray) (w : World) : Calls Tryd.prog 33 #[.agg #[.int .i64 2, .int .i64 j, .string d]] w fun e w' => e = .returned (askV (Pr.rd ⟨2, j, d⟩)) ∧ Below w.heap.size w w' := by
  cases hW : Pr.whole ⟨2, j, d⟩ with
  | false =>
    have hh : Pr.rd ⟨2, j, d⟩ = none := by rw [rd_w _ hW]
    rw [hh]
    have HW := Lib.hid (rwhole_walk 2 j d)
    rw [hW] at HW
    clear hW hh
    go_enter Tryd.func33, Tryd.ntmps33
    go_upto_region 2 with (fail)
    have H2 := Lib.hid (T3.new w #[.int .i64 2, .int .i64 j, .string d] #[.int .i64 0, .int .i64 0, .string ⟨#[]⟩, .string ⟨#[]⟩, .int .i64 0, .int .i64 0, .int .i64 0, .bool false] #[.int .i64 2, .int .i64 j, .string ⟨#[]⟩, .string ⟨#[]⟩, .int .i64 0, .int .i64 0, .int .i64 0] 42 78 76)
    have p0 := H2.out.hp.cell 0; have p1 := H2.out.hp.cell 1; have p2 := H2.out.hp.cell 2
    simp only [List.getElem?_toArray, List.getElem?_cons_zero, List.getElem?_cons_succ] at p0 p1 p2
    generalize ((w.alloc (.cells #[.int .i64 2, .int .i64 j, .string d] 42)).alloc (.cells #[.int .i64 0, .int .i64 0, .string ⟨#[]⟩, .string ⟨#[]⟩, .int .i64 0, .int .i64 0, .int .i64 0, .bool false] 78)).alloc (.cells #[.int .i64 2, .int .i64 j, .string ⟨#[]⟩, .string ⟨#[]⟩, .int .i64 0, .int .i64 0, .int .i64 0] 76) = w2 at *
    go_wp2_with fail
    (with_reducible refine (HW.out _).mono ?_)
    rintro e w3 ⟨rfl, hb⟩
    have HH := Lib.hid (H2.out.keep hb)
    clear p0 p1 p2 hb H2 HW
    have HBX := Lib.hid HH.out.hb
    have p0 := HH.out.hp.cell 0; have p1 := HH.out.hp.cell 1; have p2 := HH.out.hp.cell 2
    simp only [List.getElem?_toArray, List.getElem?_cons_zero, List.getElem?_cons_succ, List.setIfInBounds_toArray, List.set_cons_zero, List.set_cons_succ] at p0 p1 p2
    have a0 := HH.out.ha.cell 0; have a1 := HH.out.ha.cell 1; have a2 := HH.out.ha.cell 2; have a3 := HH.out.ha.cell 3; have a4 := HH.out.ha.cell 4; have a5 := HH.out.ha.cell 5; have a6 := HH.out.ha.cell 6
    have g2 := HH.out.ha.free 2; have g3 := HH.out.ha.free 3; have g4 := HH.out.ha.free 4; have g5 := HH.out.ha.free 5; have g6 := HH.out.ha.free 6
    simp only [List.getElem?_toArray, List.getElem?_cons_zero, List.getElem?_cons_succ, List.setIfInBounds_toArray, List.set_cons_zero, List.set_cons_succ] at a0 a1 a2 a3 a4 a5 a6
    have r0 := HH.out.hr.cell 0; have r1 := HH.out.hr.cell 1; have r2 := HH.out.hr.cell 2; have r3 := HH.out.hr.cell 3; have r4 := HH.out.hr.cell 4; have r5 := HH.out.hr.cell 5; have r6 := HH.out.hr.cell 6; have r7 := HH.out.hr.cell 7
    have f0 := HH.out.hr.free 0; have f1 := HH.out.hr.free 1; have f2 := HH.out.hr.free 2; have f3 := HH.out.hr.free 3; have f4 := HH.out.hr.free 4; have f5 := HH.out.hr.free 5; have f6 := HH.out.hr.free 6; have f7 := HH.out.hr.free 7
    simp only [List.getElem?_toArray, List.getElem?_cons_zero, List.getElem?_cons_succ, List.setIfInBounds_toArray, List.set_cons_zero, List.set_cons_succ] at r0 r1 r2 r3 r4 r5 r6 r7
    clear HH
    go_wp2
    ((try simp only [Exit.inBlock, Exit.then]); refine bodyPost_ret (v := (.agg #[.int .i64 0, .int .i64 0, .string ⟨#[]⟩, .string ⟨#[]⟩, .int .i64 0, .int .i64 0, .int .i64 0, .bool false])) ?_ rfl ⟨?_, ?_⟩; (rw [results_cell1 rfl]; go_simp))
    · rfl
    · repeat (first | (with_reducible exact HBX.out) | refine below_set ?_ _ _ (by omega) _)
  | true =>
    by_cases hk : (Pr.openK d).1 = 0
    · have HO := Lib.hid (fun w => open_walk j d w)
      have ho : openV j d = none := by unfold openV; rw [if_pos hk]
      rw [ho] at HO
      simp only [askV] at HO
      clear ho
      have hh : Pr.rd ⟨2, j, d⟩ = none := by rw [rd_2 j d hW, if_pos hk]
      rw [hh]
      clear hk
      have HW := Lib.hid (rwhole_walk 2 j d)
      rw [hW] at HW
      clear hW hh
      go_enter Tryd.func33, Tryd.ntmps33
      go_upto_region 2 with (fail)
      have H2 := Lib.hid (T3.new w #[.int .i64 2, .int .i64 j, .string d] #[.int .i64 0, .int .i64 0, .string ⟨#[]⟩, .string ⟨#[]⟩, .int .i64 0, .int .i64 0, .int .i64 0, .bool false] #[.int .i64 2, .int .i64 j, .string ⟨#[]⟩, .string ⟨#[]⟩, .int .i64 0, .int .i64 0, .int .i64 0] 42 78 76)
      have p0 := H2.out.hp.cell 0; have p1 := H2.out.hp.cell 1; have p2 := H2.out.hp.cell 2
      simp only [List.getElem?_toArray, List.getElem?_cons_zero, List.getElem?_cons_succ] at p0 p1 p2
      generalize ((w.alloc (.cells #[.int .i64 2, .int .i64 j, .string d] 42)).alloc (.cells #[.int .i64 0, .int .i64 0, .string ⟨#[]⟩, .string ⟨#[]⟩, .int .i64 0, .int .i64 0, .int .i64 0, .bool false] 78)).alloc (.cells #[.int .i64 2, .int .i64 j, .string ⟨#[]⟩, .string ⟨#[]⟩, .int .i64 0, .int .i64 0, .int .i64 0] 76) = w2 at *
      go_wp2_with fail
      (with_reducible refine (HW.out _).mono ?_)
      rintro e w3 ⟨rfl, hb⟩
      have HH := Lib.hid (H2.out.keep hb)
      clear p0 p1 p2 hb H2 HW
      have p0 := HH.out.hp.cell 0; have p1 := HH.out.hp.cell 1; have p2 := HH.out.hp.cell 2
      simp only [List.getElem?_toArray, List.getElem?_cons_zero, List.getElem?_cons_succ, List.setIfInBounds_toArray, List.set_cons_zero, List.set_cons_succ] at p0 p1 p2
      have a0 := HH.out.ha.cell 0; have a1 := HH.out.ha.cell 1; have a2 := HH.out.ha.cell 2; have a3 := HH.out.ha.cell 3; have a4 := HH.out.ha.cell 4; have a5 := HH.out.ha.cell 5; have a6 := HH.out.ha.cell 6
      have g2 := HH.out.ha.free 2; have g3 := HH.out.ha.free 3; have g4 := HH.out.ha.free 4; have g5 := HH.out.ha.free 5; have g6 := HH.out.ha.free 6
      simp only [List.getElem?_toArray, List.getElem?_cons_zero, List.getElem?_cons_succ, List.setIfInBounds_toArray, List.set_cons_zero, List.set_cons_succ] at a0 a1 a2 a3 a4 a5 a6
      go_wp2_with fail
      (with_reducible refine (HO.out _).mono ?_)
      rintro e w4 ⟨rfl, hb⟩
      have HH4 := Lib.hid (HH.out.keep hb)
      clear p0 p1 p2 a0 a1 a2 a3 a4 a5 a6 g2 g3 g4 g5 g6 hb HH HO
      have HH := HH4
      clear HH4
      have HBX := Lib.hid HH.out.hb
      have p0 := HH.out.hp.cell 0; have p1 := HH.out.hp.cell 1; have p2 := HH.out.hp.cell 2
      simp only [List.getElem?_toArray, List.getElem?_cons_zero, List.getElem?_cons_succ, List.setIfInBounds_toArray, List.set_cons_zero, List.set_cons_succ] at p0 p1 p2
      have a0 := HH.out.ha.cell 0; have a1 := HH.out.ha.cell 1; have a2 := HH.out.ha.cell 2; have a3 := HH.out.ha.cell 3; have a4 := HH.out.ha.cell 4; have a5 := HH.out.ha.cell 5; have a6 := HH.out.ha.cell 6
      have g2 := HH.out.ha.free 2; have g3 := HH.out.ha.free 3; have g4 := HH.out.ha.free 4; have g5 := HH.out.ha.free 5; have g6 := HH.out.ha.free 6
      simp only [List.getElem?_toArray, List.getElem?_cons_zero, List.getElem?_cons_succ, List.setIfInBounds_toArray, List.set_cons_zero, List.set_cons_succ] at a0 a1 a2 a3 a4 a5 a6
      have r0 := HH.out.hr.cell 0; have r1 := HH.out.hr.cell 1; have r2 := HH.out.hr.cell 2; have r3 := HH.out.hr.cell 3; have r4 := HH.out.hr.cell 4; have r5 := HH.out.hr.cell 5; have r6 := HH.out.hr.cell 6; have r7 := HH.out.hr.cell 7
      have f0 := HH.out.hr.free 0; have f1 := HH.out.hr.free 1; have f2 := HH.out.hr.free 2; have f3 := HH.out.hr.free 3; have f4 := HH.out.hr.free 4; have f5 := HH.out.hr.free 5; have f6 := HH.out.hr.free 6; have f7 := HH.out.hr.free 7
      simp only [List.getElem?_toArray, List.getElem?_cons_zero, List.getElem?_cons_succ, List.setIfInBounds_toArray, List.set_cons_zero, List.set_cons_succ] at r0 r1 r2 r3 r4 r5 r6 r7
      clear HH
      go_wp2
      ((try simp only [Exit.inBlock, Exit.then]); refine bodyPost_ret (v := (.agg #[.int .i64 0, .int .i64 0, .string ⟨#[]⟩, .string ⟨#[]⟩, .int .i64 0, .int .i64 0, .int .i64 0, .bool false])) ?_ rfl ⟨?_, ?_⟩; (rw [results_cell1 rfl]; go_simp))
      · rfl
      · repeat (first | (with_reducible exact HBX.out) | refine below_set ?_ _ _ (by omega) _)
    · have HO := Lib.hid (fun w => open_walk j d w)
      have ho : openV j d = some ⟨2, j, Pr.e0, Pr.e0, (Pr.openK d).1, (Pr.openK d).2, 0⟩ := by unfold openV; rw [if_neg hk]
      rw [ho] at HO
      simp only [askV, Pr.e0] at HO
      clear ho
      have hrd := rd_2 j d hW
      rw [if_neg hk] at hrd
      generalize (Pr.openK d).1 = k at *
      generalize (Pr.openK d).2 = lv at *
      have hh : Pr.rd ⟨2, j, d⟩ = some ⟨2, j, Pr.e0, Pr.e0, k, lv, 0⟩ := by rw [hrd]
      rw [hh]
      clear hk hrd
      have HW := Lib.hid (rwhole_walk 2 j d)
      rw [hW] at HW
      clear hW hh
      go_enter Tryd.func33, Tryd.ntmps33
      go_upto_region 2 with (fail)
      have H2 := Lib.hid (T3.new w #[.int .i64 2, .int .i64 j, .string d] #[.int .i64 0, .int .i64 0, .string ⟨#[]⟩, .string ⟨#[]⟩, .int .i64 0, .int .i64 0, .int .i64 0, .bool false] #[.int .i64 2, .int .i64 j, .string ⟨#[]⟩, .string ⟨#[]⟩, .int .i64 0, .int .i64 0, .int .i64 0] 42 78 76)
      have p0 := H2.out.hp.cell 0; have p1 := H2.out.hp.cell 1; have p2 := H2.out.hp.cell 2
      simp only [List.getElem?_toArray, List.getElem?_cons_zero, List.getElem?_cons_succ] at p0 p1 p2
      generalize ((w.alloc (.cells #[.int .i64 2, .int .i64 j, .string d] 42)).alloc (.cells #[.int .i64 0, .int .i64 0, .string ⟨#[]⟩, .string ⟨#[]⟩, .int .i64 0, .int .i64 0, .int .i64 0, .bool false] 78)).alloc (.cells #[.int .i64 2, .int .i64 j, .string ⟨#[]⟩, .string ⟨#[]⟩, .int .i64 0, .int .i64 0, .int .i64 0] 76) = w2 at *
      go_wp2_with fail
      (with_reducible refine (HW.out _).mono ?_)
      rintro e w3 ⟨rfl, hb⟩
      have HH := Lib.hid (H2.out.keep hb)
      clear p0 p1 p2 hb H2 HW
      have p0 := HH.out.hp.cell 0; have p1 := HH.out.hp.cell 1; have p2 := HH.out.hp.cell 2
      simp only [List.getElem?_toArray, List.getElem?_cons_zero, List.getElem?_cons_succ, List.setIfInBounds_toArray, List.set_cons_zero, List.set_cons_succ] at p0 p1 p2
      have a0 := HH.out.ha.cell 0; have a1 := HH.out.ha.cell 1; have a2 := HH.out.ha.cell 2; have a3 := HH.out.ha.cell 3; have a4 := HH.out.ha.cell 4; have a5 := HH.out.ha.cell 5; have a6 := HH.out.ha.cell 6
      have g2 := HH.out.ha.free 2; have g3 := HH.out.ha.free 3; have g4 := HH.out.ha.free 4; have g5 := HH.out.ha.free 5; have g6 := HH.out.ha.free 6
      simp only [List.getElem?_toArray, List.getElem?_cons_zero, List.getElem?_cons_succ, List.setIfInBounds_toArray, List.set_cons_zero, List.set_cons_succ] at a0 a1 a2 a3 a4 a5 a6
      go_wp2_with fail
      (with_reducible refine (HO.out _).mono ?_)
      rintro e w4 ⟨rfl, hb⟩
      have HH4 := Lib.hid (HH.out.keep hb)
      clear p0 p1 p2 a0 a1 a2 a3 a4 a5 a6 g2 g3 g4 g5 g6 hb HH HO
      have HH := HH4
      clear HH4
      have HBX := Lib.hid HH.out.hb
      have p0 := HH.out.hp.cell 0; have p1 := HH.out.hp.cell 1; have p2 := HH.out.hp.cell 2
      simp only [List.getElem?_toArray, List.getElem?_cons_zero, List.getElem?_cons_succ, List.setIfInBounds_toArray, List.set_cons_zero, List.set_cons_succ] at p0 p1 p2
      have a0 := HH.out.ha.cell 0; have a1 := HH.out.ha.cell 1; have a2 := HH.out.ha.cell 2; have a3 := HH.out.ha.cell 3; have a4 := HH.out.ha.cell 4; have a5 := HH.out.ha.cell 5; have a6 := HH.out.ha.cell 6
      have g2 := HH.out.ha.free 2; have g3 := HH.out.ha.free 3; have g4 := HH.out.ha.free 4; have g5 := HH.out.ha.free 5; have g6 := HH.out.ha.free 6
      simp only [List.getElem?_toArray, List.getElem?_cons_zero, List.getElem?_cons_succ, List.setIfInBounds_toArray, List.set_cons_zero, List.set_cons_succ] at a0 a1 a2 a3 a4 a5 a6
      have r0 := HH.out.hr.cell 0; have r1 := HH.out.hr.cell 1; have r2 := HH.out.hr.cell 2; have r3 := HH.out.hr.cell 3; have r4 := HH.out.hr.cell 4; have r5 := HH.out.hr.cell 5; have r6 := HH.out.hr.cell 6; have r7 := HH.out.hr.cell 7
      have f0 := HH.out.hr.free 0; have f1 := HH.out.hr.free 1; have f2 := HH.out.hr.free 2; have f3 := HH.out.hr.free 3; have f4 := HH.out.hr.free 4; have f5 := HH.out.hr.free 5; have f6 := HH.out.hr.free 6; have f7 := HH.out.hr.free 7
      simp only [List.getElem?_toArray, List.getElem?_cons_zero, List.getElem?_cons_succ, List.setIfInBounds_toArray, List.set_cons_zero, List.set_cons_succ] at r0 r1 r2 r3 r4 r5 r6 r7
      clear HH
      go_wp2
      ((try simp only [Exit.inBlock, Exit.then]); refine bodyPost_ret (v := (.agg #[.int .i64 2, .int .i64 j, .string ⟨#[]⟩, .string ⟨#[]⟩, .int .i64 k, .int .i64 lv, .int .i64 0, .bool true])) ?_ rfl ⟨?_, ?_⟩; (rw [results_cell1 rfl]; go_simp))
      · rfl
      · repeat (first | (with_reducible exact HBX.out) | refine below_set ?_ _ _ (by omega) _)
set_option maxRecDepth 100000 in
set_option maxHeartbeats 1600000 in
theorem rread3 (j : Int) (d : ByteArray) (w : World) : Calls Tryd.prog 33 #[.agg #[.int .i64 3, .int .i64 j, .string d]] w fun e w' => e = .returned (askV (Pr.rd ⟨3, j, d⟩)) ∧ Below w.heap.size w w' := by
  cases hW : Pr.whole ⟨3, j, d⟩ with
  | false =>
    have hh : Pr.rd ⟨3, j, d⟩ = none := by rw [rd_w _ hW]
    rw [hh]
    have HW := Lib.hid (rwhole_walk 3 j d)
    rw [hW] at HW
    clear hW hh
    go_enter Tryd.func33, Tryd.ntmps33
    go_upto_region 2 with (fail)
    have H2 := Lib.hid (T3.new w #[.int .i64 3, .int .i64 j, .string d] #[.int .i64 0, .int .i64 0, .string ⟨#[]⟩, .string ⟨#[]⟩, .int .i64 0, .int .i64 0, .int .i64 0, .bool false] #[.int .i64 3, .int .i64 j, .string ⟨#[]⟩, .string ⟨#[]⟩, .int .i64 0, .int .i64 0, .int .i64 0] 42 78 76)
    have p0 := H2.out.hp.cell 0; have p1 := H2.out.hp.cell 1; have p2 := H2.out.hp.cell 2
    simp only [List.getElem?_toArray, List.getElem?_cons_zero, List.getElem?_cons_succ] at p0 p1 p2
    generalize ((w.alloc (.cells #[.int .i64 3, .int .i64 j, .string d] 42)).alloc (.cells #[.int .i64 0, .int .i64 0, .string ⟨#[]⟩, .string ⟨#[]⟩, .int .i64 0, .int .i64 0, .int .i64 0, .bool false] 78)).alloc (.cells #[.int .i64 3, .int .i64 j, .string ⟨#[]⟩, .string ⟨#[]⟩, .int .i64 0, .int .i64 0, .int .i64 0] 76) = w2 at *
    go_wp2_with fail
    (with_reducible refine (HW.out _).mono ?_)
    rintro e w3 ⟨rfl, hb⟩
    have HH := Lib.hid (H2.out.keep hb)
    clear p0 p1 p2 hb H2 HW
    have HBX := Lib.hid HH.out.hb
    have p0 := HH.out.hp.cell 0; have p1 := HH.out.hp.cell 1; have p2 := HH.out.hp.cell 2
    simp only [List.getElem?_toArray, List.getElem?_cons_zero, List.getElem?_cons_succ, List.setIfInBounds_toArray, List.set_cons_zero, List.set_cons_succ] at p0 p1 p2
    have a0 := HH.out.ha.cell 0; have a1 := HH.out.ha.cell 1; have a2 := HH.out.ha.cell 2; have a3 := HH.out.ha.cell 3; have a4 := HH.out.ha.cell 4; have a5 := HH.out.ha.cell 5; have a6 := HH.out.ha.cell 6
    have g2 := HH.out.ha.free 2; have g3 := HH.out.ha.free 3; have g4 := HH.out.ha.free 4; have g5 := HH.out.ha.free 5; have g6 := HH.out.ha.free 6
    simp only [List.getElem?_toArray, List.getElem?_cons_zero, List.getElem?_cons_succ, List.setIfInBounds_toArray, List.set_cons_zero, List.set_cons_succ] at a0 a1 a2 a3 a4 a5 a6
    have r0 := HH.out.hr.cell 0; have r1 := HH.out.hr.cell 1; have r2 := HH.out.hr.cell 2; have r3 := HH.out.hr.cell 3; have r4 := HH.out.hr.cell 4; have r5 := HH.out.hr.cell 5; have r6 := HH.out.hr.cell 6; have r7 := HH.out.hr.cell 7
    have f0 := HH.out.hr.free 0; have f1 := HH.out.hr.free 1; have f2 := HH.out.hr.free 2; have f3 := HH.out.hr.free 3; have f4 := HH.out.hr.free 4; have f5 := HH.out.hr.free 5; have f6 := HH.out.hr.free 6; have f7 := HH.out.hr.free 7
    simp only [List.getElem?_toArray, List.getElem?_cons_zero, List.getElem?_cons_succ, List.setIfInBounds_toArray, List.set_cons_zero, List.set_cons_succ] at r0 r1 r2 r3 r4 r5 r6 r7
    clear HH
    go_wp2
    ((try simp only [Exit.inBlock, Exit.then]); refine bodyPost_ret (v := (.agg #[.int .i64 0, .int .i64 0, .string ⟨#[]⟩, .string ⟨#[]⟩, .int .i64 0, .int .i64 0, .int .i64 0, .bool false])) ?_ rfl ⟨?_, ?_⟩; (rw [results_cell1 rfl]; go_simp))
    · rfl
    · repeat (first | (with_reducible exact HBX.out) | refine below_set ?_ _ _ (by omega) _)
  | true =>
    have hh : Pr.rd ⟨3, j, d⟩ = some ⟨3, j, Pr.e0, d, 0, 0, 0⟩ := by rw [rd_3 j d hW]
    rw [hh]
    have HW := Lib.hid (rwhole_walk 3 j d)
    rw [hW] at HW
    clear hW hh
    go_enter Tryd.func33, Tryd.ntmps33
    go_upto_region 2 with (fail)
    have H2 := Lib.hid (T3.new w #[.int .i64 3, .int .i64 j, .string d] #[.int .i64 0, .int .i64 0, .string ⟨#[]⟩, .string ⟨#[]⟩, .int .i64 0, .int .i64 0, .int .i64 0, .bool false] #[.int .i64 3, .int .i64 j, .string ⟨#[]⟩, .string ⟨#[]⟩, .int .i64 0, .int .i64 0, .int .i64 0] 42 78 76)
    have p0 := H2.out.hp.cell 0; have p1 := H2.out.hp.cell 1; have p2 := H2.out.hp.cell 2
    simp only [List.getElem?_toArray, List.getElem?_cons_zero, List.getElem?_cons_succ] at p0 p1 p2
    generalize ((w.alloc (.cells #[.int .i64 3, .int .i64 j, .string d] 42)).alloc (.cells #[.int .i64 0, .int .i64 0, .string ⟨#[]⟩, .string ⟨#[]⟩, .int .i64 0, .int .i64 0, .int .i64 0, .bool false] 78)).alloc (.cells #[.int .i64 3, .int .i64 j, .string ⟨#[]⟩, .string ⟨#[]⟩, .int .i64 0, .int .i64 0, .int .i64 0] 76) = w2 at *
    go_wp2_with fail
    (with_reducible refine (HW.out _).mono ?_)
    rintro e w3 ⟨rfl, hb⟩
    have HH := Lib.hid (H2.out.keep hb)
    clear p0 p1 p2 hb H2 HW
    have HBX := Lib.hid HH.out.hb
    have p0 := HH.out.hp.cell 0; have p1 := HH.out.hp.cell 1; have p2 := HH.out.hp.cell 2
    simp only [List.getElem?_toArray, List.getElem?_cons_zero, List.getElem?_cons_succ, List.setIfInBounds_toArray, List.set_cons_zero, List.set_cons_succ] at p0 p1 p2
    have a0 := HH.out.ha.cell 0; have a1 := HH.out.ha.cell 1; have a2 := HH.out.ha.cell 2; have a3 := HH.out.ha.cell 3; have a4 := HH.out.ha.cell 4; have a5 := HH.out.ha.cell 5; have a6 := HH.out.ha.cell 6
    have g2 := HH.out.ha.free 2; have g3 := HH.out.ha.free 3; have g4 := HH.out.ha.free 4; have g5 := HH.out.ha.free 5; have g6 := HH.out.ha.free 6
    simp only [List.getElem?_toArray, List.getElem?_cons_zero, List.getElem?_cons_succ, List.setIfInBounds_toArray, List.set_cons_zero, List.set_cons_succ] at a0 a1 a2 a3 a4 a5 a6
    have r0 := HH.out.hr.cell 0; have r1 := HH.out.hr.cell 1; have r2 := HH.out.hr.cell 2; have r3 := HH.out.hr.cell 3; have r4 := HH.out.hr.cell 4; have r5 := HH.out.hr.cell 5; have r6 := HH.out.hr.cell 6; have r7 := HH.out.hr.cell 7
    have f0 := HH.out.hr.free 0; have f1 := HH.out.hr.free 1; have f2 := HH.out.hr.free 2; have f3 := HH.out.hr.free 3; have f4 := HH.out.hr.free 4; have f5 := HH.out.hr.free 5; have f6 := HH.out.hr.free 6; have f7 := HH.out.hr.free 7
    simp only [List.getElem?_toArray, List.getElem?_cons_zero, List.getElem?_cons_succ, List.setIfInBounds_toArray, List.set_cons_zero, List.set_cons_succ] at r0 r1 r2 r3 r4 r5 r6 r7
    clear HH
    go_wp2
    ((try simp only [Exit.inBlock, Exit.then]); refine bodyPost_ret (v := (.agg #[.int .i64 3, .int .i64 j, .string ⟨#[]⟩, .string d, .int .i64 0, .int .i64 0, .int .i64 0, .bool true])) ?_ rfl ⟨?_, ?_⟩; (rw [results_cell1 rfl]; go_simp))
    · rfl
    · repeat (first | (with_reducible exact HBX.out) | refine below_set ?_ _ _ (by omega) _)
set_option maxRecDepth 100000 in
set_option maxHeartbeats 1600000 in
theorem rread4 (j : Int) (d : ByteArray) (w : World) : Calls Tryd.prog 33 #[.agg #[.int .i64 4, .int .i64 j, .string d]] w fun e w' => e = .returned (askV (Pr.rd ⟨4, j, d⟩)) ∧ Below w.heap.size w w' := by
  cases hW : Pr.whole ⟨4, j, d⟩ with
  | false =>
    have hh : Pr.rd ⟨4, j, d⟩ = none := by rw [rd_w _ hW]
    rw [hh]
    have HW := Lib.hid (rwhole_walk 4 j d)
    rw [hW] at HW
    clear hW hh
    go_enter Tryd.func33, Tryd.ntmps33
    go_upto_region 2 with (fail)
    have H2 := Lib.hid (T3.new w #[.int .i64 4, .int .i64 j, .string d] #[.int .i64 0, .int .i64 0, .string ⟨#[]⟩, .string ⟨#[]⟩, .int .i64 0, .int .i64 0, .int .i64 0, .bool false] #[.int .i64 4, .int .i64 j, .string ⟨#[]⟩, .string ⟨#[]⟩, .int .i64 0, .int .i64 0, .int .i64 0] 42 78 76)
    have p0 := H2.out.hp.cell 0; have p1 := H2.out.hp.cell 1; have p2 := H2.out.hp.cell 2
    simp only [List.getElem?_toArray, List.getElem?_cons_zero, List.getElem?_cons_succ] at p0 p1 p2
    generalize ((w.alloc (.cells #[.int .i64 4, .int .i64 j, .string d] 42)).alloc (.cells #[.int .i64 0, .int .i64 0, .string ⟨#[]⟩, .string ⟨#[]⟩, .int .i64 0, .int .i64 0, .int .i64 0, .bool false] 78)).alloc (.cells #[.int .i64 4, .int .i64 j, .string ⟨#[]⟩, .string ⟨#[]⟩, .int .i64 0, .int .i64 0, .int .i64 0] 76) = w2 at *
    go_wp2_with fail
    (with_reducible refine (HW.out _).mono ?_)
    rintro e w3 ⟨rfl, hb⟩
    have HH := Lib.hid (H2.out.keep hb)
    clear p0 p1 p2 hb H2 HW
    have HBX := Lib.hid HH.out.hb
    have p0 := HH.out.hp.cell 0; have p1 := HH.out.hp.cell 1; have p2 := HH.out.hp.cell 2
    simp only [List.getElem?_toArray, List.getElem?_cons_zero, List.getElem?_cons_succ, List.setIfInBounds_toArray, List.set_cons_zero, List.set_cons_succ] at p0 p1 p2
    have a0 := HH.out.ha.cell 0; have a1 := HH.out.ha.cell 1; have a2 := HH.out.ha.cell 2; have a3 := HH.out.ha.cell 3; have a4 := HH.out.ha.cell 4; have a5 := HH.out.ha.cell 5; have a6 := HH.out.ha.cell 6
    have g2 := HH.out.ha.free 2; have g3 := HH.out.ha.free 3; have g4 := HH.out.ha.free 4; have g5 := HH.out.ha.free 5; have g6 := HH.out.ha.free 6
    simp only [List.getElem?_toArray, List.getElem?_cons_zero, List.getElem?_cons_succ, List.setIfInBounds_toArray, List.set_cons_zero, List.set_cons_succ] at a0 a1 a2 a3 a4 a5 a6
    have r0 := HH.out.hr.cell 0; have r1 := HH.out.hr.cell 1; have r2 := HH.out.hr.cell 2; have r3 := HH.out.hr.cell 3; have r4 := HH.out.hr.cell 4; have r5 := HH.out.hr.cell 5; have r6 := HH.out.hr.cell 6; have r7 := HH.out.hr.cell 7
    have f0 := HH.out.hr.free 0; have f1 := HH.out.hr.free 1; have f2 := HH.out.hr.free 2; have f3 := HH.out.hr.free 3; have f4 := HH.out.hr.free 4; have f5 := HH.out.hr.free 5; have f6 := HH.out.hr.free 6; have f7 := HH.out.hr.free 7
    simp only [List.getElem?_toArray, List.getElem?_cons_zero, List.getElem?_cons_succ, List.setIfInBounds_toArray, List.set_cons_zero, List.set_cons_succ] at r0 r1 r2 r3 r4 r5 r6 r7
    clear HH
    go_wp2
    ((try simp only [Exit.inBlock, Exit.then]); refine bodyPost_ret (v := (.agg #[.int .i64 0, .int .i64 0, .string ⟨#[]⟩, .string ⟨#[]⟩, .int .i64 0, .int .i64 0, .int .i64 0, .bool false])) ?_ rfl ⟨?_, ?_⟩; (rw [results_cell1 rfl]; go_simp))
    · rfl
    · repeat (first | (with_reducible exact HBX.out) | refine below_set ?_ _ _ (by omega) _)
  | true =>
    by_cases hs : d.size = 0
    · skip
      have es : d.toList.isEmpty = true := by rw [sempty, decide_eq_true hs]
      have hh : Pr.rd ⟨4, j, d⟩ = some ⟨4, j, Pr.e0, Pr.e0, 0, 0, 0⟩ := by rw [rd_4 j d hW, if_pos hs]
      rw [hh]
      clear hs
      have HW := Lib.hid (rwhole_walk 4 j d)
      rw [hW] at HW
      clear hW hh
      go_enter Tryd.func33, Tryd.ntmps33
      go_upto_region 2 with (fail)
      have H2 := Lib.hid (T3.new w #[.int .i64 4, .int .i64 j, .string d] #[.int .i64 0, .int .i64 0, .string ⟨#[]⟩, .string ⟨#[]⟩, .int .i64 0, .int .i64 0, .int .i64 0, .bool false] #[.int .i64 4, .int .i64 j, .string ⟨#[]⟩, .string ⟨#[]⟩, .int .i64 0, .int .i64 0, .int .i64 0] 42 78 76)
      have p0 := H2.out.hp.cell 0; have p1 := H2.out.hp.cell 1; have p2 := H2.out.hp.cell 2
      simp only [List.getElem?_toArray, List.getElem?_cons_zero, List.getElem?_cons_succ] at p0 p1 p2
      generalize ((w.alloc (.cells #[.int .i64 4, .int .i64 j, .string d] 42)).alloc (.cells #[.int .i64 0, .int .i64 0, .string ⟨#[]⟩, .string ⟨#[]⟩, .int .i64 0, .int .i64 0, .int .i64 0, .bool false] 78)).alloc (.cells #[.int .i64 4, .int .i64 j, .string ⟨#[]⟩, .string ⟨#[]⟩, .int .i64 0, .int .i64 0, .int .i64 0] 76) = w2 at *
      go_wp2_with fail
      (with_reducible refine (HW.out _).mono ?_)
      rintro e w3 ⟨rfl, hb⟩
      have HH := Lib.hid (H2.out.keep hb)
      clear p0 p1 p2 hb H2 HW
      have HBX := Lib.hid HH.out.hb
      have p0 := HH.out.hp.cell 0; have p1 := HH.out.hp.cell 1; have p2 := HH.out.hp.cell 2
      simp only [List.getElem?_toArray, List.getElem?_cons_zero, List.getElem?_cons_succ, List.setIfInBounds_toArray, List.set_cons_zero, List.set_cons_succ] at p0 p1 p2
      have a0 := HH.out.ha.cell 0; have a1 := HH.out.ha.cell 1; have a2 := HH.out.ha.cell 2; have a3 := HH.out.ha.cell 3; have a4 := HH.out.ha.cell 4; have a5 := HH.out.ha.cell 5; have a6 := HH.out.ha.cell 6
      have g2 := HH.out.ha.free 2; have g3 := HH.out.ha.free 3; have g4 := HH.out.ha.free 4; have g5 := HH.out.ha.free 5; have g6 := HH.out.ha.free 6
      simp only [List.getElem?_toArray, List.getElem?_cons_zero, List.getElem?_cons_succ, List.setIfInBounds_toArray, List.set_cons_zero, List.set_cons_succ] at a0 a1 a2 a3 a4 a5 a6
      have r0 := HH.out.hr.cell 0; have r1 := HH.out.hr.cell 1; have r2 := HH.out.hr.cell 2; have r3 := HH.out.hr.cell 3; have r4 := HH.out.hr.cell 4; have r5 := HH.out.hr.cell 5; have r6 := HH.out.hr.cell 6; have r7 := HH.out.hr.cell 7
      have f0 := HH.out.hr.free 0; have f1 := HH.out.hr.free 1; have f2 := HH.out.hr.free 2; have f3 := HH.out.hr.free 3; have f4 := HH.out.hr.free 4; have f5 := HH.out.hr.free 5; have f6 := HH.out.hr.free 6; have f7 := HH.out.hr.free 7
      simp only [List.getElem?_toArray, List.getElem?_cons_zero, List.getElem?_cons_succ, List.setIfInBounds_toArray, List.set_cons_zero, List.set_cons_succ] at r0 r1 r2 r3 r4 r5 r6 r7
      clear HH
      go_wp2
      ((try simp only [Exit.inBlock, Exit.then]); refine bodyPost_ret (v := (.agg #[.int .i64 4, .int .i64 j, .string ⟨#[]⟩, .string ⟨#[]⟩, .int .i64 0, .int .i64 0, .int .i64 0, .bool true])) ?_ rfl ⟨?_, ?_⟩; (rw [results_cell1 rfl]; go_simp))
      · rfl
      · repeat (first | (with_reducible exact HBX.out) | refine below_set ?_ _ _ (by omega) _)
    · skip
      have es : d.toList.isEmpty = false := by rw [sempty, decide_eq_false hs]
      have hh : Pr.rd ⟨4, j, d⟩ = none := by rw [rd_4 j d hW, if_neg hs]
      rw [hh]
      clear hs
      have HW := Lib.hid (rwhole_walk 4 j d)
      rw [hW] at HW
      clear hW hh
      go_enter Tryd.func33, Tryd.ntmps33
      go_upto_region 2 with (fail)
      have H2 := Lib.hid (T3.new w #[.int .i64 4, .int .i64 j, .string d] #[.int .i64 0, .int .i64 0, .string ⟨#[]⟩, .string ⟨#[]⟩, .int .i64 0, .int .i64 0, .int .i64 0, .bool false] #[.int .i64 4, .int .i64 j, .string ⟨#[]⟩, .string ⟨#[]⟩, .int .i64 0, .int .i64 0, .int .i64 0] 42 78 76)
      have p0 := H2.out.hp.cell 0; have p1 := H2.out.hp.cell 1; have p2 := H2.out.hp.cell 2
      simp only [List.getElem?_toArray, List.getElem?_cons_zero, List.getElem?_cons_succ] at p0 p1 p2
      generalize ((w.alloc (.cells #[.int .i64 4, .int .i64 j, .string d] 42)).alloc (.cells #[.int .i64 0, .int .i64 0, .string ⟨#[]⟩, .string ⟨#[]⟩, .int .i64 0, .int .i64 0, .int .i64 0, .bool false] 78)).alloc (.cells #[.int .i64 4, .int .i64 j, .string ⟨#[]⟩, .string ⟨#[]⟩, .int .i64 0, .int .i64 0, .int .i64 0] 76) = w2 at *
      go_wp2_with fail
      (with_reducible refine (HW.out _).mono ?_)
      rintro e w3 ⟨rfl, hb⟩
      have HH := Lib.hid (H2.out.keep hb)
      clear p0 p1 p2 hb H2 HW
      have HBX := Lib.hid HH.out.hb
      have p0 := HH.out.hp.cell 0; have p1 := HH.out.hp.cell 1; have p2 := HH.out.hp.cell 2
      simp only [List.getElem?_toArray, List.getElem?_cons_zero, List.getElem?_cons_succ, List.setIfInBounds_toArray, List.set_cons_zero, List.set_cons_succ] at p0 p1 p2
      have a0 := HH.out.ha.cell 0; have a1 := HH.out.ha.cell 1; have a2 := HH.out.ha.cell 2; have a3 := HH.out.ha.cell 3; have a4 := HH.out.ha.cell 4; have a5 := HH.out.ha.cell 5; have a6 := HH.out.ha.cell 6
      have g2 := HH.out.ha.free 2; have g3 := HH.out.ha.free 3; have g4 := HH.out.ha.free 4; have g5 := HH.out.ha.free 5; have g6 := HH.out.ha.free 6
      simp only [List.getElem?_toArray, List.getElem?_cons_zero, List.getElem?_cons_succ, List.setIfInBounds_toArray, List.set_cons_zero, List.set_cons_succ] at a0 a1 a2 a3 a4 a5 a6
      have r0 := HH.out.hr.cell 0; have r1 := HH.out.hr.cell 1; have r2 := HH.out.hr.cell 2; have r3 := HH.out.hr.cell 3; have r4 := HH.out.hr.cell 4; have r5 := HH.out.hr.cell 5; have r6 := HH.out.hr.cell 6; have r7 := HH.out.hr.cell 7
      have f0 := HH.out.hr.free 0; have f1 := HH.out.hr.free 1; have f2 := HH.out.hr.free 2; have f3 := HH.out.hr.free 3; have f4 := HH.out.hr.free 4; have f5 := HH.out.hr.free 5; have f6 := HH.out.hr.free 6; have f7 := HH.out.hr.free 7
      simp only [List.getElem?_toArray, List.getElem?_cons_zero, List.getElem?_cons_succ, List.setIfInBounds_toArray, List.set_cons_zero, List.set_cons_succ] at r0 r1 r2 r3 r4 r5 r6 r7
      clear HH
      go_wp2
      ((try simp only [Exit.inBlock, Exit.then]); refine bodyPost_ret (v := (.agg #[.int .i64 0, .int .i64 0, .string ⟨#[]⟩, .string ⟨#[]⟩, .int .i64 0, .int .i64 0, .int .i64 0, .bool false])) ?_ rfl ⟨?_, ?_⟩; (rw [results_cell1 rfl]; go_simp))
      · rfl
      · repeat (first | (with_reducible exact HBX.out) | refine below_set ?_ _ _ (by omega) _)
set_option maxRecDepth 100000 in
set_option maxHeartbeats 1600000 in
theorem rread5 (j : Int) (d : ByteArray) (w : World) : Calls Tryd.prog 33 #[.agg #[.int .i64 5, .int .i64 j, .string d]] w fun e w' => e = .returned (askV (Pr.rd ⟨5, j, d⟩)) ∧ Below w.heap.size w w' := by
  cases hW : Pr.whole ⟨5, j, d⟩ with
  | false =>
    have hh : Pr.rd ⟨5, j, d⟩ = none := by rw [rd_w _ hW]
    rw [hh]
    have HW := Lib.hid (rwhole_walk 5 j d)
    rw [hW] at HW
    clear hW hh
    go_enter Tryd.func33, Tryd.ntmps33
    go_upto_region 2 with (fail)
    have H2 := Lib.hid (T3.new w #[.int .i64 5, .int .i64 j, .string d] #[.int .i64 0, .int .i64 0, .string ⟨#[]⟩, .string ⟨#[]⟩, .int .i64 0, .int .i64 0, .int .i64 0, .bool false] #[.int .i64 5, .int .i64 j, .string ⟨#[]⟩, .string ⟨#[]⟩, .int .i64 0, .int .i64 0, .int .i64 0] 42 78 76)
    have p0 := H2.out.hp.cell 0; have p1 := H2.out.hp.cell 1; have p2 := H2.out.hp.cell 2
    simp only [List.getElem?_toArray, List.getElem?_cons_zero, List.getElem?_cons_succ] at p0 p1 p2
    generalize ((w.alloc (.cells #[.int .i64 5, .int .i64 j, .string d] 42)).alloc (.cells #[.int .i64 0, .int .i64 0, .string ⟨#[]⟩, .string ⟨#[]⟩, .int .i64 0, .int .i64 0, .int .i64 0, .bool false] 78)).alloc (.cells #[.int .i64 5, .int .i64 j, .string ⟨#[]⟩, .string ⟨#[]⟩, .int .i64 0, .int .i64 0, .int .i64 0] 76) = w2 at *
    go_wp2_with fail
    (with_reducible refine (HW.out _).mono ?_)
    rintro e w3 ⟨rfl, hb⟩
    have HH := Lib.hid (H2.out.keep hb)
    clear p0 p1 p2 hb H2 HW
    have HBX := Lib.hid HH.out.hb
    have p0 := HH.out.hp.cell 0; have p1 := HH.out.hp.cell 1; have p2 := HH.out.hp.cell 2
    simp only [List.getElem?_toArray, List.getElem?_cons_zero, List.getElem?_cons_succ, List.setIfInBounds_toArray, List.set_cons_zero, List.set_cons_succ] at p0 p1 p2
    have a0 := HH.out.ha.cell 0; have a1 := HH.out.ha.cell 1; have a2 := HH.out.ha.cell 2; have a3 := HH.out.ha.cell 3; have a4 := HH.out.ha.cell 4; have a5 := HH.out.ha.cell 5; have a6 := HH.out.ha.cell 6
    have g2 := HH.out.ha.free 2; have g3 := HH.out.ha.free 3; have g4 := HH.out.ha.free 4; have g5 := HH.out.ha.free 5; have g6 := HH.out.ha.free 6
    simp only [List.getElem?_toArray, List.getElem?_cons_zero, List.getElem?_cons_succ, List.setIfInBounds_toArray, List.set_cons_zero, List.set_cons_succ] at a0 a1 a2 a3 a4 a5 a6
    have r0 := HH.out.hr.cell 0; have r1 := HH.out.hr.cell 1; have r2 := HH.out.hr.cell 2; have r3 := HH.out.hr.cell 3; have r4 := HH.out.hr.cell 4; have r5 := HH.out.hr.cell 5; have r6 := HH.out.hr.cell 6; have r7 := HH.out.hr.cell 7
    have f0 := HH.out.hr.free 0; have f1 := HH.out.hr.free 1; have f2 := HH.out.hr.free 2; have f3 := HH.out.hr.free 3; have f4 := HH.out.hr.free 4; have f5 := HH.out.hr.free 5; have f6 := HH.out.hr.free 6; have f7 := HH.out.hr.free 7
    simp only [List.getElem?_toArray, List.getElem?_cons_zero, List.getElem?_cons_succ, List.setIfInBounds_toArray, List.set_cons_zero, List.set_cons_succ] at r0 r1 r2 r3 r4 r5 r6 r7
    clear HH
    go_wp2
    ((try simp only [Exit.inBlock, Exit.then]); refine bodyPost_ret (v := (.agg #[.int .i64 0, .int .i64 0, .string ⟨#[]⟩, .string ⟨#[]⟩, .int .i64 0, .int .i64 0, .int .i64 0, .bool false])) ?_ rfl ⟨?_, ?_⟩; (rw [results_cell1 rfl]; go_simp))
    · rfl
    · repeat (first | (with_reducible exact HBX.out) | refine below_set ?_ _ _ (by omega) _)
  | true =>
    by_cases hs : d.size = 0
    · skip
      have es : d.toList.isEmpty = true := by rw [sempty, decide_eq_true hs]
      have hh : Pr.rd ⟨5, j, d⟩ = some ⟨5, j, Pr.e0, Pr.e0, 0, 0, 0⟩ := by rw [rd_5 j d hW, if_pos hs]
      rw [hh]
      clear hs
      have HW := Lib.hid (rwhole_walk 5 j d)
      rw [hW] at HW
      clear hW hh
      go_enter Tryd.func33, Tryd.ntmps33
      go_upto_region 2 with (fail)
      have H2 := Lib.hid (T3.new w #[.int .i64 5, .int .i64 j, .string d] #[.int .i64 0, .int .i64 0, .string ⟨#[]⟩, .string ⟨#[]⟩, .int .i64 0, .int .i64 0, .int .i64 0, .bool false] #[.int .i64 5, .int .i64 j, .string ⟨#[]⟩, .string ⟨#[]⟩, .int .i64 0, .int .i64 0, .int .i64 0] 42 78 76)
      have p0 := H2.out.hp.cell 0; have p1 := H2.out.hp.cell 1; have p2 := H2.out.hp.cell 2
      simp only [List.getElem?_toArray, List.getElem?_cons_zero, List.getElem?_cons_succ] at p0 p1 p2
      generalize ((w.alloc (.cells #[.int .i64 5, .int .i64 j, .string d] 42)).alloc (.cells #[.int .i64 0, .int .i64 0, .string ⟨#[]⟩, .string ⟨#[]⟩, .int .i64 0, .int .i64 0, .int .i64 0, .bool false] 78)).alloc (.cells #[.int .i64 5, .int .i64 j, .string ⟨#[]⟩, .string ⟨#[]⟩, .int .i64 0, .int .i64 0, .int .i64 0] 76) = w2 at *
      go_wp2_with fail
      (with_reducible refine (HW.out _).mono ?_)
      rintro e w3 ⟨rfl, hb⟩
      have HH := Lib.hid (H2.out.keep hb)
      clear p0 p1 p2 hb H2 HW
      have HBX := Lib.hid HH.out.hb
      have p0 := HH.out.hp.cell 0; have p1 := HH.out.hp.cell 1; have p2 := HH.out.hp.cell 2
      simp only [List.getElem?_toArray, List.getElem?_cons_zero, List.getElem?_cons_succ, List.setIfInBounds_toArray, List.set_cons_zero, List.set_cons_succ] at p0 p1 p2
      have a0 := HH.out.ha.cell 0; have a1 := HH.out.ha.cell 1; have a2 := HH.out.ha.cell 2; have a3 := HH.out.ha.cell 3; have a4 := HH.out.ha.cell 4; have a5 := HH.out.ha.cell 5; have a6 := HH.out.ha.cell 6
      have g2 := HH.out.ha.free 2; have g3 := HH.out.ha.free 3; have g4 := HH.out.ha.free 4; have g5 := HH.out.ha.free 5; have g6 := HH.out.ha.free 6
      simp only [List.getElem?_toArray, List.getElem?_cons_zero, List.getElem?_cons_succ, List.setIfInBounds_toArray, List.set_cons_zero, List.set_cons_succ] at a0 a1 a2 a3 a4 a5 a6
      have r0 := HH.out.hr.cell 0; have r1 := HH.out.hr.cell 1; have r2 := HH.out.hr.cell 2; have r3 := HH.out.hr.cell 3; have r4 := HH.out.hr.cell 4; have r5 := HH.out.hr.cell 5; have r6 := HH.out.hr.cell 6; have r7 := HH.out.hr.cell 7
      have f0 := HH.out.hr.free 0; have f1 := HH.out.hr.free 1; have f2 := HH.out.hr.free 2; have f3 := HH.out.hr.free 3; have f4 := HH.out.hr.free 4; have f5 := HH.out.hr.free 5; have f6 := HH.out.hr.free 6; have f7 := HH.out.hr.free 7
      simp only [List.getElem?_toArray, List.getElem?_cons_zero, List.getElem?_cons_succ, List.setIfInBounds_toArray, List.set_cons_zero, List.set_cons_succ] at r0 r1 r2 r3 r4 r5 r6 r7
      clear HH
      go_wp2
      ((try simp only [Exit.inBlock, Exit.then]); refine bodyPost_ret (v := (.agg #[.int .i64 5, .int .i64 j, .string ⟨#[]⟩, .string ⟨#[]⟩, .int .i64 0, .int .i64 0, .int .i64 0, .bool true])) ?_ rfl ⟨?_, ?_⟩; (rw [results_cell1 rfl]; go_simp))
      · rfl
      · repeat (first | (with_reducible exact HBX.out) | refine below_set ?_ _ _ (by omega) _)
    · skip
      have es : d.toList.isEmpty = false := by rw [sempty, decide_eq_false hs]
      have hh : Pr.rd ⟨5, j, d⟩ = none := by rw [rd_5 j d hW, if_neg hs]
      rw [hh]
      clear hs
      have HW := Lib.hid (rwhole_walk 5 j d)
      rw [hW] at HW
      clear hW hh
      go_enter Tryd.func33, Tryd.ntmps33
      go_upto_region 2 with (fail)
      have H2 := Lib.hid (T3.new w #[.int .i64 5, .int .i64 j, .string d] #[.int .i64 0, .int .i64 0, .string ⟨#[]⟩, .string ⟨#[]⟩, .int .i64 0, .int .i64 0, .int .i64 0, .bool false] #[.int .i64 5, .int .i64 j, .string ⟨#[]⟩, .string ⟨#[]⟩, .int .i64 0, .int .i64 0, .int .i64 0] 42 78 76)
      have p0 := H2.out.hp.cell 0; have p1 := H2.out.hp.cell 1; have p2 := H2.out.hp.cell 2
      simp only [List.getElem?_toArray, List.getElem?_cons_zero, List.getElem?_cons_succ] at p0 p1 p2
      generalize ((w.alloc (.cells #[.int .i64 5, .int .i64 j, .string d] 42)).alloc (.cells #[.int .i64 0, .int .i64 0, .string ⟨#[]⟩, .string ⟨#[]⟩, .int .i64 0, .int .i64 0, .int .i64 0, .bool false] 78)).alloc (.cells #[.int .i64 5, .int .i64 j, .string ⟨#[]⟩, .string ⟨#[]⟩, .int .i64 0, .int .i64 0, .int .i64 0] 76) = w2 at *
      go_wp2_with fail
      (with_reducible refine (HW.out _).mono ?_)
      rintro e w3 ⟨rfl, hb⟩
      have HH := Lib.hid (H2.out.keep hb)
      clear p0 p1 p2 hb H2 HW
      have HBX := Lib.hid HH.out.hb
      have p0 := HH.out.hp.cell 0; have p1 := HH.out.hp.cell 1; have p2 := HH.out.hp.cell 2
      simp only [List.getElem?_toArray, List.getElem?_cons_zero, List.getElem?_cons_succ, List.setIfInBounds_toArray, List.set_cons_zero, List.set_cons_succ] at p0 p1 p2
      have a0 := HH.out.ha.cell 0; have a1 := HH.out.ha.cell 1; have a2 := HH.out.ha.cell 2; have a3 := HH.out.ha.cell 3; have a4 := HH.out.ha.cell 4; have a5 := HH.out.ha.cell 5; have a6 := HH.out.ha.cell 6
      have g2 := HH.out.ha.free 2; have g3 := HH.out.ha.free 3; have g4 := HH.out.ha.free 4; have g5 := HH.out.ha.free 5; have g6 := HH.out.ha.free 6
      simp only [List.getElem?_toArray, List.getElem?_cons_zero, List.getElem?_cons_succ, List.setIfInBounds_toArray, List.set_cons_zero, List.set_cons_succ] at a0 a1 a2 a3 a4 a5 a6
      have r0 := HH.out.hr.cell 0; have r1 := HH.out.hr.cell 1; have r2 := HH.out.hr.cell 2; have r3 := HH.out.hr.cell 3; have r4 := HH.out.hr.cell 4; have r5 := HH.out.hr.cell 5; have r6 := HH.out.hr.cell 6; have r7 := HH.out.hr.cell 7
      have f0 := HH.out.hr.free 0; have f1 := HH.out.hr.free 1; have f2 := HH.out.hr.free 2; have f3 := HH.out.hr.free 3; have f4 := HH.out.hr.free 4; have f5 := HH.out.hr.free 5; have f6 := HH.out.hr.free 6; have f7 := HH.out.hr.free 7
      simp only [List.getElem?_toArray, List.getElem?_cons_zero, List.getElem?_cons_succ, List.setIfInBounds_toArray, List.set_cons_zero, List.set_cons_succ] at r0 r1 r2 r3 r4 r5 r6 r7
      clear HH
      go_wp2
      ((try simp only [Exit.inBlock, Exit.then]); refine bodyPost_ret (v := (.agg #[.int .i64 0, .int .i64 0, .string ⟨#[]⟩, .string ⟨#[]⟩, .int .i64 0, .int .i64 0, .int .i64 0, .bool false])) ?_ rfl ⟨?_, ?_⟩; (rw [results_cell1 rfl]; go_simp))
      · rfl
      · repeat (first | (with_reducible exact HBX.out) | refine below_set ?_ _ _ (by omega) _)
set_option maxRecDepth 100000 in
set_option maxHeartbeats 1600000 in
theorem rread6 (j : Int) (d : ByteArray) (w : World) : Calls Tryd.prog 33 #[.agg #[.int .i64 6, .int .i64 j, .string d]] w fun e w' => e = .returned (askV (Pr.rd ⟨6, j, d⟩)) ∧ Below w.heap.size w w' := by
  cases hW : Pr.whole ⟨6, j, d⟩ with
  | false =>
    have hh : Pr.rd ⟨6, j, d⟩ = none := by rw [rd_w _ hW]
    rw [hh]
    have HW := Lib.hid (rwhole_walk 6 j d)
    rw [hW] at HW
    clear hW hh
    go_enter Tryd.func33, Tryd.ntmps33
    go_upto_region 2 with (fail)
    have H2 := Lib.hid (T3.new w #[.int .i64 6, .int .i64 j, .string d] #[.int .i64 0, .int .i64 0, .string ⟨#[]⟩, .string ⟨#[]⟩, .int .i64 0, .int .i64 0, .int .i64 0, .bool false] #[.int .i64 6, .int .i64 j, .string ⟨#[]⟩, .string ⟨#[]⟩, .int .i64 0, .int .i64 0, .int .i64 0] 42 78 76)
    have p0 := H2.out.hp.cell 0; have p1 := H2.out.hp.cell 1; have p2 := H2.out.hp.cell 2
    simp only [List.getElem?_toArray, List.getElem?_cons_zero, List.getElem?_cons_succ] at p0 p1 p2
    generalize ((w.alloc (.cells #[.int .i64 6, .int .i64 j, .string d] 42)).alloc (.cells #[.int .i64 0, .int .i64 0, .string ⟨#[]⟩, .string ⟨#[]⟩, .int .i64 0, .int .i64 0, .int .i64 0, .bool false] 78)).alloc (.cells #[.int .i64 6, .int .i64 j, .string ⟨#[]⟩, .string ⟨#[]⟩, .int .i64 0, .int .i64 0, .int .i64 0] 76) = w2 at *
    go_wp2_with fail
    (with_reducible refine (HW.out _).mono ?_)
    rintro e w3 ⟨rfl, hb⟩
    have HH := Lib.hid (H2.out.keep hb)
    clear p0 p1 p2 hb H2 HW
    have HBX := Lib.hid HH.out.hb
    have p0 := HH.out.hp.cell 0; have p1 := HH.out.hp.cell 1; have p2 := HH.out.hp.cell 2
    simp only [List.getElem?_toArray, List.getElem?_cons_zero, List.getElem?_cons_succ, List.setIfInBounds_toArray, List.set_cons_zero, List.set_cons_succ] at p0 p1 p2
    have a0 := HH.out.ha.cell 0; have a1 := HH.out.ha.cell 1; have a2 := HH.out.ha.cell 2; have a3 := HH.out.ha.cell 3; have a4 := HH.out.ha.cell 4; have a5 := HH.out.ha.cell 5; have a6 := HH.out.ha.cell 6
    have g2 := HH.out.ha.free 2; have g3 := HH.out.ha.free 3; have g4 := HH.out.ha.free 4; have g5 := HH.out.ha.free 5; have g6 := HH.out.ha.free 6
    simp only [List.getElem?_toArray, List.getElem?_cons_zero, List.getElem?_cons_succ, List.setIfInBounds_toArray, List.set_cons_zero, List.set_cons_succ] at a0 a1 a2 a3 a4 a5 a6
    have r0 := HH.out.hr.cell 0; have r1 := HH.out.hr.cell 1; have r2 := HH.out.hr.cell 2; have r3 := HH.out.hr.cell 3; have r4 := HH.out.hr.cell 4; have r5 := HH.out.hr.cell 5; have r6 := HH.out.hr.cell 6; have r7 := HH.out.hr.cell 7
    have f0 := HH.out.hr.free 0; have f1 := HH.out.hr.free 1; have f2 := HH.out.hr.free 2; have f3 := HH.out.hr.free 3; have f4 := HH.out.hr.free 4; have f5 := HH.out.hr.free 5; have f6 := HH.out.hr.free 6; have f7 := HH.out.hr.free 7
    simp only [List.getElem?_toArray, List.getElem?_cons_zero, List.getElem?_cons_succ, List.setIfInBounds_toArray, List.set_cons_zero, List.set_cons_succ] at r0 r1 r2 r3 r4 r5 r6 r7
    clear HH
    go_wp2
    ((try simp only [Exit.inBlock, Exit.then]); refine bodyPost_ret (v := (.agg #[.int .i64 0, .int .i64 0, .string ⟨#[]⟩, .string ⟨#[]⟩, .int .i64 0, .int .i64 0, .int .i64 0, .bool false])) ?_ rfl ⟨?_, ?_⟩; (rw [results_cell1 rfl]; go_simp))
    · rfl
    · repeat (first | (with_reducible exact HBX.out) | refine below_set ?_ _ _ (by omega) _)
  | true =>
    by_cases hs : d.size = 4
    · have e4 : ((d.size : Int) != 4) = false := by rw [hs]; rfl
      have HN := Lib.hid (fun w => refnumber_walk d w (by omega))
      have hrd := rd_6 j d hW
      rw [if_pos hs] at hrd
      generalize (Fr.num4 d.data.toList : Int) = n at *
      have hh : Pr.rd ⟨6, j, d⟩ = some ⟨6, j, Pr.e0, Pr.e0, 0, 0, n⟩ := by rw [hrd]
      rw [hh]
      clear hs hrd
      have HW := Lib.hid (rwhole_walk 6 j d)
      rw [hW] at HW
      clear hW hh
      go_enter Tryd.func33, Tryd.ntmps33
      go_upto_region 2 with (fail)
      have H2 := Lib.hid (T3.new w #[.int .i64 6, .int .i64 j, .string d] #[.int .i64 0, .int .i64 0, .string ⟨#[]⟩, .string ⟨#[]⟩, .int .i64 0, .int .i64 0, .int .i64 0, .bool false] #[.int .i64 6, .int .i64 j, .string ⟨#[]⟩, .string ⟨#[]⟩, .int .i64 0, .int .i64 0, .int .i64 0] 42 78 76)
      have p0 := H2.out.hp.cell 0; have p1 := H2.out.hp.cell 1; have p2 := H2.out.hp.cell 2
      simp only [List.getElem?_toArray, List.getElem?_cons_zero, List.getElem?_cons_succ] at p0 p1 p2
      generalize ((w.alloc (.cells #[.int .i64 6, .int .i64 j, .string d] 42)).alloc (.cells #[.int .i64 0, .int .i64 0, .string ⟨#[]⟩, .string ⟨#[]⟩, .int .i64 0, .int .i64 0, .int .i64 0, .bool false] 78)).alloc (.cells #[.int .i64 6, .int .i64 j, .string ⟨#[]⟩, .string ⟨#[]⟩, .int .i64 0, .int .i64 0, .int .i64 0] 76) = w2 at *
      go_wp2_with fail
      (with_reducible refine (HW.out _).mono ?_)
      rintro e w3 ⟨rfl, hb⟩
      have HH := Lib.hid (H2.out.keep hb)
      clear p0 p1 p2 hb H2 HW
      have p0 := HH.out.hp.cell 0; have p1 := HH.out.hp.cell 1; have p2 := HH.out.hp.cell 2
      simp only [List.getElem?_toArray, List.getElem?_cons_zero, List.getElem?_cons_succ, List.setIfInBounds_toArray, List.set_cons_zero, List.set_cons_succ] at p0 p1 p2
      go_wp2_with fail
      (with_reducible refine (HN.out _).mono ?_)
      rintro e w4 ⟨rfl, hb⟩
      have HH4 := Lib.hid (HH.out.keep hb)
      clear p0 p1 p2 hb HH HN
      have HH := HH4
      clear HH4
      have HBX := Lib.hid HH.out.hb
      have p0 := HH.out.hp.cell 0; have p1 := HH.out.hp.cell 1; have p2 := HH.out.hp.cell 2
      simp only [List.getElem?_toArray, List.getElem?_cons_zero, List.getElem?_cons_succ, List.setIfInBounds_toArray, List.set_cons_zero, List.set_cons_succ] at p0 p1 p2
      have a0 := HH.out.ha.cell 0; have a1 := HH.out.ha.cell 1; have a2 := HH.out.ha.cell 2; have a3 := HH.out.ha.cell 3; have a4 := HH.out.ha.cell 4; have a5 := HH.out.ha.cell 5; have a6 := HH.out.ha.cell 6
      have g2 := HH.out.ha.free 2; have g3 := HH.out.ha.free 3; have g4 := HH.out.ha.free 4; have g5 := HH.out.ha.free 5; have g6 := HH.out.ha.free 6
      simp only [List.getElem?_toArray, List.getElem?_cons_zero, List.getElem?_cons_succ, List.setIfInBounds_toArray, List.set_cons_zero, List.set_cons_succ] at a0 a1 a2 a3 a4 a5 a6
      have r0 := HH.out.hr.cell 0; have r1 := HH.out.hr.cell 1; have r2 := HH.out.hr.cell 2; have r3 := HH.out.hr.cell 3; have r4 := HH.out.hr.cell 4; have r5 := HH.out.hr.cell 5; have r6 := HH.out.hr.cell 6; have r7 := HH.out.hr.cell 7
      have f0 := HH.out.hr.free 0; have f1 := HH.out.hr.free 1; have f2 := HH.out.hr.free 2; have f3 := HH.out.hr.free 3; have f4 := HH.out.hr.free 4; have f5 := HH.out.hr.free 5; have f6 := HH.out.hr.free 6; have f7 := HH.out.hr.free 7
      simp only [List.getElem?_toArray, List.getElem?_cons_zero, List.getElem?_cons_succ, List.setIfInBounds_toArray, List.set_cons_zero, List.set_cons_succ] at r0 r1 r2 r3 r4 r5 r6 r7
      clear HH
      go_wp2
      ((try simp only [Exit.inBlock, Exit.then]); refine bodyPost_ret (v := (.agg #[.int .i64 6, .int .i64 j, .string ⟨#[]⟩, .string ⟨#[]⟩, .int .i64 0, .int .i64 0, .int .i64 n, .bool true])) ?_ rfl ⟨?_, ?_⟩; (rw [results_cell1 rfl]; go_simp))
      · rfl
      · repeat (first | (with_reducible exact HBX.out) | refine below_set ?_ _ _ (by omega) _)
    · have e4 : ((d.size : Int) != 4) = true := by simpa using (by omega : (d.size : Int) ≠ 4)
      have hh : Pr.rd ⟨6, j, d⟩ = none := by rw [rd_6 j d hW, if_neg hs]
      rw [hh]
      clear hs
      have HW := Lib.hid (rwhole_walk 6 j d)
      rw [hW] at HW
      clear hW hh
      go_enter Tryd.func33, Tryd.ntmps33
      go_upto_region 2 with (fail)
      have H2 := Lib.hid (T3.new w #[.int .i64 6, .int .i64 j, .string d] #[.int .i64 0, .int .i64 0, .string ⟨#[]⟩, .string ⟨#[]⟩, .int .i64 0, .int .i64 0, .int .i64 0, .bool false] #[.int .i64 6, .int .i64 j, .string ⟨#[]⟩, .string ⟨#[]⟩, .int .i64 0, .int .i64 0, .int .i64 0] 42 78 76)
      have p0 := H2.out.hp.cell 0; have p1 := H2.out.hp.cell 1; have p2 := H2.out.hp.cell 2
      simp only [List.getElem?_toArray, List.getElem?_cons_zero, List.getElem?_cons_succ] at p0 p1 p2
      generalize ((w.alloc (.cells #[.int .i64 6, .int .i64 j, .string d] 42)).alloc (.cells #[.int .i64 0, .int .i64 0, .string ⟨#[]⟩, .string ⟨#[]⟩, .int .i64 0, .int .i64 0, .int .i64 0, .bool false] 78)).alloc (.cells #[.int .i64 6, .int .i64 j, .string ⟨#[]⟩, .string ⟨#[]⟩, .int .i64 0, .int .i64 0, .int .i64 0] 76) = w2 at *
      go_wp2_with fail
      (with_reducible refine (HW.out _).mono ?_)
      rintro e w3 ⟨rfl, hb⟩
      have HH := Lib.hid (H2.out.keep hb)
      clear p0 p1 p2 hb H2 HW
      have HBX := Lib.hid HH.out.hb
      have p0 := HH.out.hp.cell 0; have p1 := HH.out.hp.cell 1; have p2 := HH.out.hp.cell 2
      simp only [List.getElem?_toArray, List.getElem?_cons_zero, List.getElem?_cons_succ, List.setIfInBounds_toArray, List.set_cons_zero, List.set_cons_succ] at p0 p1 p2
      have a0 := HH.out.ha.cell 0; have a1 := HH.out.ha.cell 1; have a2 := HH.out.ha.cell 2; have a3 := HH.out.ha.cell 3; have a4 := HH.out.ha.cell 4; have a5 := HH.out.ha.cell 5; have a6 := HH.out.ha.cell 6
      have g2 := HH.out.ha.free 2; have g3 := HH.out.ha.free 3; have g4 := HH.out.ha.free 4; have g5 := HH.out.ha.free 5; have g6 := HH.out.ha.free 6
      simp only [List.getElem?_toArray, List.getElem?_cons_zero, List.getElem?_cons_succ, List.setIfInBounds_toArray, List.set_cons_zero, List.set_cons_succ] at a0 a1 a2 a3 a4 a5 a6
      have r0 := HH.out.hr.cell 0; have r1 := HH.out.hr.cell 1; have r2 := HH.out.hr.cell 2; have r3 := HH.out.hr.cell 3; have r4 := HH.out.hr.cell 4; have r5 := HH.out.hr.cell 5; have r6 := HH.out.hr.cell 6; have r7 := HH.out.hr.cell 7
      have f0 := HH.out.hr.free 0; have f1 := HH.out.hr.free 1; have f2 := HH.out.hr.free 2; have f3 := HH.out.hr.free 3; have f4 := HH.out.hr.free 4; have f5 := HH.out.hr.free 5; have f6 := HH.out.hr.free 6; have f7 := HH.out.hr.free 7
      simp only [List.getElem?_toArray, List.getElem?_cons_zero, List.getElem?_cons_succ, List.setIfInBounds_toArray, List.set_cons_zero, List.set_cons_succ] at r0 r1 r2 r3 r4 r5 r6 r7
      clear HH
      go_wp2
      ((try simp only [Exit.inBlock, Exit.then]); refine bodyPost_ret (v := (.agg #[.int .i64 0, .int .i64 0, .string ⟨#[]⟩, .string ⟨#[]⟩, .int .i64 0, .int .i64 0, .int .i64 0, .bool false])) ?_ rfl ⟨?_, ?_⟩; (rw [results_cell1 rfl]; go_simp))
      · rfl
      · repeat (first | (with_reducible exact HBX.out) | refine below_set ?_ _ _ (by omega) _)
set_option maxRecDepth 100000 in
set_option maxHeartbeats 1600000 in
theorem rread7 (j : Int) (d : ByteArray) (w : World) : Calls Tryd.prog 33 #[.agg #[.int .i64 7, .int .i64 j, .string d]] w fun e w' => e = .returned (askV (Pr.rd ⟨7, j, d⟩)) ∧ Below w.heap.size w w' := by
  cases hW : Pr.whole ⟨7, j, d⟩ with
  | false =>
    have hh : Pr.rd ⟨7, j, d⟩ = none := by rw [rd_w _ hW]
    rw [hh]
    have HW := Lib.hid (rwhole_walk 7 j d)
    rw [hW] at HW
    clear hW hh
    go_enter Tryd.func33, Tryd.ntmps33
    go_upto_region 2 with (fail)
    have H2 := Lib.hid (T3.new w #[.int .i64 7, .int .i64 j, .string d] #[.int .i64 0, .int .i64 0, .string ⟨#[]⟩, .string ⟨#[]⟩, .int .i64 0, .int .i64 0, .int .i64 0, .bool false] #[.int .i64 7, .int .i64 j, .string ⟨#[]⟩, .string ⟨#[]⟩, .int .i64 0, .int .i64 0, .int .i64 0] 42 78 76)
    have p0 := H2.out.hp.cell 0; have p1 := H2.out.hp.cell 1; have p2 := H2.out.hp.cell 2
    simp only [List.getElem?_toArray, List.getElem?_cons_zero, List.getElem?_cons_succ] at p0 p1 p2
    generalize ((w.alloc (.cells #[.int .i64 7, .int .i64 j, .string d] 42)).alloc (.cells #[.int .i64 0, .int .i64 0, .string ⟨#[]⟩, .string ⟨#[]⟩, .int .i64 0, .int .i64 0, .int .i64 0, .bool false] 78)).alloc (.cells #[.int .i64 7, .int .i64 j, .string ⟨#[]⟩, .string ⟨#[]⟩, .int .i64 0, .int .i64 0, .int .i64 0] 76) = w2 at *
    go_wp2_with fail
    (with_reducible refine (HW.out _).mono ?_)
    rintro e w3 ⟨rfl, hb⟩
    have HH := Lib.hid (H2.out.keep hb)
    clear p0 p1 p2 hb H2 HW
    have HBX := Lib.hid HH.out.hb
    have p0 := HH.out.hp.cell 0; have p1 := HH.out.hp.cell 1; have p2 := HH.out.hp.cell 2
    simp only [List.getElem?_toArray, List.getElem?_cons_zero, List.getElem?_cons_succ, List.setIfInBounds_toArray, List.set_cons_zero, List.set_cons_succ] at p0 p1 p2
    have a0 := HH.out.ha.cell 0; have a1 := HH.out.ha.cell 1; have a2 := HH.out.ha.cell 2; have a3 := HH.out.ha.cell 3; have a4 := HH.out.ha.cell 4; have a5 := HH.out.ha.cell 5; have a6 := HH.out.ha.cell 6
    have g2 := HH.out.ha.free 2; have g3 := HH.out.ha.free 3; have g4 := HH.out.ha.free 4; have g5 := HH.out.ha.free 5; have g6 := HH.out.ha.free 6
    simp only [List.getElem?_toArray, List.getElem?_cons_zero, List.getElem?_cons_succ, List.setIfInBounds_toArray, List.set_cons_zero, List.set_cons_succ] at a0 a1 a2 a3 a4 a5 a6
    have r0 := HH.out.hr.cell 0; have r1 := HH.out.hr.cell 1; have r2 := HH.out.hr.cell 2; have r3 := HH.out.hr.cell 3; have r4 := HH.out.hr.cell 4; have r5 := HH.out.hr.cell 5; have r6 := HH.out.hr.cell 6; have r7 := HH.out.hr.cell 7
    have f0 := HH.out.hr.free 0; have f1 := HH.out.hr.free 1; have f2 := HH.out.hr.free 2; have f3 := HH.out.hr.free 3; have f4 := HH.out.hr.free 4; have f5 := HH.out.hr.free 5; have f6 := HH.out.hr.free 6; have f7 := HH.out.hr.free 7
    simp only [List.getElem?_toArray, List.getElem?_cons_zero, List.getElem?_cons_succ, List.setIfInBounds_toArray, List.set_cons_zero, List.set_cons_succ] at r0 r1 r2 r3 r4 r5 r6 r7
    clear HH
    go_wp2
    ((try simp only [Exit.inBlock, Exit.then]); refine bodyPost_ret (v := (.agg #[.int .i64 0, .int .i64 0, .string ⟨#[]⟩, .string ⟨#[]⟩, .int .i64 0, .int .i64 0, .int .i64 0, .bool false])) ?_ rfl ⟨?_, ?_⟩; (rw [results_cell1 rfl]; go_simp))
    · rfl
    · repeat (first | (with_reducible exact HBX.out) | refine below_set ?_ _ _ (by omega) _)
  | true =>
    by_cases hj : j = 0
    · by_cases hs : d.size = 0
      · skip
        have ej : (j == 0) = true := by rw [hj]; rfl
        have ej' : (j != 0) = false := by rw [hj]; rfl
        have es : d.toList.isEmpty = true := by rw [sempty, decide_eq_true hs]
        have hh : Pr.rd ⟨7, j, d⟩ = some ⟨7, j, Pr.e0, Pr.e0, 0, 0, 0⟩ := by rw [rd_7 j d hW, if_pos ⟨hj, hs⟩]
        rw [hh]
        clear hj hs
        have HW := Lib.hid (rwhole_walk 7 j d)
        rw [hW] at HW
        clear hW hh
        go_enter Tryd.func33, Tryd.ntmps33
        go_upto_region 2 with (fail)
        have H2 := Lib.hid (T3.new w #[.int .i64 7, .int .i64 j, .string d] #[.int .i64 0, .int .i64 0, .string ⟨#[]⟩, .string ⟨#[]⟩, .int .i64 0, .int .i64 0, .int .i64 0, .bool false] #[.int .i64 7, .int .i64 j, .string ⟨#[]⟩, .string ⟨#[]⟩, .int .i64 0, .int .i64 0, .int .i64 0] 42 78 76)
        have p0 := H2.out.hp.cell 0; have p1 := H2.out.hp.cell 1; have p2 := H2.out.hp.cell 2
        simp only [List.getElem?_toArray, List.getElem?_cons_zero, List.getElem?_cons_succ] at p0 p1 p2
        generalize ((w.alloc (.cells #[.int .i64 7, .int .i64 j, .string d] 42)).alloc (.cells #[.int .i64 0, .int .i64 0, .string ⟨#[]⟩, .string ⟨#[]⟩, .int .i64 0, .int .i64 0, .int .i64 0, .bool false] 78)).alloc (.cells #[.int .i64 7, .int .i64 j, .string ⟨#[]⟩, .string ⟨#[]⟩, .int .i64 0, .int .i64 0, .int .i64 0] 76) = w2 at *
        go_wp2_with fail
        (with_reducible refine (HW.out _).mono ?_)
        rintro e w3 ⟨rfl, hb⟩
        have HH := Lib.hid (H2.out.keep hb)
        clear p0 p1 p2 hb H2 HW
        have HBX := Lib.hid HH.out.hb
        have p0 := HH.out.hp.cell 0; have p1 := HH.out.hp.cell 1; have p2 := HH.out.hp.cell 2
        simp only [List.getElem?_toArray, List.getElem?_cons_zero, List.getElem?_cons_succ, List.setIfInBounds_toArray, List.set_cons_zero, List.set_cons_succ] at p0 p1 p2
        have a0 := HH.out.ha.cell 0; have a1 := HH.out.ha.cell 1; have a2 := HH.out.ha.cell 2; have a3 := HH.out.ha.cell 3; have a4 := HH.out.ha.cell 4; have a5 := HH.out.ha.cell 5; have a6 := HH.out.ha.cell 6
        have g2 := HH.out.ha.free 2; have g3 := HH.out.ha.free 3; have g4 := HH.out.ha.free 4; have g5 := HH.out.ha.free 5; have g6 := HH.out.ha.free 6
        simp only [List.getElem?_toArray, List.getElem?_cons_zero, List.getElem?_cons_succ, List.setIfInBounds_toArray, List.set_cons_zero, List.set_cons_succ] at a0 a1 a2 a3 a4 a5 a6
        have r0 := HH.out.hr.cell 0; have r1 := HH.out.hr.cell 1; have r2 := HH.out.hr.cell 2; have r3 := HH.out.hr.cell 3; have r4 := HH.out.hr.cell 4; have r5 := HH.out.hr.cell 5; have r6 := HH.out.hr.cell 6; have r7 := HH.out.hr.cell 7
        have f0 := HH.out.hr.free 0; have f1 := HH.out.hr.free 1; have f2 := HH.out.hr.free 2; have f3 := HH.out.hr.free 3; have f4 := HH.out.hr.free 4; have f5 := HH.out.hr.free 5; have f6 := HH.out.hr.free 6; have f7 := HH.out.hr.free 7
        simp only [List.getElem?_toArray, List.getElem?_cons_zero, List.getElem?_cons_succ, List.setIfInBounds_toArray, List.set_cons_zero, List.set_cons_succ] at r0 r1 r2 r3 r4 r5 r6 r7
        clear HH
        go_wp2
        ((try simp only [Exit.inBlock, Exit.then]); refine bodyPost_ret (v := (.agg #[.int .i64 7, .int .i64 j, .string ⟨#[]⟩, .string ⟨#[]⟩, .int .i64 0, .int .i64 0, .int .i64 0, .bool true])) ?_ rfl ⟨?_, ?_⟩; (rw [results_cell1 rfl]; go_simp))
        · rfl
        · repeat (first | (with_reducible exact HBX.out) | refine below_set ?_ _ _ (by omega) _)
      · skip
        have ej : (j == 0) = true := by rw [hj]; rfl
        have ej' : (j != 0) = false := by rw [hj]; rfl
        have es : d.toList.isEmpty = false := by rw [sempty, decide_eq_false hs]
        have hh : Pr.rd ⟨7, j, d⟩ = none := by rw [rd_7 j d hW, if_neg (fun x => hs x.2)]
        rw [hh]
        clear hj hs
        have HW := Lib.hid (rwhole_walk 7 j d)
        rw [hW] at HW
        clear hW hh
        go_enter Tryd.func33, Tryd.ntmps33
        go_upto_region 2 with (fail)
        have H2 := Lib.hid (T3.new w #[.int .i64 7, .int .i64 j, .string d] #[.int .i64 0, .int .i64 0, .string ⟨#[]⟩, .string ⟨#[]⟩, .int .i64 0, .int .i64 0, .int .i64 0, .bool false] #[.int .i64 7, .int .i64 j, .string ⟨#[]⟩, .string ⟨#[]⟩, .int .i64 0, .int .i64 0, .int .i64 0] 42 78 76)
        have p0 := H2.out.hp.cell 0; have p1 := H2.out.hp.cell 1; have p2 := H2.out.hp.cell 2
        simp only [List.getElem?_toArray, List.getElem?_cons_zero, List.getElem?_cons_succ] at p0 p1 p2
        generalize ((w.alloc (.cells #[.int .i64 7, .int .i64 j, .string d] 42)).alloc (.cells #[.int .i64 0, .int .i64 0, .string ⟨#[]⟩, .string ⟨#[]⟩, .int .i64 0, .int .i64 0, .int .i64 0, .bool false] 78)).alloc (.cells #[.int .i64 7, .int .i64 j, .string ⟨#[]⟩, .string ⟨#[]⟩, .int .i64 0, .int .i64 0, .int .i64 0] 76) = w2 at *
        go_wp2_with fail
        (with_reducible refine (HW.out _).mono ?_)
        rintro e w3 ⟨rfl, hb⟩
        have HH := Lib.hid (H2.out.keep hb)
        clear p0 p1 p2 hb H2 HW
        have HBX := Lib.hid HH.out.hb
        have p0 := HH.out.hp.cell 0; have p1 := HH.out.hp.cell 1; have p2 := HH.out.hp.cell 2
        simp only [List.getElem?_toArray, List.getElem?_cons_zero, List.getElem?_cons_succ, List.setIfInBounds_toArray, List.set_cons_zero, List.set_cons_succ] at p0 p1 p2
        have a0 := HH.out.ha.cell 0; have a1 := HH.out.ha.cell 1; have a2 := HH.out.ha.cell 2; have a3 := HH.out.ha.cell 3; have a4 := HH.out.ha.cell 4; have a5 := HH.out.ha.cell 5; have a6 := HH.out.ha.cell 6
        have g2 := HH.out.ha.free 2; have g3 := HH.out.ha.free 3; have g4 := HH.out.ha.free 4; have g5 := HH.out.ha.free 5; have g6 := HH.out.ha.free 6
        simp only [List.getElem?_toArray, List.getElem?_cons_zero, List.getElem?_cons_succ, List.setIfInBounds_toArray, List.set_cons_zero, List.set_cons_succ] at a0 a1 a2 a3 a4 a5 a6
        have r0 := HH.out.hr.cell 0; have r1 := HH.out.hr.cell 1; have r2 := HH.out.hr.cell 2; have r3 := HH.out.hr.cell 3; have r4 := HH.out.hr.cell 4; have r5 := HH.out.hr.cell 5; have r6 := HH.out.hr.cell 6; have r7 := HH.out.hr.cell 7
        have f0 := HH.out.hr.free 0; have f1 := HH.out.hr.free 1; have f2 := HH.out.hr.free 2; have f3 := HH.out.hr.free 3; have f4 := HH.out.hr.free 4; have f5 := HH.out.hr.free 5; have f6 := HH.out.hr.free 6; have f7 := HH.out.hr.free 7
        simp only [List.getElem?_toArray, List.getElem?_cons_zero, List.getElem?_cons_succ, List.setIfInBounds_toArray, List.set_cons_zero, List.set_cons_succ] at r0 r1 r2 r3 r4 r5 r6 r7
        clear HH
        go_wp2
        ((try simp only [Exit.inBlock, Exit.then]); refine bodyPost_ret (v := (.agg #[.int .i64 0, .int .i64 0, .string ⟨#[]⟩, .string ⟨#[]⟩, .int .i64 0, .int .i64 0, .int .i64 0, .bool false])) ?_ rfl ⟨?_, ?_⟩; (rw [results_cell1 rfl]; go_simp))
        · rfl
        · repeat (first | (with_reducible exact HBX.out) | refine below_set ?_ _ _ (by omega) _)
    · by_cases hs : d.size = 0
      · skip
        have ej : (j == 0) = false := by simpa using hj
        have ej' : (j != 0) = true := by simpa using hj
        have es : d.toList.isEmpty = true := by rw [sempty, decide_eq_true hs]
        have hh : Pr.rd ⟨7, j, d⟩ = none := by rw [rd_7 j d hW, if_neg (fun x => hj x.1)]
        rw [hh]
        clear hj hs
        have HW := Lib.hid (rwhole_walk 7 j d)
        rw [hW] at HW
        clear hW hh
        go_enter Tryd.func33, Tryd.ntmps33
        go_upto_region 2 with (fail)
        have H2 := Lib.hid (T3.new w #[.int .i64 7, .int .i64 j, .string d] #[.int .i64 0, .int .i64 0, .string ⟨#[]⟩, .string ⟨#[]⟩, .int .i64 0, .int .i64 0, .int .i64 0, .bool false] #[.int .i64 7, .int .i64 j, .string ⟨#[]⟩, .string ⟨#[]⟩, .int .i64 0, .int .i64 0, .int .i64 0] 42 78 76)
        have p0 := H2.out.hp.cell 0; have p1 := H2.out.hp.cell 1; have p2 := H2.out.hp.cell 2
        simp only [List.getElem?_toArray, List.getElem?_cons_zero, List.getElem?_cons_succ] at p0 p1 p2
        generalize ((w.alloc (.cells #[.int .i64 7, .int .i64 j, .string d] 42)).alloc (.cells #[.int .i64 0, .int .i64 0, .string ⟨#[]⟩, .string ⟨#[]⟩, .int .i64 0, .int .i64 0, .int .i64 0, .bool false] 78)).alloc (.cells #[.int .i64 7, .int .i64 j, .string ⟨#[]⟩, .string ⟨#[]⟩, .int .i64 0, .int .i64 0, .int .i64 0] 76) = w2 at *
        go_wp2_with fail
        (with_reducible refine (HW.out _).mono ?_)
        rintro e w3 ⟨rfl, hb⟩
        have HH := Lib.hid (H2.out.keep hb)
        clear p0 p1 p2 hb H2 HW
        have HBX := Lib.hid HH.out.hb
        have p0 := HH.out.hp.cell 0; have p1 := HH.out.hp.cell 1; have p2 := HH.out.hp.cell 2
        simp only [List.getElem?_toArray, List.getElem?_cons_zero, List.getElem?_cons_succ, List.setIfInBounds_toArray, List.set_cons_zero, List.set_cons_succ] at p0 p1 p2
        have a0 := HH.out.ha.cell 0; have a1 := HH.out.ha.cell 1; have a2 := HH.out.ha.cell 2; have a3 := HH.out.ha.cell 3; have a4 := HH.out.ha.cell 4; have a5 := HH.out.ha.cell 5; have a6 := HH.out.ha.cell 6
        have g2 := HH.out.ha.free 2; have g3 := HH.out.ha.free 3; have g4 := HH.out.ha.free 4; have g5 := HH.out.ha.free 5; have g6 := HH.out.ha.free 6
        simp only [List.getElem?_toArray, List.getElem?_cons_zero, List.getElem?_cons_succ, List.setIfInBounds_toArray, List.set_cons_zero, List.set_cons_succ] at a0 a1 a2 a3 a4 a5 a6
        have r0 := HH.out.hr.cell 0; have r1 := HH.out.hr.cell 1; have r2 := HH.out.hr.cell 2; have r3 := HH.out.hr.cell 3; have r4 := HH.out.hr.cell 4; have r5 := HH.out.hr.cell 5; have r6 := HH.out.hr.cell 6; have r7 := HH.out.hr.cell 7
        have f0 := HH.out.hr.free 0; have f1 := HH.out.hr.free 1; have f2 := HH.out.hr.free 2; have f3 := HH.out.hr.free 3; have f4 := HH.out.hr.free 4; have f5 := HH.out.hr.free 5; have f6 := HH.out.hr.free 6; have f7 := HH.out.hr.free 7
        simp only [List.getElem?_toArray, List.getElem?_cons_zero, List.getElem?_cons_succ, List.setIfInBounds_toArray, List.set_cons_zero, List.set_cons_succ] at r0 r1 r2 r3 r4 r5 r6 r7
        clear HH
        go_wp2
        ((try simp only [Exit.inBlock, Exit.then]); refine bodyPost_ret (v := (.agg #[.int .i64 0, .int .i64 0, .string ⟨#[]⟩, .string ⟨#[]⟩, .int .i64 0, .int .i64 0, .int .i64 0, .bool false])) ?_ rfl ⟨?_, ?_⟩; (rw [results_cell1 rfl]; go_simp))
        · rfl
        · repeat (first | (with_reducible exact HBX.out) | refine below_set ?_ _ _ (by omega) _)
      · skip
        have ej : (j == 0) = false := by simpa using hj
        have ej' : (j != 0) = true := by simpa using hj
        have es : d.toList.isEmpty = false := by rw [sempty, decide_eq_false hs]
        have hh : Pr.rd ⟨7, j, d⟩ = none := by rw [rd_7 j d hW, if_neg (fun x => hj x.1)]
        rw [hh]
        clear hj hs
        have HW := Lib.hid (rwhole_walk 7 j d)
        rw [hW] at HW
        clear hW hh
        go_enter Tryd.func33, Tryd.ntmps33
        go_upto_region 2 with (fail)
        have H2 := Lib.hid (T3.new w #[.int .i64 7, .int .i64 j, .string d] #[.int .i64 0, .int .i64 0, .string ⟨#[]⟩, .string ⟨#[]⟩, .int .i64 0, .int .i64 0, .int .i64 0, .bool false] #[.int .i64 7, .int .i64 j, .string ⟨#[]⟩, .string ⟨#[]⟩, .int .i64 0, .int .i64 0, .int .i64 0] 42 78 76)
        have p0 := H2.out.hp.cell 0; have p1 := H2.out.hp.cell 1; have p2 := H2.out.hp.cell 2
        simp only [List.getElem?_toArray, List.getElem?_cons_zero, List.getElem?_cons_succ] at p0 p1 p2
        generalize ((w.alloc (.cells #[.int .i64 7, .int .i64 j, .string d] 42)).alloc (.cells #[.int .i64 0, .int .i64 0, .string ⟨#[]⟩, .string ⟨#[]⟩, .int .i64 0, .int .i64 0, .int .i64 0, .bool false] 78)).alloc (.cells #[.int .i64 7, .int .i64 j, .string ⟨#[]⟩, .string ⟨#[]⟩, .int .i64 0, .int .i64 0, .int .i64 0] 76) = w2 at *
        go_wp2_with fail
        (with_reducible refine (HW.out _).mono ?_)
        rintro e w3 ⟨rfl, hb⟩
        have HH := Lib.hid (H2.out.keep hb)
        clear p0 p1 p2 hb H2 HW
        have HBX := Lib.hid HH.out.hb
        have p0 := HH.out.hp.cell 0; have p1 := HH.out.hp.cell 1; have p2 := HH.out.hp.cell 2
        simp only [List.getElem?_toArray, List.getElem?_cons_zero, List.getElem?_cons_succ, List.setIfInBounds_toArray, List.set_cons_zero, List.set_cons_succ] at p0 p1 p2
        have a0 := HH.out.ha.cell 0; have a1 := HH.out.ha.cell 1; have a2 := HH.out.ha.cell 2; have a3 := HH.out.ha.cell 3; have a4 := HH.out.ha.cell 4; have a5 := HH.out.ha.cell 5; have a6 := HH.out.ha.cell 6
        have g2 := HH.out.ha.free 2; have g3 := HH.out.ha.free 3; have g4 := HH.out.ha.free 4; have g5 := HH.out.ha.free 5; have g6 := HH.out.ha.free 6
        simp only [List.getElem?_toArray, List.getElem?_cons_zero, List.getElem?_cons_succ, List.setIfInBounds_toArray, List.set_cons_zero, List.set_cons_succ] at a0 a1 a2 a3 a4 a5 a6
        have r0 := HH.out.hr.cell 0; have r1 := HH.out.hr.cell 1; have r2 := HH.out.hr.cell 2; have r3 := HH.out.hr.cell 3; have r4 := HH.out.hr.cell 4; have r5 := HH.out.hr.cell 5; have r6 := HH.out.hr.cell 6; have r7 := HH.out.hr.cell 7
        have f0 := HH.out.hr.free 0; have f1 := HH.out.hr.free 1; have f2 := HH.out.hr.free 2; have f3 := HH.out.hr.free 3; have f4 := HH.out.hr.free 4; have f5 := HH.out.hr.free 5; have f6 := HH.out.hr.free 6; have f7 := HH.out.hr.free 7
        simp only [List.getElem?_toArray, List.getElem?_cons_zero, List.getElem?_cons_succ, List.setIfInBounds_toArray, List.set_cons_zero, List.set_cons_succ] at r0 r1 r2 r3 r4 r5 r6 r7
        clear HH
        go_wp2
        ((try simp only [Exit.inBlock, Exit.then]); refine bodyPost_ret (v := (.agg #[.int .i64 0, .int .i64 0, .string ⟨#[]⟩, .string ⟨#[]⟩, .int .i64 0, .int .i64 0, .int .i64 0, .bool false])) ?_ rfl ⟨?_, ?_⟩; (rw [results_cell1 rfl]; go_simp))
        · rfl
        · repeat (first | (with_reducible exact HBX.out) | refine below_set ?_ _ _ (by omega) _)
set_option maxRecDepth 100000 in
set_option maxHeartbeats 1600000 in
theorem rreadx (t j : Int) (d : ByteArray) (w : World) (h1 : t ≠ 1) (h2 : t ≠ 2) (h3 : t ≠ 3) (h4 : t ≠ 4) (h5 : t ≠ 5) (h6 : t ≠ 6) (h7 : t ≠ 7) : Calls Tryd.prog 33 #[.agg #[.int .i64 t, .int .i64 j, .string d]] w fun e w' => e = .returned (askV (Pr.rd ⟨t, j, d⟩)) ∧ Below w.heap.size w w' := by
  have e1 : (t == 1) = false := by simpa using h1
  have e2 : (t == 2) = false := by simpa using h2
  have e3 : (t == 3) = false := by simpa using h3
  have e4 : (t == 4) = false := by simpa using h4
  have e5 : (t == 5) = false := by simpa using h5
  have e6 : (t == 6) = false := by simpa using h6
  have e7 : (t == 7) = false := by simpa using h7
  have hlo : decide (t < 1) = true ∨ (decide (t < 1) = false ∧ decide (7 < t) = true) := by
    by_cases h : t < 1
    · exact .inl (decide_eq_true h)
    · exact .inr ⟨decide_eq_false h, decide_eq_true (by omega)⟩
  have hrd := rd_x t j d h1 h2 h3 h4 h5 h6 h7
  clear h1 h2 h3 h4 h5 h6 h7
  cases hW : Pr.whole ⟨t, j, d⟩ with
  | false =>
    rcases hlo with hlo | ⟨hlo, hhi⟩
    · skip
      have hh : Pr.rd ⟨t, j, d⟩ = none := by rw [hrd]
      rw [hh]
      clear hrd
      have HW := Lib.hid (rwhole_walk t j d)
      rw [hW] at HW
      clear hW hh
      go_enter Tryd.func33, Tryd.ntmps33
      go_upto_region 2 with (fail)
      have H2 := Lib.hid (T3.new w #[.int .i64 t, .int .i64 j, .string d] #[.int .i64 0, .int .i64 0, .string ⟨#[]⟩, .string ⟨#[]⟩, .int .i64 0, .int .i64 0, .int .i64 0, .bool false] #[.int .i64 t, .int .i64 j, .string ⟨#[]⟩, .string ⟨#[]⟩, .int .i64 0, .int .i64 0, .int .i64 0] 42 78 76)
      have p0 := H2.out.hp.cell 0; have p1 := H2.out.hp.cell 1; have p2 := H2.out.hp.cell 2
      simp only [List.getElem?_toArray, List.getElem?_cons_zero, List.getElem?_cons_succ] at p0 p1 p2
      generalize ((w.alloc (.cells #[.int .i64 t, .int .i64 j, .string d] 42)).alloc (.cells #[.int .i64 0, .int .i64 0, .string ⟨#[]⟩, .string ⟨#[]⟩, .int .i64 0, .int .i64 0, .int .i64 0, .bool false] 78)).alloc (.cells #[.int .i64 t, .int .i64 j, .string ⟨#[]⟩, .string ⟨#[]⟩, .int .i64 0, .int .i64 0, .int .i64 0] 76) = w2 at *
      go_wp2_with fail
      (with_reducible refine (HW.out _).mono ?_)
      rintro e w3 ⟨rfl, hb⟩
      have HH := Lib.hid (H2.out.keep hb)
      clear p0 p1 p2 hb H2 HW
      have HBX := Lib.hid HH.out.hb
      have p0 := HH.out.hp.cell 0; have p1 := HH.out.hp.cell 1; have p2 := HH.out.hp.cell 2
      simp only [List.getElem?_toArray, List.getElem?_cons_zero, List.getElem?_cons_succ, List.setIfInBounds_toArray, List.set_cons_zero, List.set_cons_succ] at p0 p1 p2
      have a0 := HH.out.ha.cell 0; have a1 := HH.out.ha.cell 1; have a2 := HH.out.ha.cell 2; have a3 := HH.out.ha.cell 3; have a4 := HH.out.ha.cell 4; have a5 := HH.out.ha.cell 5; have a6 := HH.out.ha.cell 6
      have g2 := HH.out.ha.free 2; have g3 := HH.out.ha.free 3; have g4 := HH.out.ha.free 4; have g5 := HH.out.ha.free 5; have g6 := HH.out.ha.free 6
      simp only [List.getElem?_toArray, List.getElem?_cons_zero, List.getElem?_cons_succ, List.setIfInBounds_toArray, List.set_cons_zero, List.set_cons_succ] at a0 a1 a2 a3 a4 a5 a6
      have r0 := HH.out.hr.cell 0; have r1 := HH.out.hr.cell 1; have r2 := HH.out.hr.cell 2; have r3 := HH.out.hr.cell 3; have r4 := HH.out.hr.cell 4; have r5 := HH.out.hr.cell 5; have r6 := HH.out.hr.cell 6; have r7 := HH.out.hr.cell 7
      have f0 := HH.out.hr.free 0; have f1 := HH.out.hr.free 1; have f2 := HH.out.hr.free 2; have f3 := HH.out.hr.free 3; have f4 := HH.out.hr.free 4; have f5 := HH.out.hr.free 5; have f6 := HH.out.hr.free 6; have f7 := HH.out.hr.free 7
      simp only [List.getElem?_toArray, List.getElem?_cons_zero, List.getElem?_cons_succ, List.setIfInBounds_toArray, List.set_cons_zero, List.set_cons_succ] at r0 r1 r2 r3 r4 r5 r6 r7
      clear HH
      go_wp2
      ((try simp only [Exit.inBlock, Exit.then]); refine bodyPost_ret (v := (.agg #[.int .i64 0, .int .i64 0, .string ⟨#[]⟩, .string ⟨#[]⟩, .int .i64 0, .int .i64 0, .int .i64 0, .bool false])) ?_ rfl ⟨?_, ?_⟩; (rw [results_cell1 rfl]; go_simp))
      · rfl
      · repeat (first | (with_reducible exact HBX.out) | refine below_set ?_ _ _ (by omega) _)
    · skip
      have hh : Pr.rd ⟨t, j, d⟩ = none := by rw [hrd]
      rw [hh]
      clear hrd
      have HW := Lib.hid (rwhole_walk t j d)
      rw [hW] at HW
      clear hW hh
      go_enter Tryd.func33, Tryd.ntmps33
      go_upto_region 2 with (fail)
      have H2 := Lib.hid (T3.new w #[.int .i64 t, .int .i64 j, .string d] #[.int .i64 0, .int .i64 0, .string ⟨#[]⟩, .string ⟨#[]⟩, .int .i64 0, .int .i64 0, .int .i64 0, .bool false] #[.int .i64 t, .int .i64 j, .string ⟨#[]⟩, .string ⟨#[]⟩, .int .i64 0, .int .i64 0, .int .i64 0] 42 78 76)
      have p0 := H2.out.hp.cell 0; have p1 := H2.out.hp.cell 1; have p2 := H2.out.hp.cell 2
      simp only [List.getElem?_toArray, List.getElem?_cons_zero, List.getElem?_cons_succ] at p0 p1 p2
      generalize ((w.alloc (.cells #[.int .i64 t, .int .i64 j, .string d] 42)).alloc (.cells #[.int .i64 0, .int .i64 0, .string ⟨#[]⟩, .string ⟨#[]⟩, .int .i64 0, .int .i64 0, .int .i64 0, .bool false] 78)).alloc (.cells #[.int .i64 t, .int .i64 j, .string ⟨#[]⟩, .string ⟨#[]⟩, .int .i64 0, .int .i64 0, .int .i64 0] 76) = w2 at *
      go_wp2_with fail
      (with_reducible refine (HW.out _).mono ?_)
      rintro e w3 ⟨rfl, hb⟩
      have HH := Lib.hid (H2.out.keep hb)
      clear p0 p1 p2 hb H2 HW
      have HBX := Lib.hid HH.out.hb
      have p0 := HH.out.hp.cell 0; have p1 := HH.out.hp.cell 1; have p2 := HH.out.hp.cell 2
      simp only [List.getElem?_toArray, List.getElem?_cons_zero, List.getElem?_cons_succ, List.setIfInBounds_toArray, List.set_cons_zero, List.set_cons_succ] at p0 p1 p2
      have a0 := HH.out.ha.cell 0; have a1 := HH.out.ha.cell 1; have a2 := HH.out.ha.cell 2; have a3 := HH.out.ha.cell 3; have a4 := HH.out.ha.cell 4; have a5 := HH.out.ha.cell 5; have a6 := HH.out.ha.cell 6
      have g2 := HH.out.ha.free 2; have g3 := HH.out.ha.free 3; have g4 := HH.out.ha.free 4; have g5 := HH.out.ha.free 5; have g6 := HH.out.ha.free 6
      simp only [List.getElem?_toArray, List.getElem?_cons_zero, List.getElem?_cons_succ, List.setIfInBounds_toArray, List.set_cons_zero, List.set_cons_succ] at a0 a1 a2 a3 a4 a5 a6
      have r0 := HH.out.hr.cell 0; have r1 := HH.out.hr.cell 1; have r2 := HH.out.hr.cell 2; have r3 := HH.out.hr.cell 3; have r4 := HH.out.hr.cell 4; have r5 := HH.out.hr.cell 5; have r6 := HH.out.hr.cell 6; have r7 := HH.out.hr.cell 7
      have f0 := HH.out.hr.free 0; have f1 := HH.out.hr.free 1; have f2 := HH.out.hr.free 2; have f3 := HH.out.hr.free 3; have f4 := HH.out.hr.free 4; have f5 := HH.out.hr.free 5; have f6 := HH.out.hr.free 6; have f7 := HH.out.hr.free 7
      simp only [List.getElem?_toArray, List.getElem?_cons_zero, List.getElem?_cons_succ, List.setIfInBounds_toArray, List.set_cons_zero, List.set_cons_succ] at r0 r1 r2 r3 r4 r5 r6 r7
      clear HH
      go_wp2
      ((try simp only [Exit.inBlock, Exit.then]); refine bodyPost_ret (v := (.agg #[.int .i64 0, .int .i64 0, .string ⟨#[]⟩, .string ⟨#[]⟩, .int .i64 0, .int .i64 0, .int .i64 0, .bool false])) ?_ rfl ⟨?_, ?_⟩; (rw [results_cell1 rfl]; go_simp))
      · rfl
      · repeat (first | (with_reducible exact HBX.out) | refine below_set ?_ _ _ (by omega) _)
  | true =>
    rcases hlo with hlo | ⟨hlo, hhi⟩
    · skip
      have hh : Pr.rd ⟨t, j, d⟩ = none := by rw [hrd]
      rw [hh]
      clear hrd
      have HW := Lib.hid (rwhole_walk t j d)
      rw [hW] at HW
      clear hW hh
      go_enter Tryd.func33, Tryd.ntmps33
      go_upto_region 2 with (fail)
      have H2 := Lib.hid (T3.new w #[.int .i64 t, .int .i64 j, .string d] #[.int .i64 0, .int .i64 0, .string ⟨#[]⟩, .string ⟨#[]⟩, .int .i64 0, .int .i64 0, .int .i64 0, .bool false] #[.int .i64 t, .int .i64 j, .string ⟨#[]⟩, .string ⟨#[]⟩, .int .i64 0, .int .i64 0, .int .i64 0] 42 78 76)
      have p0 := H2.out.hp.cell 0; have p1 := H2.out.hp.cell 1; have p2 := H2.out.hp.cell 2
      simp only [List.getElem?_toArray, List.getElem?_cons_zero, List.getElem?_cons_succ] at p0 p1 p2
      generalize ((w.alloc (.cells #[.int .i64 t, .int .i64 j, .string d] 42)).alloc (.cells #[.int .i64 0, .int .i64 0, .string ⟨#[]⟩, .string ⟨#[]⟩, .int .i64 0, .int .i64 0, .int .i64 0, .bool false] 78)).alloc (.cells #[.int .i64 t, .int .i64 j, .string ⟨#[]⟩, .string ⟨#[]⟩, .int .i64 0, .int .i64 0, .int .i64 0] 76) = w2 at *
      go_wp2_with fail
      (with_reducible refine (HW.out _).mono ?_)
      rintro e w3 ⟨rfl, hb⟩
      have HH := Lib.hid (H2.out.keep hb)
      clear p0 p1 p2 hb H2 HW
      have HBX := Lib.hid HH.out.hb
      have p0 := HH.out.hp.cell 0; have p1 := HH.out.hp.cell 1; have p2 := HH.out.hp.cell 2
      simp only [List.getElem?_toArray, List.getElem?_cons_zero, List.getElem?_cons_succ, List.setIfInBounds_toArray, List.set_cons_zero, List.set_cons_succ] at p0 p1 p2
      have a0 := HH.out.ha.cell 0; have a1 := HH.out.ha.cell 1; have a2 := HH.out.ha.cell 2; have a3 := HH.out.ha.cell 3; have a4 := HH.out.ha.cell 4; have a5 := HH.out.ha.cell 5; have a6 := HH.out.ha.cell 6
      have g2 := HH.out.ha.free 2; have g3 := HH.out.ha.free 3; have g4 := HH.out.ha.free 4; have g5 := HH.out.ha.free 5; have g6 := HH.out.ha.free 6
      simp only [List.getElem?_toArray, List.getElem?_cons_zero, List.getElem?_cons_succ, List.setIfInBounds_toArray, List.set_cons_zero, List.set_cons_succ] at a0 a1 a2 a3 a4 a5 a6
      have r0 := HH.out.hr.cell 0; have r1 := HH.out.hr.cell 1; have r2 := HH.out.hr.cell 2; have r3 := HH.out.hr.cell 3; have r4 := HH.out.hr.cell 4; have r5 := HH.out.hr.cell 5; have r6 := HH.out.hr.cell 6; have r7 := HH.out.hr.cell 7
      have f0 := HH.out.hr.free 0; have f1 := HH.out.hr.free 1; have f2 := HH.out.hr.free 2; have f3 := HH.out.hr.free 3; have f4 := HH.out.hr.free 4; have f5 := HH.out.hr.free 5; have f6 := HH.out.hr.free 6; have f7 := HH.out.hr.free 7
      simp only [List.getElem?_toArray, List.getElem?_cons_zero, List.getElem?_cons_succ, List.setIfInBounds_toArray, List.set_cons_zero, List.set_cons_succ] at r0 r1 r2 r3 r4 r5 r6 r7
      clear HH
      go_wp2
      ((try simp only [Exit.inBlock, Exit.then]); refine bodyPost_ret (v := (.agg #[.int .i64 0, .int .i64 0, .string ⟨#[]⟩, .string ⟨#[]⟩, .int .i64 0, .int .i64 0, .int .i64 0, .bool false])) ?_ rfl ⟨?_, ?_⟩; (rw [results_cell1 rfl]; go_simp))
      · rfl
      · repeat (first | (with_reducible exact HBX.out) | refine below_set ?_ _ _ (by omega) _)
    · skip
      have hh : Pr.rd ⟨t, j, d⟩ = none := by rw [hrd]
      rw [hh]
      clear hrd
      have HW := Lib.hid (rwhole_walk t j d)
      rw [hW] at HW
      clear hW hh
      go_enter Tryd.func33, Tryd.ntmps33
      go_upto_region 2 with (fail)
      have H2 := Lib.hid (T3.new w #[.int .i64 t, .int .i64 j, .string d] #[.int .i64 0, .int .i64 0, .string ⟨#[]⟩, .string ⟨#[]⟩, .int .i64 0, .int .i64 0, .int .i64 0, .bool false] #[.int .i64 t, .int .i64 j, .string ⟨#[]⟩, .string ⟨#[]⟩, .int .i64 0, .int .i64 0, .int .i64 0] 42 78 76)
      have p0 := H2.out.hp.cell 0; have p1 := H2.out.hp.cell 1; have p2 := H2.out.hp.cell 2
      simp only [List.getElem?_toArray, List.getElem?_cons_zero, List.getElem?_cons_succ] at p0 p1 p2
      generalize ((w.alloc (.cells #[.int .i64 t, .int .i64 j, .string d] 42)).alloc (.cells #[.int .i64 0, .int .i64 0, .string ⟨#[]⟩, .string ⟨#[]⟩, .int .i64 0, .int .i64 0, .int .i64 0, .bool false] 78)).alloc (.cells #[.int .i64 t, .int .i64 j, .string ⟨#[]⟩, .string ⟨#[]⟩, .int .i64 0, .int .i64 0, .int .i64 0] 76) = w2 at *
      go_wp2_with fail
      (with_reducible refine (HW.out _).mono ?_)
      rintro e w3 ⟨rfl, hb⟩
      have HH := Lib.hid (H2.out.keep hb)
      clear p0 p1 p2 hb H2 HW
      have HBX := Lib.hid HH.out.hb
      have p0 := HH.out.hp.cell 0; have p1 := HH.out.hp.cell 1; have p2 := HH.out.hp.cell 2
      simp only [List.getElem?_toArray, List.getElem?_cons_zero, List.getElem?_cons_succ, List.setIfInBounds_toArray, List.set_cons_zero, List.set_cons_succ] at p0 p1 p2
      have a0 := HH.out.ha.cell 0; have a1 := HH.out.ha.cell 1; have a2 := HH.out.ha.cell 2; have a3 := HH.out.ha.cell 3; have a4 := HH.out.ha.cell 4; have a5 := HH.out.ha.cell 5; have a6 := HH.out.ha.cell 6
      have g2 := HH.out.ha.free 2; have g3 := HH.out.ha.free 3; have g4 := HH.out.ha.free 4; have g5 := HH.out.ha.free 5; have g6 := HH.out.ha.free 6
      simp only [List.getElem?_toArray, List.getElem?_cons_zero, List.getElem?_cons_succ, List.setIfInBounds_toArray, List.set_cons_zero, List.set_cons_succ] at a0 a1 a2 a3 a4 a5 a6
      have r0 := HH.out.hr.cell 0; have r1 := HH.out.hr.cell 1; have r2 := HH.out.hr.cell 2; have r3 := HH.out.hr.cell 3; have r4 := HH.out.hr.cell 4; have r5 := HH.out.hr.cell 5; have r6 := HH.out.hr.cell 6; have r7 := HH.out.hr.cell 7
      have f0 := HH.out.hr.free 0; have f1 := HH.out.hr.free 1; have f2 := HH.out.hr.free 2; have f3 := HH.out.hr.free 3; have f4 := HH.out.hr.free 4; have f5 := HH.out.hr.free 5; have f6 := HH.out.hr.free 6; have f7 := HH.out.hr.free 7
      simp only [List.getElem?_toArray, List.getElem?_cons_zero, List.getElem?_cons_succ, List.setIfInBounds_toArray, List.set_cons_zero, List.set_cons_succ] at r0 r1 r2 r3 r4 r5 r6 r7
      clear HH
      go_wp2
      ((try simp only [Exit.inBlock, Exit.then]); refine bodyPost_ret (v := (.agg #[.int .i64 0, .int .i64 0, .string ⟨#[]⟩, .string ⟨#[]⟩, .int .i64 0, .int .i64 0, .int .i64 0, .bool false])) ?_ rfl ⟨?_, ?_⟩; (rw [results_cell1 rfl]; go_simp))
      · rfl
      · repeat (first | (with_reducible exact HBX.out) | refine below_set ?_ _ _ (by omega) _)
theorem rread_walk (t j : Int) (d : ByteArray) (w : World) : Calls Tryd.prog 33 #[.agg #[.int .i64 t, .int .i64 j, .string d]] w fun e w' => e = .returned (askV (Pr.rd ⟨t, j, d⟩)) ∧ Below w.heap.size w w' := by
  by_cases h1 : t = 1
  · subst h1; exact rread1 j d w
  by_cases h2 : t = 2
  · subst h2; exact rread2 j d w
  by_cases h3 : t = 3
  · subst h3; exact rread3 j d w
  by_cases h4 : t = 4
  · subst h4; exact rread4 j d w
  by_cases h5 : t = 5
  · subst h5; exact rread5 j d w
  by_cases h6 : t = 6
  · subst h6; exact rread6 j d w
  by_cases h7 : t = 7
  · subst h7; exact rread7 j d w
  exact rreadx t j d w h1 h2 h3 h4 h5 h6 h7
end Go.Proofs.YtajalllecoclcaaDoor
