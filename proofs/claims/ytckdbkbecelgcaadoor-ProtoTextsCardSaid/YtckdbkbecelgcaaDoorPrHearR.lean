/- Answers: the reference's Hear. (Printed by gen_prohear.py --ref.) -/
import Derived.Test.YtckdbkbecelgcaaDoorPrHear
namespace Go.Proofs.YtckdbkbecelgcaaDoor
open Go.RowKit
set_option linter.unusedVariables false
set_option linter.unusedSimpArgs false
/-- what a told answer is, if there is one -/
def rightV (t j : Int) (x : ByteArray) (r : Int) (b : Bool) : Value := match b with
  | true => .agg #[.int .i64 t, .int .i64 j, .string x, .int .i64 r, .bool true]
  | false => .agg #[.int .i64 0, .int .i64 0, .string ⟨#[]⟩, .int .i64 0, .bool false]
set_option maxRecDepth 100000 in
set_option maxHeartbeats 400000 in
theorem right_walk (t j : Int) (x : ByteArray) (r : Int) (b : Bool) (w : World) : Calls Tryd.prog 34 #[.agg #[.int .i64 t, .int .i64 j, .string x, .int .i64 r, .bool b]] w fun e w' => e = .returned (rightV t j x r b) ∧ Below w.heap.size w w' := by
  cases b with
  | true =>
    go_enter Tryd.func34, Tryd.ntmps34
    go_upto_region 1 with (fail)
    obtain ⟨hp, hr, hb⟩ := rn_two w #[.int .i64 t, .int .i64 j, .string x, .int .i64 r, .bool true] #[.int .i64 0, .int .i64 0, .string ⟨#[]⟩, .int .i64 0, .bool false] 47 47
    have HB3 := Lib.hid hb
    have p0 := hp.cell 0; have p1 := hp.cell 1; have p2 := hp.cell 2; have p3 := hp.cell 3; have p4 := hp.cell 4
    have r0 := hr.cell 0; have r1 := hr.cell 1; have r2 := hr.cell 2; have r3 := hr.cell 3; have r4 := hr.cell 4
    have f0 := hr.free 0; have f1 := hr.free 1; have f2 := hr.free 2; have f3 := hr.free 3; have f4 := hr.free 4
    simp only [List.getElem?_toArray, List.getElem?_cons_zero, List.getElem?_cons_succ] at p0 p1 p2 p3 p4 r0 r1 r2 r3 r4
    clear hp hr hb
    generalize (w.alloc (.cells #[.int .i64 t, .int .i64 j, .string x, .int .i64 r, .bool true] 47)).alloc (.cells #[.int .i64 0, .int .i64 0, .string ⟨#[]⟩, .int .i64 0, .bool false] 47) = w2 at *
    go_wp2
    ((try simp only [Exit.inBlock, Exit.then]); refine bodyPost_ret (v := (.agg #[.int .i64 t, .int .i64 j, .string x, .int .i64 r, .bool true])) ?_ rfl ⟨?_, ?_⟩; (rw [results_cell1 rfl]; go_simp))
    · rfl
    · repeat (first | (with_reducible exact HB3.out) | refine below_set ?_ _ _ (by omega) _)
  | false =>
    go_enter Tryd.func34, Tryd.ntmps34
    go_upto_region 1 with (fail)
    obtain ⟨hp, hr, hb⟩ := rn_two w #[.int .i64 t, .int .i64 j, .string x, .int .i64 r, .bool false] #[.int .i64 0, .int .i64 0, .string ⟨#[]⟩, .int .i64 0, .bool false] 47 47
    have HB3 := Lib.hid hb
    have p0 := hp.cell 0; have p1 := hp.cell 1; have p2 := hp.cell 2; have p3 := hp.cell 3; have p4 := hp.cell 4
    have r0 := hr.cell 0; have r1 := hr.cell 1; have r2 := hr.cell 2; have r3 := hr.cell 3; have r4 := hr.cell 4
    have f0 := hr.free 0; have f1 := hr.free 1; have f2 := hr.free 2; have f3 := hr.free 3; have f4 := hr.free 4
    simp only [List.getElem?_toArray, List.getElem?_cons_zero, List.getElem?_cons_succ] at p0 p1 p2 p3 p4 r0 r1 r2 r3 r4
    clear hp hr hb
    generalize (w.alloc (.cells #[.int .i64 t, .int .i64 j, .string x, .int .i64 r, .bool false] 47)).alloc (.cells #[.int .i64 0, .int .i64 0, .string ⟨#[]⟩, .int .i64 0, .bool false] 47) = w2 at *
    go_wp2
    ((try simp only [Exit.inBlock, Exit.then]); refine bodyPost_ret (v := (.agg #[.int .i64 0, .int .i64 0, .string ⟨#[]⟩, .int .i64 0, .bool false])) ?_ rfl ⟨?_, ?_⟩; (rw [results_cell1 rfl]; go_simp))
    · rfl
    · repeat (first | (with_reducible exact HB3.out) | refine below_set ?_ _ _ (by omega) _)
set_option maxRecDepth 100000 in
set_option maxHeartbeats 1600000 in
theorem rhear65 (j : Int) (d : ByteArray) (w : World) : Calls Tryd.prog 16 #[.agg #[.int .i64 65, .int .i64 j, .string d]] w fun e w' => e = .returned (toldV (Pr.hear ⟨65, j, d⟩)) ∧ Below w.heap.size w w' := by
  cases hW : Pr.whole ⟨65, j, d⟩ with
  | false =>
    have hh : Pr.hear ⟨65, j, d⟩ = none := by rw [hear_w _ hW]
    rw [hh]
    have HW := Lib.hid (rwhole_walk 65 j d)
    rw [hW] at HW
    clear hW hh
    go_enter Tryd.func16, Tryd.ntmps16
    go_upto_region 2 with (fail)
    obtain ⟨hp, hr, ha, hb⟩ := rn_three w #[.int .i64 65, .int .i64 j, .string d] #[.int .i64 0, .int .i64 0, .string ⟨#[]⟩, .int .i64 0, .bool false] #[.int .i64 65, .int .i64 j, .string ⟨#[]⟩, .int .i64 0] 23 47 45
    have HP := Lib.hid hp
    have HR := Lib.hid hr
    have HA := Lib.hid ha
    have HB := Lib.hid hb
    have p0 := hp.cell 0; have p1 := hp.cell 1; have p2 := hp.cell 2
    simp only [List.getElem?_toArray, List.getElem?_cons_zero, List.getElem?_cons_succ] at p0 p1 p2
    clear hp hr ha hb
    generalize ((w.alloc (.cells #[.int .i64 65, .int .i64 j, .string d] 23)).alloc (.cells #[.int .i64 0, .int .i64 0, .string ⟨#[]⟩, .int .i64 0, .bool false] 47)).alloc (.cells #[.int .i64 65, .int .i64 j, .string ⟨#[]⟩, .int .i64 0] 45) = w2 at *
    go_wp2_with fail
    (with_reducible refine (HW.out _).mono ?_)
    rintro e w3 ⟨rfl, hb⟩
    have HP3 := Lib.hid (HP.out.below hb HP.out.lt)
    have HR3 := Lib.hid (HR.out.below hb HR.out.lt)
    have HA3 := Lib.hid (HA.out.below hb HA.out.lt)
    have HB3 := Lib.hid (HB.out.trans (hb.mono HB.out.size))
    clear p0 p1 p2 hb HP HR HA HB HW
    have p0 := HP3.out.cell 0; have p1 := HP3.out.cell 1; have p2 := HP3.out.cell 2
    have r0 := HR3.out.cell 0; have r1 := HR3.out.cell 1; have r2 := HR3.out.cell 2; have r3 := HR3.out.cell 3; have r4 := HR3.out.cell 4
    have a0 := HA3.out.cell 0; have a1 := HA3.out.cell 1; have a2 := HA3.out.cell 2; have a3 := HA3.out.cell 3
    have f0 := HR3.out.free 0; have f1 := HR3.out.free 1; have f2 := HR3.out.free 2; have f3 := HR3.out.free 3; have f4 := HR3.out.free 4
    have g2 := HA3.out.free 2; have g3 := HA3.out.free 3
    simp only [List.getElem?_toArray, List.getElem?_cons_zero, List.getElem?_cons_succ] at p0 p1 p2 r0 r1 r2 r3 r4 a0 a1 a2 a3
    clear HP3 HR3 HA3
    go_wp2
    ((try simp only [Exit.inBlock, Exit.then]); refine bodyPost_ret (v := (.agg #[.int .i64 0, .int .i64 0, .string ⟨#[]⟩, .int .i64 0, .bool false])) ?_ rfl ⟨?_, ?_⟩; (rw [results_cell1 rfl]; go_simp))
    · rfl
    · repeat (first | (with_reducible exact HB3.out) | refine below_set ?_ _ _ (by omega) _)
  | true =>
    by_cases hj : j = 0
    · have ej : (j == 0) = true := by rw [hj]; rfl
      have ej' : (j != 0) = false := by rw [hj]; rfl
      have hh : Pr.hear ⟨65, j, d⟩ = some ⟨65, j, d, 0⟩ := by rw [hear_65 65 j d (by decide) hW, if_pos hj]
      rw [hh]
      clear hj
      have HW := Lib.hid (rwhole_walk 65 j d)
      rw [hW] at HW
      clear hW hh
      go_enter Tryd.func16, Tryd.ntmps16
      go_upto_region 2 with (fail)
      obtain ⟨hp, hr, ha, hb⟩ := rn_three w #[.int .i64 65, .int .i64 j, .string d] #[.int .i64 0, .int .i64 0, .string ⟨#[]⟩, .int .i64 0, .bool false] #[.int .i64 65, .int .i64 j, .string ⟨#[]⟩, .int .i64 0] 23 47 45
      have HP := Lib.hid hp
      have HR := Lib.hid hr
      have HA := Lib.hid ha
      have HB := Lib.hid hb
      have p0 := hp.cell 0; have p1 := hp.cell 1; have p2 := hp.cell 2
      simp only [List.getElem?_toArray, List.getElem?_cons_zero, List.getElem?_cons_succ] at p0 p1 p2
      clear hp hr ha hb
      generalize ((w.alloc (.cells #[.int .i64 65, .int .i64 j, .string d] 23)).alloc (.cells #[.int .i64 0, .int .i64 0, .string ⟨#[]⟩, .int .i64 0, .bool false] 47)).alloc (.cells #[.int .i64 65, .int .i64 j, .string ⟨#[]⟩, .int .i64 0] 45) = w2 at *
      go_wp2_with fail
      (with_reducible refine (HW.out _).mono ?_)
      rintro e w3 ⟨rfl, hb⟩
      have HP3 := Lib.hid (HP.out.below hb HP.out.lt)
      have HR3 := Lib.hid (HR.out.below hb HR.out.lt)
      have HA3 := Lib.hid (HA.out.below hb HA.out.lt)
      have HB3 := Lib.hid (HB.out.trans (hb.mono HB.out.size))
      clear p0 p1 p2 hb HP HR HA HB HW
      have p0 := HP3.out.cell 0; have p1 := HP3.out.cell 1; have p2 := HP3.out.cell 2
      have r0 := HR3.out.cell 0; have r1 := HR3.out.cell 1; have r2 := HR3.out.cell 2; have r3 := HR3.out.cell 3; have r4 := HR3.out.cell 4
      have a0 := HA3.out.cell 0; have a1 := HA3.out.cell 1; have a2 := HA3.out.cell 2; have a3 := HA3.out.cell 3
      have f0 := HR3.out.free 0; have f1 := HR3.out.free 1; have f2 := HR3.out.free 2; have f3 := HR3.out.free 3; have f4 := HR3.out.free 4
      have g2 := HA3.out.free 2; have g3 := HA3.out.free 3
      simp only [List.getElem?_toArray, List.getElem?_cons_zero, List.getElem?_cons_succ] at p0 p1 p2 r0 r1 r2 r3 r4 a0 a1 a2 a3
      clear HP3 HR3 HA3
      go_wp2
      ((try simp only [Exit.inBlock, Exit.then]); refine bodyPost_ret (v := (.agg #[.int .i64 65, .int .i64 j, .string d, .int .i64 0, .bool true])) ?_ rfl ⟨?_, ?_⟩; (rw [results_cell1 rfl]; go_simp))
      · rfl
      · repeat (first | (with_reducible exact HB3.out) | refine below_set ?_ _ _ (by omega) _)
    · have ej : (j == 0) = false := by simpa using hj
      have ej' : (j != 0) = true := by simpa using hj
      have hh : Pr.hear ⟨65, j, d⟩ = none := by rw [hear_65 65 j d (by decide) hW, if_neg hj]
      rw [hh]
      clear hj
      have HW := Lib.hid (rwhole_walk 65 j d)
      rw [hW] at HW
      clear hW hh
      go_enter Tryd.func16, Tryd.ntmps16
      go_upto_region 2 with (fail)
      obtain ⟨hp, hr, ha, hb⟩ := rn_three w #[.int .i64 65, .int .i64 j, .string d] #[.int .i64 0, .int .i64 0, .string ⟨#[]⟩, .int .i64 0, .bool false] #[.int .i64 65, .int .i64 j, .string ⟨#[]⟩, .int .i64 0] 23 47 45
      have HP := Lib.hid hp
      have HR := Lib.hid hr
      have HA := Lib.hid ha
      have HB := Lib.hid hb
      have p0 := hp.cell 0; have p1 := hp.cell 1; have p2 := hp.cell 2
      simp only [List.getElem?_toArray, List.getElem?_cons_zero, List.getElem?_cons_succ] at p0 p1 p2
      clear hp hr ha hb
      generalize ((w.alloc (.cells #[.int .i64 65, .int .i64 j, .string d] 23)).alloc (.cells #[.int .i64 0, .int .i64 0, .string ⟨#[]⟩, .int .i64 0, .bool false] 47)).alloc (.cells #[.int .i64 65, .int .i64 j, .string ⟨#[]⟩, .int .i64 0] 45) = w2 at *
      go_wp2_with fail
      (with_reducible refine (HW.out _).mono ?_)
      rintro e w3 ⟨rfl, hb⟩
      have HP3 := Lib.hid (HP.out.below hb HP.out.lt)
      have HR3 := Lib.hid (HR.out.below hb HR.out.lt)
      have HA3 := Lib.hid (HA.out.below hb HA.out.lt)
      have HB3 := Lib.hid (HB.out.trans (hb.mono HB.out.size))
      clear p0 p1 p2 hb HP HR HA HB HW
      have p0 := HP3.out.cell 0; have p1 := HP3.out.cell 1; have p2 := HP3.out.cell 2
      have r0 := HR3.out.cell 0; have r1 := HR3.out.cell 1; have r2 := HR3.out.cell 2; have r3 := HR3.out.cell 3; have r4 := HR3.out.cell 4
      have a0 := HA3.out.cell 0; have a1 := HA3.out.cell 1; have a2 := HA3.out.cell 2; have a3 := HA3.out.cell 3
      have f0 := HR3.out.free 0; have f1 := HR3.out.free 1; have f2 := HR3.out.free 2; have f3 := HR3.out.free 3; have f4 := HR3.out.free 4
      have g2 := HA3.out.free 2; have g3 := HA3.out.free 3
      simp only [List.getElem?_toArray, List.getElem?_cons_zero, List.getElem?_cons_succ] at p0 p1 p2 r0 r1 r2 r3 r4 a0 a1 a2 a3
      clear HP3 HR3 HA3
      go_wp2
      ((try simp only [Exit.inBlock, Exit.then]); refine bodyPost_ret (v := (.agg #[.int .i64 0, .int .i64 0, .string ⟨#[]⟩, .int .i64 0, .bool false])) ?_ rfl ⟨?_, ?_⟩; (rw [results_cell1 rfl]; go_simp))
      · rfl
      · repeat (first | (with_reducible exact HB3.out) | refine below_set ?_ _ _ (by omega) _)
set_option maxRecDepth 100000 in
set_option maxHeartbeats 1600000 in
theorem rhear66 (j : Int) (d : ByteArray) (w : World) : Calls Tryd.prog 16 #[.agg #[.int .i64 66, .int .i64 j, .string d]] w fun e w' => e = .returned (toldV (Pr.hear ⟨66, j, d⟩)) ∧ Below w.heap.size w w' := by
  cases hW : Pr.whole ⟨66, j, d⟩ with
  | false =>
    have hh : Pr.hear ⟨66, j, d⟩ = none := by rw [hear_w _ hW]
    rw [hh]
    have HW := Lib.hid (rwhole_walk 66 j d)
    rw [hW] at HW
    clear hW hh
    go_enter Tryd.func16, Tryd.ntmps16
    go_upto_region 2 with (fail)
    obtain ⟨hp, hr, ha, hb⟩ := rn_three w #[.int .i64 66, .int .i64 j, .string d] #[.int .i64 0, .int .i64 0, .string ⟨#[]⟩, .int .i64 0, .bool false] #[.int .i64 66, .int .i64 j, .string ⟨#[]⟩, .int .i64 0] 23 47 45
    have HP := Lib.hid hp
    have HR := Lib.hid hr
    have HA := Lib.hid ha
    have HB := Lib.hid hb
    have p0 := hp.cell 0; have p1 := hp.cell 1; have p2 := hp.cell 2
    simp only [List.getElem?_toArray, List.getElem?_cons_zero, List.getElem?_cons_succ] at p0 p1 p2
    clear hp hr ha hb
    generalize ((w.alloc (.cells #[.int .i64 66, .int .i64 j, .string d] 23)).alloc (.cells #[.int .i64 0, .int .i64 0, .string ⟨#[]⟩, .int .i64 0, .bool false] 47)).alloc (.cells #[.int .i64 66, .int .i64 j, .string ⟨#[]⟩, .int .i64 0] 45) = w2 at *
    go_wp2_with fail
    (with_reducible refine (HW.out _).mono ?_)
    rintro e w3 ⟨rfl, hb⟩
    have HP3 := Lib.hid (HP.out.below hb HP.out.lt)
    have HR3 := Lib.hid (HR.out.below hb HR.out.lt)
    have HA3 := Lib.hid (HA.out.below hb HA.out.lt)
    have HB3 := Lib.hid (HB.out.trans (hb.mono HB.out.size))
    clear p0 p1 p2 hb HP HR HA HB HW
    have p0 := HP3.out.cell 0; have p1 := HP3.out.cell 1; have p2 := HP3.out.cell 2
    have r0 := HR3.out.cell 0; have r1 := HR3.out.cell 1; have r2 := HR3.out.cell 2; have r3 := HR3.out.cell 3; have r4 := HR3.out.cell 4
    have a0 := HA3.out.cell 0; have a1 := HA3.out.cell 1; have a2 := HA3.out.cell 2; have a3 := HA3.out.cell 3
    have f0 := HR3.out.free 0; have f1 := HR3.out.free 1; have f2 := HR3.out.free 2; have f3 := HR3.out.free 3; have f4 := HR3.out.free 4
    have g2 := HA3.out.free 2; have g3 := HA3.out.free 3
    simp only [List.getElem?_toArray, List.getElem?_cons_zero, List.getElem?_cons_succ] at p0 p1 p2 r0 r1 r2 r3 r4 a0 a1 a2 a3
    clear HP3 HR3 HA3
    go_wp2
    ((try simp only [Exit.inBlock, Exit.then]); refine bodyPost_ret (v := (.agg #[.int .i64 0, .int .i64 0, .string ⟨#[]⟩, .int .i64 0, .bool false])) ?_ rfl ⟨?_, ?_⟩; (rw [results_cell1 rfl]; go_simp))
    · rfl
    · repeat (first | (with_reducible exact HB3.out) | refine below_set ?_ _ _ (by omega) _)
  | true =>
    have hh : Pr.hear ⟨66, j, d⟩ = some ⟨66, j, d, 0⟩ := by rw [hear_66 j d hW]
    rw [hh]
    have HW := Lib.hid (rwhole_walk 66 j d)
    rw [hW] at HW
    clear hW hh
    go_enter Tryd.func16, Tryd.ntmps16
    go_upto_region 2 with (fail)
    obtain ⟨hp, hr, ha, hb⟩ := rn_three w #[.int .i64 66, .int .i64 j, .string d] #[.int .i64 0, .int .i64 0, .string ⟨#[]⟩, .int .i64 0, .bool false] #[.int .i64 66, .int .i64 j, .string ⟨#[]⟩, .int .i64 0] 23 47 45
    have HP := Lib.hid hp
    have HR := Lib.hid hr
    have HA := Lib.hid ha
    have HB := Lib.hid hb
    have p0 := hp.cell 0; have p1 := hp.cell 1; have p2 := hp.cell 2
    simp only [List.getElem?_toArray, List.getElem?_cons_zero, List.getElem?_cons_succ] at p0 p1 p2
    clear hp hr ha hb
    generalize ((w.alloc (.cells #[.int .i64 66, .int .i64 j, .string d] 23)).alloc (.cells #[.int .i64 0, .int .i64 0, .string ⟨#[]⟩, .int .i64 0, .bool false] 47)).alloc (.cells #[.int .i64 66, .int .i64 j, .string ⟨#[]⟩, .int .i64 0] 45) = w2 at *
    go_wp2_with fail
    (with_reducible refine (HW.out _).mono ?_)
    rintro e w3 ⟨rfl, hb⟩
    have HP3 := Lib.hid (HP.out.below hb HP.out.lt)
    have HR3 := Lib.hid (HR.out.below hb HR.out.lt)
    have HA3 := Lib.hid (HA.out.below hb HA.out.lt)
    have HB3 := Lib.hid (HB.out.trans (hb.mono HB.out.size))
    clear p0 p1 p2 hb HP HR HA HB HW
    have p0 := HP3.out.cell 0; have p1 := HP3.out.cell 1; have p2 := HP3.out.cell 2
    have r0 := HR3.out.cell 0; have r1 := HR3.out.cell 1; have r2 := HR3.out.cell 2; have r3 := HR3.out.cell 3; have r4 := HR3.out.cell 4
    have a0 := HA3.out.cell 0; have a1 := HA3.out.cell 1; have a2 := HA3.out.cell 2; have a3 := HA3.out.cell 3
    have f0 := HR3.out.free 0; have f1 := HR3.out.free 1; have f2 := HR3.out.free 2; have f3 := HR3.out.free 3; have f4 := HR3.out.free 4
    have g2 := HA3.out.free 2; have g3 := HA3.out.free 3
    simp only [List.getElem?_toArray, List.getElem?_cons_zero, List.getElem?_cons_succ] at p0 p1 p2 r0 r1 r2 r3 r4 a0 a1 a2 a3
    clear HP3 HR3 HA3
    go_wp2
    ((try simp only [Exit.inBlock, Exit.then]); refine bodyPost_ret (v := (.agg #[.int .i64 66, .int .i64 j, .string d, .int .i64 0, .bool true])) ?_ rfl ⟨?_, ?_⟩; (rw [results_cell1 rfl]; go_simp))
    · rfl
    · repeat (first | (with_reducible exact HB3.out) | refine below_set ?_ _ _ (by omega) _)
set_option maxRecDepth 100000 in
set_option maxHeartbeats 1600000 in
theorem rhear67 (j : Int) (d : ByteArray) (w : World) : Calls Tryd.prog 16 #[.agg #[.int .i64 67, .int .i64 j, .string d]] w fun e w' => e = .returned (toldV (Pr.hear ⟨67, j, d⟩)) ∧ Below w.heap.size w w' := by
  cases hW : Pr.whole ⟨67, j, d⟩ with
  | false =>
    have hh : Pr.hear ⟨67, j, d⟩ = none := by rw [hear_w _ hW]
    rw [hh]
    have HW := Lib.hid (rwhole_walk 67 j d)
    rw [hW] at HW
    clear hW hh
    go_enter Tryd.func16, Tryd.ntmps16
    go_upto_region 2 with (fail)
    obtain ⟨hp, hr, ha, hb⟩ := rn_three w #[.int .i64 67, .int .i64 j, .string d] #[.int .i64 0, .int .i64 0, .string ⟨#[]⟩, .int .i64 0, .bool false] #[.int .i64 67, .int .i64 j, .string ⟨#[]⟩, .int .i64 0] 23 47 45
    have HP := Lib.hid hp
    have HR := Lib.hid hr
    have HA := Lib.hid ha
    have HB := Lib.hid hb
    have p0 := hp.cell 0; have p1 := hp.cell 1; have p2 := hp.cell 2
    simp only [List.getElem?_toArray, List.getElem?_cons_zero, List.getElem?_cons_succ] at p0 p1 p2
    clear hp hr ha hb
    generalize ((w.alloc (.cells #[.int .i64 67, .int .i64 j, .string d] 23)).alloc (.cells #[.int .i64 0, .int .i64 0, .string ⟨#[]⟩, .int .i64 0, .bool false] 47)).alloc (.cells #[.int .i64 67, .int .i64 j, .string ⟨#[]⟩, .int .i64 0] 45) = w2 at *
    go_wp2_with fail
    (with_reducible refine (HW.out _).mono ?_)
    rintro e w3 ⟨rfl, hb⟩
    have HP3 := Lib.hid (HP.out.below hb HP.out.lt)
    have HR3 := Lib.hid (HR.out.below hb HR.out.lt)
    have HA3 := Lib.hid (HA.out.below hb HA.out.lt)
    have HB3 := Lib.hid (HB.out.trans (hb.mono HB.out.size))
    clear p0 p1 p2 hb HP HR HA HB HW
    have p0 := HP3.out.cell 0; have p1 := HP3.out.cell 1; have p2 := HP3.out.cell 2
    have r0 := HR3.out.cell 0; have r1 := HR3.out.cell 1; have r2 := HR3.out.cell 2; have r3 := HR3.out.cell 3; have r4 := HR3.out.cell 4
    have a0 := HA3.out.cell 0; have a1 := HA3.out.cell 1; have a2 := HA3.out.cell 2; have a3 := HA3.out.cell 3
    have f0 := HR3.out.free 0; have f1 := HR3.out.free 1; have f2 := HR3.out.free 2; have f3 := HR3.out.free 3; have f4 := HR3.out.free 4
    have g2 := HA3.out.free 2; have g3 := HA3.out.free 3
    simp only [List.getElem?_toArray, List.getElem?_cons_zero, List.getElem?_cons_succ] at p0 p1 p2 r0 r1 r2 r3 r4 a0 a1 a2 a3
    clear HP3 HR3 HA3
    go_wp2
    ((try simp only [Exit.inBlock, Exit.then]); refine bodyPost_ret (v := (.agg #[.int .i64 0, .int .i64 0, .string ⟨#[]⟩, .int .i64 0, .bool false])) ?_ rfl ⟨?_, ?_⟩; (rw [results_cell1 rfl]; go_simp))
    · rfl
    · repeat (first | (with_reducible exact HB3.out) | refine below_set ?_ _ _ (by omega) _)
  | true =>
    by_cases hs : d.size = 0
    · have es : d.toList.isEmpty = true := by rw [sempty, decide_eq_true hs]
      have hh : Pr.hear ⟨67, j, d⟩ = some ⟨67, j, Pr.e0, 0⟩ := by rw [hear_67 j d hW, if_pos hs]
      rw [hh]
      have HW := Lib.hid (rwhole_walk 67 j d)
      rw [hW] at HW
      clear hW hh
      go_enter Tryd.func16, Tryd.ntmps16
      go_upto_region 2 with (fail)
      obtain ⟨hp, hr, ha, hb⟩ := rn_three w #[.int .i64 67, .int .i64 j, .string d] #[.int .i64 0, .int .i64 0, .string ⟨#[]⟩, .int .i64 0, .bool false] #[.int .i64 67, .int .i64 j, .string ⟨#[]⟩, .int .i64 0] 23 47 45
      have HP := Lib.hid hp
      have HR := Lib.hid hr
      have HA := Lib.hid ha
      have HB := Lib.hid hb
      have p0 := hp.cell 0; have p1 := hp.cell 1; have p2 := hp.cell 2
      simp only [List.getElem?_toArray, List.getElem?_cons_zero, List.getElem?_cons_succ] at p0 p1 p2
      clear hp hr ha hb
      generalize ((w.alloc (.cells #[.int .i64 67, .int .i64 j, .string d] 23)).alloc (.cells #[.int .i64 0, .int .i64 0, .string ⟨#[]⟩, .int .i64 0, .bool false] 47)).alloc (.cells #[.int .i64 67, .int .i64 j, .string ⟨#[]⟩, .int .i64 0] 45) = w2 at *
      go_wp2_with fail
      (with_reducible refine (HW.out _).mono ?_)
      rintro e w3 ⟨rfl, hb⟩
      have HP3 := Lib.hid (HP.out.below hb HP.out.lt)
      have HA3 := Lib.hid (HA.out.below hb HA.out.lt)
      have HR3x := Lib.hid (HR.out.below hb HR.out.lt)
      have HB3x := Lib.hid (HB.out.trans (hb.mono HB.out.size))
      clear p0 p1 p2 hb HP HR HA HB HW
      have p0 := HP3.out.cell 0; have p1 := HP3.out.cell 1; have p2 := HP3.out.cell 2
      have a0 := HA3.out.cell 0; have a1 := HA3.out.cell 1; have a2 := HA3.out.cell 2; have a3 := HA3.out.cell 3
      simp only [List.getElem?_toArray, List.getElem?_cons_zero, List.getElem?_cons_succ] at p0 p1 p2 a0 a1 a2 a3
      have HRW := Lib.hid (fun w => right_walk 67 j ⟨#[]⟩ 0 true w)
      simp only [rightV] at HRW
      go_wp2_with fail
      (with_reducible refine (HRW.out _).mono ?_)
      rintro e w4 ⟨rfl, hb⟩
      have HR3 := Lib.hid (HR3x.out.below hb HR3x.out.lt)
      have HB3 := Lib.hid (HB3x.out.trans (hb.mono HB3x.out.size))
      clear HP3 HA3 p0 p1 p2 a0 a1 a2 a3 HR3x HB3x hb HRW
      have r0 := HR3.out.cell 0; have r1 := HR3.out.cell 1; have r2 := HR3.out.cell 2; have r3 := HR3.out.cell 3; have r4 := HR3.out.cell 4
      have f0 := HR3.out.free 0; have f1 := HR3.out.free 1; have f2 := HR3.out.free 2; have f3 := HR3.out.free 3; have f4 := HR3.out.free 4
      simp only [List.getElem?_toArray, List.getElem?_cons_zero, List.getElem?_cons_succ] at r0 r1 r2 r3 r4
      clear HR3
      go_wp2
      ((try simp only [Exit.inBlock, Exit.then]); refine bodyPost_ret (v := (.agg #[.int .i64 67, .int .i64 j, .string ⟨#[]⟩, .int .i64 0, .bool true])) ?_ rfl ⟨?_, ?_⟩; (rw [results_cell1 rfl]; go_simp))
      · rfl
      · repeat (first | (with_reducible exact HB3.out) | refine below_set ?_ _ _ (by omega) _)
    · have es : d.toList.isEmpty = false := by rw [sempty, decide_eq_false hs]
      have hh : Pr.hear ⟨67, j, d⟩ = none := by rw [hear_67 j d hW, if_neg hs]
      rw [hh]
      have HW := Lib.hid (rwhole_walk 67 j d)
      rw [hW] at HW
      clear hW hh
      go_enter Tryd.func16, Tryd.ntmps16
      go_upto_region 2 with (fail)
      obtain ⟨hp, hr, ha, hb⟩ := rn_three w #[.int .i64 67, .int .i64 j, .string d] #[.int .i64 0, .int .i64 0, .string ⟨#[]⟩, .int .i64 0, .bool false] #[.int .i64 67, .int .i64 j, .string ⟨#[]⟩, .int .i64 0] 23 47 45
      have HP := Lib.hid hp
      have HR := Lib.hid hr
      have HA := Lib.hid ha
      have HB := Lib.hid hb
      have p0 := hp.cell 0; have p1 := hp.cell 1; have p2 := hp.cell 2
      simp only [List.getElem?_toArray, List.getElem?_cons_zero, List.getElem?_cons_succ] at p0 p1 p2
      clear hp hr ha hb
      generalize ((w.alloc (.cells #[.int .i64 67, .int .i64 j, .string d] 23)).alloc (.cells #[.int .i64 0, .int .i64 0, .string ⟨#[]⟩, .int .i64 0, .bool false] 47)).alloc (.cells #[.int .i64 67, .int .i64 j, .string ⟨#[]⟩, .int .i64 0] 45) = w2 at *
      go_wp2_with fail
      (with_reducible refine (HW.out _).mono ?_)
      rintro e w3 ⟨rfl, hb⟩
      have HP3 := Lib.hid (HP.out.below hb HP.out.lt)
      have HA3 := Lib.hid (HA.out.below hb HA.out.lt)
      have HR3x := Lib.hid (HR.out.below hb HR.out.lt)
      have HB3x := Lib.hid (HB.out.trans (hb.mono HB.out.size))
      clear p0 p1 p2 hb HP HR HA HB HW
      have p0 := HP3.out.cell 0; have p1 := HP3.out.cell 1; have p2 := HP3.out.cell 2
      have a0 := HA3.out.cell 0; have a1 := HA3.out.cell 1; have a2 := HA3.out.cell 2; have a3 := HA3.out.cell 3
      simp only [List.getElem?_toArray, List.getElem?_cons_zero, List.getElem?_cons_succ] at p0 p1 p2 a0 a1 a2 a3
      have HRW := Lib.hid (fun w => right_walk 67 j ⟨#[]⟩ 0 false w)
      simp only [rightV] at HRW
      go_wp2_with fail
      (with_reducible refine (HRW.out _).mono ?_)
      rintro e w4 ⟨rfl, hb⟩
      have HR3 := Lib.hid (HR3x.out.below hb HR3x.out.lt)
      have HB3 := Lib.hid (HB3x.out.trans (hb.mono HB3x.out.size))
      clear HP3 HA3 p0 p1 p2 a0 a1 a2 a3 HR3x HB3x hb HRW
      have r0 := HR3.out.cell 0; have r1 := HR3.out.cell 1; have r2 := HR3.out.cell 2; have r3 := HR3.out.cell 3; have r4 := HR3.out.cell 4
      have f0 := HR3.out.free 0; have f1 := HR3.out.free 1; have f2 := HR3.out.free 2; have f3 := HR3.out.free 3; have f4 := HR3.out.free 4
      simp only [List.getElem?_toArray, List.getElem?_cons_zero, List.getElem?_cons_succ] at r0 r1 r2 r3 r4
      clear HR3
      go_wp2
      ((try simp only [Exit.inBlock, Exit.then]); refine bodyPost_ret (v := (.agg #[.int .i64 0, .int .i64 0, .string ⟨#[]⟩, .int .i64 0, .bool false])) ?_ rfl ⟨?_, ?_⟩; (rw [results_cell1 rfl]; go_simp))
      · rfl
      · repeat (first | (with_reducible exact HB3.out) | refine below_set ?_ _ _ (by omega) _)
set_option maxRecDepth 100000 in
set_option maxHeartbeats 1600000 in
theorem rhear68 (j : Int) (d : ByteArray) (w : World) : Calls Tryd.prog 16 #[.agg #[.int .i64 68, .int .i64 j, .string d]] w fun e w' => e = .returned (toldV (Pr.hear ⟨68, j, d⟩)) ∧ Below w.heap.size w w' := by
  cases hW : Pr.whole ⟨68, j, d⟩ with
  | false =>
    have hh : Pr.hear ⟨68, j, d⟩ = none := by rw [hear_w _ hW]
    rw [hh]
    have HW := Lib.hid (rwhole_walk 68 j d)
    rw [hW] at HW
    clear hW hh
    go_enter Tryd.func16, Tryd.ntmps16
    go_upto_region 2 with (fail)
    obtain ⟨hp, hr, ha, hb⟩ := rn_three w #[.int .i64 68, .int .i64 j, .string d] #[.int .i64 0, .int .i64 0, .string ⟨#[]⟩, .int .i64 0, .bool false] #[.int .i64 68, .int .i64 j, .string ⟨#[]⟩, .int .i64 0] 23 47 45
    have HP := Lib.hid hp
    have HR := Lib.hid hr
    have HA := Lib.hid ha
    have HB := Lib.hid hb
    have p0 := hp.cell 0; have p1 := hp.cell 1; have p2 := hp.cell 2
    simp only [List.getElem?_toArray, List.getElem?_cons_zero, List.getElem?_cons_succ] at p0 p1 p2
    clear hp hr ha hb
    generalize ((w.alloc (.cells #[.int .i64 68, .int .i64 j, .string d] 23)).alloc (.cells #[.int .i64 0, .int .i64 0, .string ⟨#[]⟩, .int .i64 0, .bool false] 47)).alloc (.cells #[.int .i64 68, .int .i64 j, .string ⟨#[]⟩, .int .i64 0] 45) = w2 at *
    go_wp2_with fail
    (with_reducible refine (HW.out _).mono ?_)
    rintro e w3 ⟨rfl, hb⟩
    have HP3 := Lib.hid (HP.out.below hb HP.out.lt)
    have HR3 := Lib.hid (HR.out.below hb HR.out.lt)
    have HA3 := Lib.hid (HA.out.below hb HA.out.lt)
    have HB3 := Lib.hid (HB.out.trans (hb.mono HB.out.size))
    clear p0 p1 p2 hb HP HR HA HB HW
    have p0 := HP3.out.cell 0; have p1 := HP3.out.cell 1; have p2 := HP3.out.cell 2
    have r0 := HR3.out.cell 0; have r1 := HR3.out.cell 1; have r2 := HR3.out.cell 2; have r3 := HR3.out.cell 3; have r4 := HR3.out.cell 4
    have a0 := HA3.out.cell 0; have a1 := HA3.out.cell 1; have a2 := HA3.out.cell 2; have a3 := HA3.out.cell 3
    have f0 := HR3.out.free 0; have f1 := HR3.out.free 1; have f2 := HR3.out.free 2; have f3 := HR3.out.free 3; have f4 := HR3.out.free 4
    have g2 := HA3.out.free 2; have g3 := HA3.out.free 3
    simp only [List.getElem?_toArray, List.getElem?_cons_zero, List.getElem?_cons_succ] at p0 p1 p2 r0 r1 r2 r3 r4 a0 a1 a2 a3
    clear HP3 HR3 HA3
    go_wp2
    ((try simp only [Exit.inBlock, Exit.then]); refine bodyPost_ret (v := (.agg #[.int .i64 0, .int .i64 0, .string ⟨#[]⟩, .int .i64 0, .bool false])) ?_ rfl ⟨?_, ?_⟩; (rw [results_cell1 rfl]; go_simp))
    · rfl
    · repeat (first | (with_reducible exact HB3.out) | refine below_set ?_ _ _ (by omega) _)
  | true =>
    by_cases hs : d.size = 1
    · have h0 : 0 < d.size := by omega
      have h0' : (0 : Int) < (d.size : Int) := by omega
      have es : ((d.size : Int) == 1) = true := by rw [hs]; rfl
      have es' : ((d.size : Int) != 1) = false := by rw [hs]; rfl
      have hg := get0 d h0
      by_cases hz : 0 < d[0].toNat
      · have ez : decide ((0 : Int) < (d[0].toNat : Int)) = true := by simp; omega
        have ez' : ((d[0].toNat : Int) == 0) = false := by simp; omega
        have ez2 : (d[0].toNat : Int) ≤ 255 := by have := d[0].toNat_lt; omega
        have hh : Pr.hear ⟨68, j, d⟩ = some ⟨68, j, Pr.e0, (d[0].toNat : Int)⟩ := by rw [hear_68 68 j d (by decide) hW, hg, if_pos ⟨hs, hz⟩]
        rw [hh]
        have HW := Lib.hid (rwhole_walk 68 j d)
        rw [hW] at HW
        clear hW hh
        go_enter Tryd.func16, Tryd.ntmps16
        go_upto_region 2 with (fail)
        obtain ⟨hp, hr, ha, hb⟩ := rn_three w #[.int .i64 68, .int .i64 j, .string d] #[.int .i64 0, .int .i64 0, .string ⟨#[]⟩, .int .i64 0, .bool false] #[.int .i64 68, .int .i64 j, .string ⟨#[]⟩, .int .i64 0] 23 47 45
        have HP := Lib.hid hp
        have HR := Lib.hid hr
        have HA := Lib.hid ha
        have HB := Lib.hid hb
        have p0 := hp.cell 0; have p1 := hp.cell 1; have p2 := hp.cell 2
        simp only [List.getElem?_toArray, List.getElem?_cons_zero, List.getElem?_cons_succ] at p0 p1 p2
        clear hp hr ha hb
        generalize ((w.alloc (.cells #[.int .i64 68, .int .i64 j, .string d] 23)).alloc (.cells #[.int .i64 0, .int .i64 0, .string ⟨#[]⟩, .int .i64 0, .bool false] 47)).alloc (.cells #[.int .i64 68, .int .i64 j, .string ⟨#[]⟩, .int .i64 0] 45) = w2 at *
        go_wp2_with fail
        (with_reducible refine (HW.out _).mono ?_)
        rintro e w3 ⟨rfl, hb⟩
        have HP3 := Lib.hid (HP.out.below hb HP.out.lt)
        have HR3 := Lib.hid (HR.out.below hb HR.out.lt)
        have HA3 := Lib.hid (HA.out.below hb HA.out.lt)
        have HB3 := Lib.hid (HB.out.trans (hb.mono HB.out.size))
        clear p0 p1 p2 hb HP HR HA HB HW
        have p0 := HP3.out.cell 0; have p1 := HP3.out.cell 1; have p2 := HP3.out.cell 2
        have r0 := HR3.out.cell 0; have r1 := HR3.out.cell 1; have r2 := HR3.out.cell 2; have r3 := HR3.out.cell 3; have r4 := HR3.out.cell 4
        have a0 := HA3.out.cell 0; have a1 := HA3.out.cell 1; have a2 := HA3.out.cell 2; have a3 := HA3.out.cell 3
        have f0 := HR3.out.free 0; have f1 := HR3.out.free 1; have f2 := HR3.out.free 2; have f3 := HR3.out.free 3; have f4 := HR3.out.free 4
        have g2 := HA3.out.free 2; have g3 := HA3.out.free 3
        simp only [List.getElem?_toArray, List.getElem?_cons_zero, List.getElem?_cons_succ] at p0 p1 p2 r0 r1 r2 r3 r4 a0 a1 a2 a3
        clear HP3 HR3 HA3
        go_wp2
        ((try simp only [Exit.inBlock, Exit.then]); refine bodyPost_ret (v := (.agg #[.int .i64 68, .int .i64 j, .string ⟨#[]⟩, .int .i64 (d[0].toNat : Int), .bool true])) ?_ rfl ⟨?_, ?_⟩; (rw [results_cell1 rfl]; go_simp))
        · rfl
        · repeat (first | (with_reducible exact HB3.out) | refine below_set ?_ _ _ (by omega) _)
      · have ez : decide ((0 : Int) < (d[0].toNat : Int)) = false := by simp; omega
        have ez' : ((d[0].toNat : Int) == 0) = true := by simp; omega
        have hh : Pr.hear ⟨68, j, d⟩ = none := by rw [hear_68 68 j d (by decide) hW, hg, if_neg (fun x => hz x.2)]
        rw [hh]
        have HW := Lib.hid (rwhole_walk 68 j d)
        rw [hW] at HW
        clear hW hh
        go_enter Tryd.func16, Tryd.ntmps16
        go_upto_region 2 with (fail)
        obtain ⟨hp, hr, ha, hb⟩ := rn_three w #[.int .i64 68, .int .i64 j, .string d] #[.int .i64 0, .int .i64 0, .string ⟨#[]⟩, .int .i64 0, .bool false] #[.int .i64 68, .int .i64 j, .string ⟨#[]⟩, .int .i64 0] 23 47 45
        have HP := Lib.hid hp
        have HR := Lib.hid hr
        have HA := Lib.hid ha
        have HB := Lib.hid hb
        have p0 := hp.cell 0; have p1 := hp.cell 1; have p2 := hp.cell 2
        simp only [List.getElem?_toArray, List.getElem?_cons_zero, List.getElem?_cons_succ] at p0 p1 p2
        clear hp hr ha hb
        generalize ((w.alloc (.cells #[.int .i64 68, .int .i64 j, .string d] 23)).alloc (.cells #[.int .i64 0, .int .i64 0, .string ⟨#[]⟩, .int .i64 0, .bool false] 47)).alloc (.cells #[.int .i64 68, .int .i64 j, .string ⟨#[]⟩, .int .i64 0] 45) = w2 at *
        go_wp2_with fail
        (with_reducible refine (HW.out _).mono ?_)
        rintro e w3 ⟨rfl, hb⟩
        have HP3 := Lib.hid (HP.out.below hb HP.out.lt)
        have HR3 := Lib.hid (HR.out.below hb HR.out.lt)
        have HA3 := Lib.hid (HA.out.below hb HA.out.lt)
        have HB3 := Lib.hid (HB.out.trans (hb.mono HB.out.size))
        clear p0 p1 p2 hb HP HR HA HB HW
        have p0 := HP3.out.cell 0; have p1 := HP3.out.cell 1; have p2 := HP3.out.cell 2
        have r0 := HR3.out.cell 0; have r1 := HR3.out.cell 1; have r2 := HR3.out.cell 2; have r3 := HR3.out.cell 3; have r4 := HR3.out.cell 4
        have a0 := HA3.out.cell 0; have a1 := HA3.out.cell 1; have a2 := HA3.out.cell 2; have a3 := HA3.out.cell 3
        have f0 := HR3.out.free 0; have f1 := HR3.out.free 1; have f2 := HR3.out.free 2; have f3 := HR3.out.free 3; have f4 := HR3.out.free 4
        have g2 := HA3.out.free 2; have g3 := HA3.out.free 3
        simp only [List.getElem?_toArray, List.getElem?_cons_zero, List.getElem?_cons_succ] at p0 p1 p2 r0 r1 r2 r3 r4 a0 a1 a2 a3
        clear HP3 HR3 HA3
        go_wp2
        ((try simp only [Exit.inBlock, Exit.then]); refine bodyPost_ret (v := (.agg #[.int .i64 0, .int .i64 0, .string ⟨#[]⟩, .int .i64 0, .bool false])) ?_ rfl ⟨?_, ?_⟩; (rw [results_cell1 rfl]; go_simp))
        · rfl
        · repeat (first | (with_reducible exact HB3.out) | refine below_set ?_ _ _ (by omega) _)
    · have es : ((d.size : Int) == 1) = false := by simpa using (by omega : (d.size : Int) ≠ 1)
      have es' : ((d.size : Int) != 1) = true := by simpa using (by omega : (d.size : Int) ≠ 1)
      have hh : Pr.hear ⟨68, j, d⟩ = none := by rw [hear_68 68 j d (by decide) hW, if_neg (fun x => hs x.1)]
      rw [hh]
      have HW := Lib.hid (rwhole_walk 68 j d)
      rw [hW] at HW
      clear hW hh
      go_enter Tryd.func16, Tryd.ntmps16
      go_upto_region 2 with (fail)
      obtain ⟨hp, hr, ha, hb⟩ := rn_three w #[.int .i64 68, .int .i64 j, .string d] #[.int .i64 0, .int .i64 0, .string ⟨#[]⟩, .int .i64 0, .bool false] #[.int .i64 68, .int .i64 j, .string ⟨#[]⟩, .int .i64 0] 23 47 45
      have HP := Lib.hid hp
      have HR := Lib.hid hr
      have HA := Lib.hid ha
      have HB := Lib.hid hb
      have p0 := hp.cell 0; have p1 := hp.cell 1; have p2 := hp.cell 2
      simp only [List.getElem?_toArray, List.getElem?_cons_zero, List.getElem?_cons_succ] at p0 p1 p2
      clear hp hr ha hb
      generalize ((w.alloc (.cells #[.int .i64 68, .int .i64 j, .string d] 23)).alloc (.cells #[.int .i64 0, .int .i64 0, .string ⟨#[]⟩, .int .i64 0, .bool false] 47)).alloc (.cells #[.int .i64 68, .int .i64 j, .string ⟨#[]⟩, .int .i64 0] 45) = w2 at *
      go_wp2_with fail
      (with_reducible refine (HW.out _).mono ?_)
      rintro e w3 ⟨rfl, hb⟩
      have HP3 := Lib.hid (HP.out.below hb HP.out.lt)
      have HR3 := Lib.hid (HR.out.below hb HR.out.lt)
      have HA3 := Lib.hid (HA.out.below hb HA.out.lt)
      have HB3 := Lib.hid (HB.out.trans (hb.mono HB.out.size))
      clear p0 p1 p2 hb HP HR HA HB HW
      have p0 := HP3.out.cell 0; have p1 := HP3.out.cell 1; have p2 := HP3.out.cell 2
      have r0 := HR3.out.cell 0; have r1 := HR3.out.cell 1; have r2 := HR3.out.cell 2; have r3 := HR3.out.cell 3; have r4 := HR3.out.cell 4
      have a0 := HA3.out.cell 0; have a1 := HA3.out.cell 1; have a2 := HA3.out.cell 2; have a3 := HA3.out.cell 3
      have f0 := HR3.out.free 0; have f1 := HR3.out.free 1; have f2 := HR3.out.free 2; have f3 := HR3.out.free 3; have f4 := HR3.out.free 4
      have g2 := HA3.out.free 2; have g3 := HA3.out.free 3
      simp only [List.getElem?_toArray, List.getElem?_cons_zero, List.getElem?_cons_succ] at p0 p1 p2 r0 r1 r2 r3 r4 a0 a1 a2 a3
      clear HP3 HR3 HA3
      go_wp2
      ((try simp only [Exit.inBlock, Exit.then]); refine bodyPost_ret (v := (.agg #[.int .i64 0, .int .i64 0, .string ⟨#[]⟩, .int .i64 0, .bool false])) ?_ rfl ⟨?_, ?_⟩; (rw [results_cell1 rfl]; go_simp))
      · rfl
      · repeat (first | (with_reducible exact HB3.out) | refine below_set ?_ _ _ (by omega) _)
set_option maxRecDepth 100000 in
set_option maxHeartbeats 1600000 in
theorem rhear69 (j : Int) (d : ByteArray) (w : World) : Calls Tryd.prog 16 #[.agg #[.int .i64 69, .int .i64 j, .string d]] w fun e w' => e = .returned (toldV (Pr.hear ⟨69, j, d⟩)) ∧ Below w.heap.size w w' := by
  cases hW : Pr.whole ⟨69, j, d⟩ with
  | false =>
    have hh : Pr.hear ⟨69, j, d⟩ = none := by rw [hear_w _ hW]
    rw [hh]
    have HW := Lib.hid (rwhole_walk 69 j d)
    rw [hW] at HW
    clear hW hh
    go_enter Tryd.func16, Tryd.ntmps16
    go_upto_region 2 with (fail)
    obtain ⟨hp, hr, ha, hb⟩ := rn_three w #[.int .i64 69, .int .i64 j, .string d] #[.int .i64 0, .int .i64 0, .string ⟨#[]⟩, .int .i64 0, .bool false] #[.int .i64 69, .int .i64 j, .string ⟨#[]⟩, .int .i64 0] 23 47 45
    have HP := Lib.hid hp
    have HR := Lib.hid hr
    have HA := Lib.hid ha
    have HB := Lib.hid hb
    have p0 := hp.cell 0; have p1 := hp.cell 1; have p2 := hp.cell 2
    simp only [List.getElem?_toArray, List.getElem?_cons_zero, List.getElem?_cons_succ] at p0 p1 p2
    clear hp hr ha hb
    generalize ((w.alloc (.cells #[.int .i64 69, .int .i64 j, .string d] 23)).alloc (.cells #[.int .i64 0, .int .i64 0, .string ⟨#[]⟩, .int .i64 0, .bool false] 47)).alloc (.cells #[.int .i64 69, .int .i64 j, .string ⟨#[]⟩, .int .i64 0] 45) = w2 at *
    go_wp2_with fail
    (with_reducible refine (HW.out _).mono ?_)
    rintro e w3 ⟨rfl, hb⟩
    have HP3 := Lib.hid (HP.out.below hb HP.out.lt)
    have HR3 := Lib.hid (HR.out.below hb HR.out.lt)
    have HA3 := Lib.hid (HA.out.below hb HA.out.lt)
    have HB3 := Lib.hid (HB.out.trans (hb.mono HB.out.size))
    clear p0 p1 p2 hb HP HR HA HB HW
    have p0 := HP3.out.cell 0; have p1 := HP3.out.cell 1; have p2 := HP3.out.cell 2
    have r0 := HR3.out.cell 0; have r1 := HR3.out.cell 1; have r2 := HR3.out.cell 2; have r3 := HR3.out.cell 3; have r4 := HR3.out.cell 4
    have a0 := HA3.out.cell 0; have a1 := HA3.out.cell 1; have a2 := HA3.out.cell 2; have a3 := HA3.out.cell 3
    have f0 := HR3.out.free 0; have f1 := HR3.out.free 1; have f2 := HR3.out.free 2; have f3 := HR3.out.free 3; have f4 := HR3.out.free 4
    have g2 := HA3.out.free 2; have g3 := HA3.out.free 3
    simp only [List.getElem?_toArray, List.getElem?_cons_zero, List.getElem?_cons_succ] at p0 p1 p2 r0 r1 r2 r3 r4 a0 a1 a2 a3
    clear HP3 HR3 HA3
    go_wp2
    ((try simp only [Exit.inBlock, Exit.then]); refine bodyPost_ret (v := (.agg #[.int .i64 0, .int .i64 0, .string ⟨#[]⟩, .int .i64 0, .bool false])) ?_ rfl ⟨?_, ?_⟩; (rw [results_cell1 rfl]; go_simp))
    · rfl
    · repeat (first | (with_reducible exact HB3.out) | refine below_set ?_ _ _ (by omega) _)
  | true =>
    by_cases hs : d.size = 1
    · have h0 : 0 < d.size := by omega
      have h0' : (0 : Int) < (d.size : Int) := by omega
      have es : ((d.size : Int) == 1) = true := by rw [hs]; rfl
      have es' : ((d.size : Int) != 1) = false := by rw [hs]; rfl
      have hg := get0 d h0
      by_cases hz : 0 < d[0].toNat
      · have ez : decide ((0 : Int) < (d[0].toNat : Int)) = true := by simp; omega
        have ez' : ((d[0].toNat : Int) == 0) = false := by simp; omega
        have ez2 : (d[0].toNat : Int) ≤ 255 := by have := d[0].toNat_lt; omega
        have hh : Pr.hear ⟨69, j, d⟩ = some ⟨69, j, Pr.e0, (d[0].toNat : Int)⟩ := by rw [hear_68 69 j d (by decide) hW, hg, if_pos ⟨hs, hz⟩]
        rw [hh]
        have HW := Lib.hid (rwhole_walk 69 j d)
        rw [hW] at HW
        clear hW hh
        go_enter Tryd.func16, Tryd.ntmps16
        go_upto_region 2 with (fail)
        obtain ⟨hp, hr, ha, hb⟩ := rn_three w #[.int .i64 69, .int .i64 j, .string d] #[.int .i64 0, .int .i64 0, .string ⟨#[]⟩, .int .i64 0, .bool false] #[.int .i64 69, .int .i64 j, .string ⟨#[]⟩, .int .i64 0] 23 47 45
        have HP := Lib.hid hp
        have HR := Lib.hid hr
        have HA := Lib.hid ha
        have HB := Lib.hid hb
        have p0 := hp.cell 0; have p1 := hp.cell 1; have p2 := hp.cell 2
        simp only [List.getElem?_toArray, List.getElem?_cons_zero, List.getElem?_cons_succ] at p0 p1 p2
        clear hp hr ha hb
        generalize ((w.alloc (.cells #[.int .i64 69, .int .i64 j, .string d] 23)).alloc (.cells #[.int .i64 0, .int .i64 0, .string ⟨#[]⟩, .int .i64 0, .bool false] 47)).alloc (.cells #[.int .i64 69, .int .i64 j, .string ⟨#[]⟩, .int .i64 0] 45) = w2 at *
        go_wp2_with fail
        (with_reducible refine (HW.out _).mono ?_)
        rintro e w3 ⟨rfl, hb⟩
        have HP3 := Lib.hid (HP.out.below hb HP.out.lt)
        have HR3 := Lib.hid (HR.out.below hb HR.out.lt)
        have HA3 := Lib.hid (HA.out.below hb HA.out.lt)
        have HB3 := Lib.hid (HB.out.trans (hb.mono HB.out.size))
        clear p0 p1 p2 hb HP HR HA HB HW
        have p0 := HP3.out.cell 0; have p1 := HP3.out.cell 1; have p2 := HP3.out.cell 2
        have r0 := HR3.out.cell 0; have r1 := HR3.out.cell 1; have r2 := HR3.out.cell 2; have r3 := HR3.out.cell 3; have r4 := HR3.out.cell 4
        have a0 := HA3.out.cell 0; have a1 := HA3.out.cell 1; have a2 := HA3.out.cell 2; have a3 := HA3.out.cell 3
        have f0 := HR3.out.free 0; have f1 := HR3.out.free 1; have f2 := HR3.out.free 2; have f3 := HR3.out.free 3; have f4 := HR3.out.free 4
        have g2 := HA3.out.free 2; have g3 := HA3.out.free 3
        simp only [List.getElem?_toArray, List.getElem?_cons_zero, List.getElem?_cons_succ] at p0 p1 p2 r0 r1 r2 r3 r4 a0 a1 a2 a3
        clear HP3 HR3 HA3
        go_wp2
        ((try simp only [Exit.inBlock, Exit.then]); refine bodyPost_ret (v := (.agg #[.int .i64 69, .int .i64 j, .string ⟨#[]⟩, .int .i64 (d[0].toNat : Int), .bool true])) ?_ rfl ⟨?_, ?_⟩; (rw [results_cell1 rfl]; go_simp))
        · rfl
        · repeat (first | (with_reducible exact HB3.out) | refine below_set ?_ _ _ (by omega) _)
      · have ez : decide ((0 : Int) < (d[0].toNat : Int)) = false := by simp; omega
        have ez' : ((d[0].toNat : Int) == 0) = true := by simp; omega
        have hh : Pr.hear ⟨69, j, d⟩ = none := by rw [hear_68 69 j d (by decide) hW, hg, if_neg (fun x => hz x.2)]
        rw [hh]
        have HW := Lib.hid (rwhole_walk 69 j d)
        rw [hW] at HW
        clear hW hh
        go_enter Tryd.func16, Tryd.ntmps16
        go_upto_region 2 with (fail)
        obtain ⟨hp, hr, ha, hb⟩ := rn_three w #[.int .i64 69, .int .i64 j, .string d] #[.int .i64 0, .int .i64 0, .string ⟨#[]⟩, .int .i64 0, .bool false] #[.int .i64 69, .int .i64 j, .string ⟨#[]⟩, .int .i64 0] 23 47 45
        have HP := Lib.hid hp
        have HR := Lib.hid hr
        have HA := Lib.hid ha
        have HB := Lib.hid hb
        have p0 := hp.cell 0; have p1 := hp.cell 1; have p2 := hp.cell 2
        simp only [List.getElem?_toArray, List.getElem?_cons_zero, List.getElem?_cons_succ] at p0 p1 p2
        clear hp hr ha hb
        generalize ((w.alloc (.cells #[.int .i64 69, .int .i64 j, .string d] 23)).alloc (.cells #[.int .i64 0, .int .i64 0, .string ⟨#[]⟩, .int .i64 0, .bool false] 47)).alloc (.cells #[.int .i64 69, .int .i64 j, .string ⟨#[]⟩, .int .i64 0] 45) = w2 at *
        go_wp2_with fail
        (with_reducible refine (HW.out _).mono ?_)
        rintro e w3 ⟨rfl, hb⟩
        have HP3 := Lib.hid (HP.out.below hb HP.out.lt)
        have HR3 := Lib.hid (HR.out.below hb HR.out.lt)
        have HA3 := Lib.hid (HA.out.below hb HA.out.lt)
        have HB3 := Lib.hid (HB.out.trans (hb.mono HB.out.size))
        clear p0 p1 p2 hb HP HR HA HB HW
        have p0 := HP3.out.cell 0; have p1 := HP3.out.cell 1; have p2 := HP3.out.cell 2
        have r0 := HR3.out.cell 0; have r1 := HR3.out.cell 1; have r2 := HR3.out.cell 2; have r3 := HR3.out.cell 3; have r4 := HR3.out.cell 4
        have a0 := HA3.out.cell 0; have a1 := HA3.out.cell 1; have a2 := HA3.out.cell 2; have a3 := HA3.out.cell 3
        have f0 := HR3.out.free 0; have f1 := HR3.out.free 1; have f2 := HR3.out.free 2; have f3 := HR3.out.free 3; have f4 := HR3.out.free 4
        have g2 := HA3.out.free 2; have g3 := HA3.out.free 3
        simp only [List.getElem?_toArray, List.getElem?_cons_zero, List.getElem?_cons_succ] at p0 p1 p2 r0 r1 r2 r3 r4 a0 a1 a2 a3
        clear HP3 HR3 HA3
        go_wp2
        ((try simp only [Exit.inBlock, Exit.then]); refine bodyPost_ret (v := (.agg #[.int .i64 0, .int .i64 0, .string ⟨#[]⟩, .int .i64 0, .bool false])) ?_ rfl ⟨?_, ?_⟩; (rw [results_cell1 rfl]; go_simp))
        · rfl
        · repeat (first | (with_reducible exact HB3.out) | refine below_set ?_ _ _ (by omega) _)
    · have es : ((d.size : Int) == 1) = false := by simpa using (by omega : (d.size : Int) ≠ 1)
      have es' : ((d.size : Int) != 1) = true := by simpa using (by omega : (d.size : Int) ≠ 1)
      have hh : Pr.hear ⟨69, j, d⟩ = none := by rw [hear_68 69 j d (by decide) hW, if_neg (fun x => hs x.1)]
      rw [hh]
      have HW := Lib.hid (rwhole_walk 69 j d)
      rw [hW] at HW
      clear hW hh
      go_enter Tryd.func16, Tryd.ntmps16
      go_upto_region 2 with (fail)
      obtain ⟨hp, hr, ha, hb⟩ := rn_three w #[.int .i64 69, .int .i64 j, .string d] #[.int .i64 0, .int .i64 0, .string ⟨#[]⟩, .int .i64 0, .bool false] #[.int .i64 69, .int .i64 j, .string ⟨#[]⟩, .int .i64 0] 23 47 45
      have HP := Lib.hid hp
      have HR := Lib.hid hr
      have HA := Lib.hid ha
      have HB := Lib.hid hb
      have p0 := hp.cell 0; have p1 := hp.cell 1; have p2 := hp.cell 2
      simp only [List.getElem?_toArray, List.getElem?_cons_zero, List.getElem?_cons_succ] at p0 p1 p2
      clear hp hr ha hb
      generalize ((w.alloc (.cells #[.int .i64 69, .int .i64 j, .string d] 23)).alloc (.cells #[.int .i64 0, .int .i64 0, .string ⟨#[]⟩, .int .i64 0, .bool false] 47)).alloc (.cells #[.int .i64 69, .int .i64 j, .string ⟨#[]⟩, .int .i64 0] 45) = w2 at *
      go_wp2_with fail
      (with_reducible refine (HW.out _).mono ?_)
      rintro e w3 ⟨rfl, hb⟩
      have HP3 := Lib.hid (HP.out.below hb HP.out.lt)
      have HR3 := Lib.hid (HR.out.below hb HR.out.lt)
      have HA3 := Lib.hid (HA.out.below hb HA.out.lt)
      have HB3 := Lib.hid (HB.out.trans (hb.mono HB.out.size))
      clear p0 p1 p2 hb HP HR HA HB HW
      have p0 := HP3.out.cell 0; have p1 := HP3.out.cell 1; have p2 := HP3.out.cell 2
      have r0 := HR3.out.cell 0; have r1 := HR3.out.cell 1; have r2 := HR3.out.cell 2; have r3 := HR3.out.cell 3; have r4 := HR3.out.cell 4
      have a0 := HA3.out.cell 0; have a1 := HA3.out.cell 1; have a2 := HA3.out.cell 2; have a3 := HA3.out.cell 3
      have f0 := HR3.out.free 0; have f1 := HR3.out.free 1; have f2 := HR3.out.free 2; have f3 := HR3.out.free 3; have f4 := HR3.out.free 4
      have g2 := HA3.out.free 2; have g3 := HA3.out.free 3
      simp only [List.getElem?_toArray, List.getElem?_cons_zero, List.getElem?_cons_succ] at p0 p1 p2 r0 r1 r2 r3 r4 a0 a1 a2 a3
      clear HP3 HR3 HA3
      go_wp2
      ((try simp only [Exit.inBlock, Exit.then]); refine bodyPost_ret (v := (.agg #[.int .i64 0, .int .i64 0, .string ⟨#[]⟩, .int .i64 0, .bool false])) ?_ rfl ⟨?_, ?_⟩; (rw [results_cell1 rfl]; go_simp))
      · rfl
      · repeat (first | (with_reducible exact HB3.out) | refine below_set ?_ _ _ (by omega) _)
set_option maxRecDepth 100000 in
set_option maxHeartbeats 1600000 in
theorem rhear70 (j : Int) (d : ByteArray) (w : World) : Calls Tryd.prog 16 #[.agg #[.int .i64 70, .int .i64 j, .string d]] w fun e w' => e = .returned (toldV (Pr.hear ⟨70, j, d⟩)) ∧ Below w.heap.size w w' := by
  cases hW : Pr.whole ⟨70, j, d⟩ with
  | false =>
    have hh : Pr.hear ⟨70, j, d⟩ = none := by rw [hear_w _ hW]
    rw [hh]
    have HW := Lib.hid (rwhole_walk 70 j d)
    rw [hW] at HW
    clear hW hh
    go_enter Tryd.func16, Tryd.ntmps16
    go_upto_region 2 with (fail)
    obtain ⟨hp, hr, ha, hb⟩ := rn_three w #[.int .i64 70, .int .i64 j, .string d] #[.int .i64 0, .int .i64 0, .string ⟨#[]⟩, .int .i64 0, .bool false] #[.int .i64 70, .int .i64 j, .string ⟨#[]⟩, .int .i64 0] 23 47 45
    have HP := Lib.hid hp
    have HR := Lib.hid hr
    have HA := Lib.hid ha
    have HB := Lib.hid hb
    have p0 := hp.cell 0; have p1 := hp.cell 1; have p2 := hp.cell 2
    simp only [List.getElem?_toArray, List.getElem?_cons_zero, List.getElem?_cons_succ] at p0 p1 p2
    clear hp hr ha hb
    generalize ((w.alloc (.cells #[.int .i64 70, .int .i64 j, .string d] 23)).alloc (.cells #[.int .i64 0, .int .i64 0, .string ⟨#[]⟩, .int .i64 0, .bool false] 47)).alloc (.cells #[.int .i64 70, .int .i64 j, .string ⟨#[]⟩, .int .i64 0] 45) = w2 at *
    go_wp2_with fail
    (with_reducible refine (HW.out _).mono ?_)
    rintro e w3 ⟨rfl, hb⟩
    have HP3 := Lib.hid (HP.out.below hb HP.out.lt)
    have HR3 := Lib.hid (HR.out.below hb HR.out.lt)
    have HA3 := Lib.hid (HA.out.below hb HA.out.lt)
    have HB3 := Lib.hid (HB.out.trans (hb.mono HB.out.size))
    clear p0 p1 p2 hb HP HR HA HB HW
    have p0 := HP3.out.cell 0; have p1 := HP3.out.cell 1; have p2 := HP3.out.cell 2
    have r0 := HR3.out.cell 0; have r1 := HR3.out.cell 1; have r2 := HR3.out.cell 2; have r3 := HR3.out.cell 3; have r4 := HR3.out.cell 4
    have a0 := HA3.out.cell 0; have a1 := HA3.out.cell 1; have a2 := HA3.out.cell 2; have a3 := HA3.out.cell 3
    have f0 := HR3.out.free 0; have f1 := HR3.out.free 1; have f2 := HR3.out.free 2; have f3 := HR3.out.free 3; have f4 := HR3.out.free 4
    have g2 := HA3.out.free 2; have g3 := HA3.out.free 3
    simp only [List.getElem?_toArray, List.getElem?_cons_zero, List.getElem?_cons_succ] at p0 p1 p2 r0 r1 r2 r3 r4 a0 a1 a2 a3
    clear HP3 HR3 HA3
    go_wp2
    ((try simp only [Exit.inBlock, Exit.then]); refine bodyPost_ret (v := (.agg #[.int .i64 0, .int .i64 0, .string ⟨#[]⟩, .int .i64 0, .bool false])) ?_ rfl ⟨?_, ?_⟩; (rw [results_cell1 rfl]; go_simp))
    · rfl
    · repeat (first | (with_reducible exact HB3.out) | refine below_set ?_ _ _ (by omega) _)
  | true =>
    by_cases hj : j = 0
    · have ej : (j == 0) = true := by rw [hj]; rfl
      have ej' : (j != 0) = false := by rw [hj]; rfl
      have hh : Pr.hear ⟨70, j, d⟩ = some ⟨70, j, d, 0⟩ := by rw [hear_65 70 j d (by decide) hW, if_pos hj]
      rw [hh]
      clear hj
      have HW := Lib.hid (rwhole_walk 70 j d)
      rw [hW] at HW
      clear hW hh
      go_enter Tryd.func16, Tryd.ntmps16
      go_upto_region 2 with (fail)
      obtain ⟨hp, hr, ha, hb⟩ := rn_three w #[.int .i64 70, .int .i64 j, .string d] #[.int .i64 0, .int .i64 0, .string ⟨#[]⟩, .int .i64 0, .bool false] #[.int .i64 70, .int .i64 j, .string ⟨#[]⟩, .int .i64 0] 23 47 45
      have HP := Lib.hid hp
      have HR := Lib.hid hr
      have HA := Lib.hid ha
      have HB := Lib.hid hb
      have p0 := hp.cell 0; have p1 := hp.cell 1; have p2 := hp.cell 2
      simp only [List.getElem?_toArray, List.getElem?_cons_zero, List.getElem?_cons_succ] at p0 p1 p2
      clear hp hr ha hb
      generalize ((w.alloc (.cells #[.int .i64 70, .int .i64 j, .string d] 23)).alloc (.cells #[.int .i64 0, .int .i64 0, .string ⟨#[]⟩, .int .i64 0, .bool false] 47)).alloc (.cells #[.int .i64 70, .int .i64 j, .string ⟨#[]⟩, .int .i64 0] 45) = w2 at *
      go_wp2_with fail
      (with_reducible refine (HW.out _).mono ?_)
      rintro e w3 ⟨rfl, hb⟩
      have HP3 := Lib.hid (HP.out.below hb HP.out.lt)
      have HR3 := Lib.hid (HR.out.below hb HR.out.lt)
      have HA3 := Lib.hid (HA.out.below hb HA.out.lt)
      have HB3 := Lib.hid (HB.out.trans (hb.mono HB.out.size))
      clear p0 p1 p2 hb HP HR HA HB HW
      have p0 := HP3.out.cell 0; have p1 := HP3.out.cell 1; have p2 := HP3.out.cell 2
      have r0 := HR3.out.cell 0; have r1 := HR3.out.cell 1; have r2 := HR3.out.cell 2; have r3 := HR3.out.cell 3; have r4 := HR3.out.cell 4
      have a0 := HA3.out.cell 0; have a1 := HA3.out.cell 1; have a2 := HA3.out.cell 2; have a3 := HA3.out.cell 3
      have f0 := HR3.out.free 0; have f1 := HR3.out.free 1; have f2 := HR3.out.free 2; have f3 := HR3.out.free 3; have f4 := HR3.out.free 4
      have g2 := HA3.out.free 2; have g3 := HA3.out.free 3
      simp only [List.getElem?_toArray, List.getElem?_cons_zero, List.getElem?_cons_succ] at p0 p1 p2 r0 r1 r2 r3 r4 a0 a1 a2 a3
      clear HP3 HR3 HA3
      go_wp2
      ((try simp only [Exit.inBlock, Exit.then]); refine bodyPost_ret (v := (.agg #[.int .i64 70, .int .i64 j, .string d, .int .i64 0, .bool true])) ?_ rfl ⟨?_, ?_⟩; (rw [results_cell1 rfl]; go_simp))
      · rfl
      · repeat (first | (with_reducible exact HB3.out) | refine below_set ?_ _ _ (by omega) _)
    · have ej : (j == 0) = false := by simpa using hj
      have ej' : (j != 0) = true := by simpa using hj
      have hh : Pr.hear ⟨70, j, d⟩ = none := by rw [hear_65 70 j d (by decide) hW, if_neg hj]
      rw [hh]
      clear hj
      have HW := Lib.hid (rwhole_walk 70 j d)
      rw [hW] at HW
      clear hW hh
      go_enter Tryd.func16, Tryd.ntmps16
      go_upto_region 2 with (fail)
      obtain ⟨hp, hr, ha, hb⟩ := rn_three w #[.int .i64 70, .int .i64 j, .string d] #[.int .i64 0, .int .i64 0, .string ⟨#[]⟩, .int .i64 0, .bool false] #[.int .i64 70, .int .i64 j, .string ⟨#[]⟩, .int .i64 0] 23 47 45
      have HP := Lib.hid hp
      have HR := Lib.hid hr
      have HA := Lib.hid ha
      have HB := Lib.hid hb
      have p0 := hp.cell 0; have p1 := hp.cell 1; have p2 := hp.cell 2
      simp only [List.getElem?_toArray, List.getElem?_cons_zero, List.getElem?_cons_succ] at p0 p1 p2
      clear hp hr ha hb
      generalize ((w.alloc (.cells #[.int .i64 70, .int .i64 j, .string d] 23)).alloc (.cells #[.int .i64 0, .int .i64 0, .string ⟨#[]⟩, .int .i64 0, .bool false] 47)).alloc (.cells #[.int .i64 70, .int .i64 j, .string ⟨#[]⟩, .int .i64 0] 45) = w2 at *
      go_wp2_with fail
      (with_reducible refine (HW.out _).mono ?_)
      rintro e w3 ⟨rfl, hb⟩
      have HP3 := Lib.hid (HP.out.below hb HP.out.lt)
      have HR3 := Lib.hid (HR.out.below hb HR.out.lt)
      have HA3 := Lib.hid (HA.out.below hb HA.out.lt)
      have HB3 := Lib.hid (HB.out.trans (hb.mono HB.out.size))
      clear p0 p1 p2 hb HP HR HA HB HW
      have p0 := HP3.out.cell 0; have p1 := HP3.out.cell 1; have p2 := HP3.out.cell 2
      have r0 := HR3.out.cell 0; have r1 := HR3.out.cell 1; have r2 := HR3.out.cell 2; have r3 := HR3.out.cell 3; have r4 := HR3.out.cell 4
      have a0 := HA3.out.cell 0; have a1 := HA3.out.cell 1; have a2 := HA3.out.cell 2; have a3 := HA3.out.cell 3
      have f0 := HR3.out.free 0; have f1 := HR3.out.free 1; have f2 := HR3.out.free 2; have f3 := HR3.out.free 3; have f4 := HR3.out.free 4
      have g2 := HA3.out.free 2; have g3 := HA3.out.free 3
      simp only [List.getElem?_toArray, List.getElem?_cons_zero, List.getElem?_cons_succ] at p0 p1 p2 r0 r1 r2 r3 r4 a0 a1 a2 a3
      clear HP3 HR3 HA3
      go_wp2
      ((try simp only [Exit.inBlock, Exit.then]); refine bodyPost_ret (v := (.agg #[.int .i64 0, .int .i64 0, .string ⟨#[]⟩, .int .i64 0, .bool false])) ?_ rfl ⟨?_, ?_⟩; (rw [results_cell1 rfl]; go_simp))
      · rfl
      · repeat (first | (with_reducible exact HB3.out) | refine below_set ?_ _ _ (by omega) _)
set_option maxRecDepth 100000 in
set_option maxHeartbeats 1600000 in
theorem rhearx (t j : Int) (d : ByteArray) (w : World) (h1 : t ≠ 65) (h2 : t ≠ 66) (h3 : t ≠ 67) (h4 : t ≠ 68) (h5 : t ≠ 69) (h6 : t ≠ 70) : Calls Tryd.prog 16 #[.agg #[.int .i64 t, .int .i64 j, .string d]] w fun e w' => e = .returned (toldV (Pr.hear ⟨t, j, d⟩)) ∧ Below w.heap.size w w' := by
  have hh : Pr.hear ⟨t, j, d⟩ = none := by simp [Pr.hear, h1, h2, h3, h4, h5, h6]
  have e65 : (t == 65) = false := by simpa using h1
  have e66 : (t == 66) = false := by simpa using h2
  have e67 : (t == 67) = false := by simpa using h3
  have e68 : (t == 68) = false := by simpa using h4
  have e69 : (t == 69) = false := by simpa using h5
  have e70 : (t == 70) = false := by simpa using h6
  have hlo : decide (t < 65) = true ∨ (decide (t < 65) = false ∧ decide (70 < t) = true) := by
    by_cases h : t < 65
    · exact .inl (decide_eq_true h)
    · exact .inr ⟨decide_eq_false h, decide_eq_true (by omega)⟩
  clear h1 h2 h3 h4 h5 h6
  rw [hh]
  cases hW : Pr.whole ⟨t, j, d⟩ with
  | false =>
    rcases hlo with hlo | ⟨hlo, hhi⟩
    · have HW := Lib.hid (rwhole_walk t j d)
      rw [hW] at HW
      clear hW hh
      go_enter Tryd.func16, Tryd.ntmps16
      go_upto_region 2 with (fail)
      obtain ⟨hp, hr, ha, hb⟩ := rn_three w #[.int .i64 t, .int .i64 j, .string d] #[.int .i64 0, .int .i64 0, .string ⟨#[]⟩, .int .i64 0, .bool false] #[.int .i64 t, .int .i64 j, .string ⟨#[]⟩, .int .i64 0] 23 47 45
      have HP := Lib.hid hp
      have HR := Lib.hid hr
      have HA := Lib.hid ha
      have HB := Lib.hid hb
      have p0 := hp.cell 0; have p1 := hp.cell 1; have p2 := hp.cell 2
      simp only [List.getElem?_toArray, List.getElem?_cons_zero, List.getElem?_cons_succ] at p0 p1 p2
      clear hp hr ha hb
      generalize ((w.alloc (.cells #[.int .i64 t, .int .i64 j, .string d] 23)).alloc (.cells #[.int .i64 0, .int .i64 0, .string ⟨#[]⟩, .int .i64 0, .bool false] 47)).alloc (.cells #[.int .i64 t, .int .i64 j, .string ⟨#[]⟩, .int .i64 0] 45) = w2 at *
      go_wp2_with fail
      (with_reducible refine (HW.out _).mono ?_)
      rintro e w3 ⟨rfl, hb⟩
      have HP3 := Lib.hid (HP.out.below hb HP.out.lt)
      have HR3 := Lib.hid (HR.out.below hb HR.out.lt)
      have HA3 := Lib.hid (HA.out.below hb HA.out.lt)
      have HB3 := Lib.hid (HB.out.trans (hb.mono HB.out.size))
      clear p0 p1 p2 hb HP HR HA HB HW
      have p0 := HP3.out.cell 0; have p1 := HP3.out.cell 1; have p2 := HP3.out.cell 2
      have r0 := HR3.out.cell 0; have r1 := HR3.out.cell 1; have r2 := HR3.out.cell 2; have r3 := HR3.out.cell 3; have r4 := HR3.out.cell 4
      have a0 := HA3.out.cell 0; have a1 := HA3.out.cell 1; have a2 := HA3.out.cell 2; have a3 := HA3.out.cell 3
      have f0 := HR3.out.free 0; have f1 := HR3.out.free 1; have f2 := HR3.out.free 2; have f3 := HR3.out.free 3; have f4 := HR3.out.free 4
      have g2 := HA3.out.free 2; have g3 := HA3.out.free 3
      simp only [List.getElem?_toArray, List.getElem?_cons_zero, List.getElem?_cons_succ] at p0 p1 p2 r0 r1 r2 r3 r4 a0 a1 a2 a3
      clear HP3 HR3 HA3
      go_wp2
      ((try simp only [Exit.inBlock, Exit.then]); refine bodyPost_ret (v := (.agg #[.int .i64 0, .int .i64 0, .string ⟨#[]⟩, .int .i64 0, .bool false])) ?_ rfl ⟨?_, ?_⟩; (rw [results_cell1 rfl]; go_simp))
      · rfl
      · repeat (first | (with_reducible exact HB3.out) | refine below_set ?_ _ _ (by omega) _)
    · have HW := Lib.hid (rwhole_walk t j d)
      rw [hW] at HW
      clear hW hh
      go_enter Tryd.func16, Tryd.ntmps16
      go_upto_region 2 with (fail)
      obtain ⟨hp, hr, ha, hb⟩ := rn_three w #[.int .i64 t, .int .i64 j, .string d] #[.int .i64 0, .int .i64 0, .string ⟨#[]⟩, .int .i64 0, .bool false] #[.int .i64 t, .int .i64 j, .string ⟨#[]⟩, .int .i64 0] 23 47 45
      have HP := Lib.hid hp
      have HR := Lib.hid hr
      have HA := Lib.hid ha
      have HB := Lib.hid hb
      have p0 := hp.cell 0; have p1 := hp.cell 1; have p2 := hp.cell 2
      simp only [List.getElem?_toArray, List.getElem?_cons_zero, List.getElem?_cons_succ] at p0 p1 p2
      clear hp hr ha hb
      generalize ((w.alloc (.cells #[.int .i64 t, .int .i64 j, .string d] 23)).alloc (.cells #[.int .i64 0, .int .i64 0, .string ⟨#[]⟩, .int .i64 0, .bool false] 47)).alloc (.cells #[.int .i64 t, .int .i64 j, .string ⟨#[]⟩, .int .i64 0] 45) = w2 at *
      go_wp2_with fail
      (with_reducible refine (HW.out _).mono ?_)
      rintro e w3 ⟨rfl, hb⟩
      have HP3 := Lib.hid (HP.out.below hb HP.out.lt)
      have HR3 := Lib.hid (HR.out.below hb HR.out.lt)
      have HA3 := Lib.hid (HA.out.below hb HA.out.lt)
      have HB3 := Lib.hid (HB.out.trans (hb.mono HB.out.size))
      clear p0 p1 p2 hb HP HR HA HB HW
      have p0 := HP3.out.cell 0; have p1 := HP3.out.cell 1; have p2 := HP3.out.cell 2
      have r0 := HR3.out.cell 0; have r1 := HR3.out.cell 1; have r2 := HR3.out.cell 2; have r3 := HR3.out.cell 3; have r4 := HR3.out.cell 4
      have a0 := HA3.out.cell 0; have a1 := HA3.out.cell 1; have a2 := HA3.out.cell 2; have a3 := HA3.out.cell 3
      have f0 := HR3.out.free 0; have f1 := HR3.out.free 1; have f2 := HR3.out.free 2; have f3 := HR3.out.free 3; have f4 := HR3.out.free 4
      have g2 := HA3.out.free 2; have g3 := HA3.out.free 3
      simp only [List.getElem?_toArray, List.getElem?_cons_zero, List.getElem?_cons_succ] at p0 p1 p2 r0 r1 r2 r3 r4 a0 a1 a2 a3
      clear HP3 HR3 HA3
      go_wp2
      ((try simp only [Exit.inBlock, Exit.then]); refine bodyPost_ret (v := (.agg #[.int .i64 0, .int .i64 0, .string ⟨#[]⟩, .int .i64 0, .bool false])) ?_ rfl ⟨?_, ?_⟩; (rw [results_cell1 rfl]; go_simp))
      · rfl
      · repeat (first | (with_reducible exact HB3.out) | refine below_set ?_ _ _ (by omega) _)
  | true =>
    rcases hlo with hlo | ⟨hlo, hhi⟩
    · have HW := Lib.hid (rwhole_walk t j d)
      rw [hW] at HW
      clear hW hh
      go_enter Tryd.func16, Tryd.ntmps16
      go_upto_region 2 with (fail)
      obtain ⟨hp, hr, ha, hb⟩ := rn_three w #[.int .i64 t, .int .i64 j, .string d] #[.int .i64 0, .int .i64 0, .string ⟨#[]⟩, .int .i64 0, .bool false] #[.int .i64 t, .int .i64 j, .string ⟨#[]⟩, .int .i64 0] 23 47 45
      have HP := Lib.hid hp
      have HR := Lib.hid hr
      have HA := Lib.hid ha
      have HB := Lib.hid hb
      have p0 := hp.cell 0; have p1 := hp.cell 1; have p2 := hp.cell 2
      simp only [List.getElem?_toArray, List.getElem?_cons_zero, List.getElem?_cons_succ] at p0 p1 p2
      clear hp hr ha hb
      generalize ((w.alloc (.cells #[.int .i64 t, .int .i64 j, .string d] 23)).alloc (.cells #[.int .i64 0, .int .i64 0, .string ⟨#[]⟩, .int .i64 0, .bool false] 47)).alloc (.cells #[.int .i64 t, .int .i64 j, .string ⟨#[]⟩, .int .i64 0] 45) = w2 at *
      go_wp2_with fail
      (with_reducible refine (HW.out _).mono ?_)
      rintro e w3 ⟨rfl, hb⟩
      have HP3 := Lib.hid (HP.out.below hb HP.out.lt)
      have HR3 := Lib.hid (HR.out.below hb HR.out.lt)
      have HA3 := Lib.hid (HA.out.below hb HA.out.lt)
      have HB3 := Lib.hid (HB.out.trans (hb.mono HB.out.size))
      clear p0 p1 p2 hb HP HR HA HB HW
      have p0 := HP3.out.cell 0; have p1 := HP3.out.cell 1; have p2 := HP3.out.cell 2
      have r0 := HR3.out.cell 0; have r1 := HR3.out.cell 1; have r2 := HR3.out.cell 2; have r3 := HR3.out.cell 3; have r4 := HR3.out.cell 4
      have a0 := HA3.out.cell 0; have a1 := HA3.out.cell 1; have a2 := HA3.out.cell 2; have a3 := HA3.out.cell 3
      have f0 := HR3.out.free 0; have f1 := HR3.out.free 1; have f2 := HR3.out.free 2; have f3 := HR3.out.free 3; have f4 := HR3.out.free 4
      have g2 := HA3.out.free 2; have g3 := HA3.out.free 3
      simp only [List.getElem?_toArray, List.getElem?_cons_zero, List.getElem?_cons_succ] at p0 p1 p2 r0 r1 r2 r3 r4 a0 a1 a2 a3
      clear HP3 HR3 HA3
      go_wp2
      ((try simp only [Exit.inBlock, Exit.then]); refine bodyPost_ret (v := (.agg #[.int .i64 0, .int .i64 0, .string ⟨#[]⟩, .int .i64 0, .bool false])) ?_ rfl ⟨?_, ?_⟩; (rw [results_cell1 rfl]; go_simp))
      · rfl
      · repeat (first | (with_reducible exact HB3.out) | refine below_set ?_ _ _ (by omega) _)
    · have HW := Lib.hid (rwhole_walk t j d)
      rw [hW] at HW
      clear hW hh
      go_enter Tryd.func16, Tryd.ntmps16
      go_upto_region 2 with (fail)
      obtain ⟨hp, hr, ha, hb⟩ := rn_three w #[.int .i64 t, .int .i64 j, .string d] #[.int .i64 0, .int .i64 0, .string ⟨#[]⟩, .int .i64 0, .bool false] #[.int .i64 t, .int .i64 j, .string ⟨#[]⟩, .int .i64 0] 23 47 45
      have HP := Lib.hid hp
      have HR := Lib.hid hr
      have HA := Lib.hid ha
      have HB := Lib.hid hb
      have p0 := hp.cell 0; have p1 := hp.cell 1; have p2 := hp.cell 2
      simp only [List.getElem?_toArray, List.getElem?_cons_zero, List.getElem?_cons_succ] at p0 p1 p2
      clear hp hr ha hb
      generalize ((w.alloc (.cells #[.int .i64 t, .int .i64 j, .string d] 23)).alloc (.cells #[.int .i64 0, .int .i64 0, .string ⟨#[]⟩, .int .i64 0, .bool false] 47)).alloc (.cells #[.int .i64 t, .int .i64 j, .string ⟨#[]⟩, .int .i64 0] 45) = w2 at *
      go_wp2_with fail
      (with_reducible refine (HW.out _).mono ?_)
      rintro e w3 ⟨rfl, hb⟩
      have HP3 := Lib.hid (HP.out.below hb HP.out.lt)
      have HR3 := Lib.hid (HR.out.below hb HR.out.lt)
      have HA3 := Lib.hid (HA.out.below hb HA.out.lt)
      have HB3 := Lib.hid (HB.out.trans (hb.mono HB.out.size))
      clear p0 p1 p2 hb HP HR HA HB HW
      have p0 := HP3.out.cell 0; have p1 := HP3.out.cell 1; have p2 := HP3.out.cell 2
      have r0 := HR3.out.cell 0; have r1 := HR3.out.cell 1; have r2 := HR3.out.cell 2; have r3 := HR3.out.cell 3; have r4 := HR3.out.cell 4
      have a0 := HA3.out.cell 0; have a1 := HA3.out.cell 1; have a2 := HA3.out.cell 2; have a3 := HA3.out.cell 3
      have f0 := HR3.out.free 0; have f1 := HR3.out.free 1; have f2 := HR3.out.free 2; have f3 := HR3.out.free 3; have f4 := HR3.out.free 4
      have g2 := HA3.out.free 2; have g3 := HA3.out.free 3
      simp only [List.getElem?_toArray, List.getElem?_cons_zero, List.getElem?_cons_succ] at p0 p1 p2 r0 r1 r2 r3 r4 a0 a1 a2 a3
      clear HP3 HR3 HA3
      go_wp2
      ((try simp only [Exit.inBlock, Exit.then]); refine bodyPost_ret (v := (.agg #[.int .i64 0, .int .i64 0, .string ⟨#[]⟩, .int .i64 0, .bool false])) ?_ rfl ⟨?_, ?_⟩; (rw [results_cell1 rfl]; go_simp))
      · rfl
      · repeat (first | (with_reducible exact HB3.out) | refine below_set ?_ _ _ (by omega) _)
theorem rhear_walk (t j : Int) (d : ByteArray) (w : World) : Calls Tryd.prog 16 #[.agg #[.int .i64 t, .int .i64 j, .string d]] w fun e w' => e = .returned (toldV (Pr.hear ⟨t, j, d⟩)) ∧ Below w.heap.size w w' := by
  by_cases h65 : t = 65
  · subst h65; exact rhear65 j d w
  by_cases h66 : t = 66
  · subst h66; exact rhear66 j d w
  by_cases h67 : t = 67
  · subst h67; exact rhear67 j d w
  by_cases h68 : t = 68
  · subst h68; exact rhear68 j d w
  by_cases h69 : t = 69
  · subst h69; exact rhear69 j d w
  by_cases h70 : t = 70
  · subst h70; exact rhear70 j d w
  exact rhearx t j d w h65 h66 h67 h68 h69 h70
end Go.Proofs.YtckdbkbecelgcaaDoor
