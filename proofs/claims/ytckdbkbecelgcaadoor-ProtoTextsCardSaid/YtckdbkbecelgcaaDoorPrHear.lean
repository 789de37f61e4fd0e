/- Answers: Hear. (Printed by gen_prohear.py.) -/
import Derived.Test.YtckdbkbecelgcaaDoorPrWalk2
namespace Go.Proofs.YtckdbkbecelgcaaDoor
open Go.RowKit
set_option linter.unusedVariables false
set_option linter.unusedSimpArgs false

theorem rn_three (w : World) (cs ds es : Array Value) (T U V : TypeId) : Has (((w.alloc (.cells cs T)).alloc (.cells ds U)).alloc (.cells es V)) w.heap.size cs T ∧ Has (((w.alloc (.cells cs T)).alloc (.cells ds U)).alloc (.cells es V)) (w.heap.size + 1) ds U ∧ Has (((w.alloc (.cells cs T)).alloc (.cells ds U)).alloc (.cells es V)) (w.heap.size + 1 + 1) es V ∧ Below w.heap.size w (((w.alloc (.cells cs T)).alloc (.cells ds U)).alloc (.cells es V)) := by
  obtain ⟨h1, h2, h3⟩ := rn_two w cs ds T U
  refine ⟨h1.alloc _, h2.alloc _, ?_, h3.alloc h3.size _⟩
  have := Has.new ((w.alloc (.cells cs T)).alloc (.cells ds U)) es V
  rw [World.size_alloc, World.size_alloc] at this
  exact this
theorem get0 (d : ByteArray) (h0 : 0 < d.size) : d.data.toList.getD 0 0 = d[0] := by rw [List.getD, List.getElem?_eq_getElem (by rw [llen]; exact h0), lget d 0 h0]; rfl
theorem below_set {B : Nat} {w w' : World} (h : Below B w w') (b i : Nat) (hb : B ≤ b) (v : Value) : Below B w (w'.setCell ⟨b, i, none⟩ v) := h.setCell hb v
def hearV (o : Option Pr.An) : Value := match o with
  | some a => .tuple #[.agg #[.int .i64 a.t, .int .i64 a.j, .string a.txt, .int .i64 a.err], .int .i64 0]
  | none => .tuple #[.agg #[.int .i64 0, .int .i64 0, .string ⟨#[]⟩, .int .i64 0], .int .i64 35]
def toldV (o : Option Pr.An) : Value := match o with
  | some a => .agg #[.int .i64 a.t, .int .i64 a.j, .string a.txt, .int .i64 a.err, .bool true]
  | none => .agg #[.int .i64 0, .int .i64 0, .string ⟨#[]⟩, .int .i64 0, .bool false]
theorem hear_w (f : Fr.Frm) (h : Pr.whole f = false) : Pr.hear f = none := by unfold Pr.hear; rw [if_pos h]
theorem hear_65 (t j : Int) (d : ByteArray) (ht : t = 65 ∨ t = 70) (hw : Pr.whole ⟨t, j, d⟩ = true) : Pr.hear ⟨t, j, d⟩ = if j = 0 then some ⟨t, j, d, 0⟩ else none := by
  unfold Pr.hear
  rw [if_neg (by rw [hw]; decide), if_pos ht]
theorem hear_66 (j : Int) (d : ByteArray) (hw : Pr.whole ⟨66, j, d⟩ = true) : Pr.hear ⟨66, j, d⟩ = some ⟨66, j, d, 0⟩ := by
  unfold Pr.hear
  rw [if_neg (by rw [hw]; decide), if_neg (by simp only; decide), if_pos rfl]
theorem hear_67 (j : Int) (d : ByteArray) (hw : Pr.whole ⟨67, j, d⟩ = true) : Pr.hear ⟨67, j, d⟩ = if d.size = 0 then some ⟨67, j, Pr.e0, 0⟩ else none := by
  unfold Pr.hear
  rw [if_neg (by rw [hw]; decide), if_neg (by simp only; decide), if_neg (by simp only; decide), if_pos rfl]
theorem hear_68 (t j : Int) (d : ByteArray) (ht : t = 68 ∨ t = 69) (hw : Pr.whole ⟨t, j, d⟩ = true) : Pr.hear ⟨t, j, d⟩ = if d.size = 1 ∧ 0 < (d.data.toList.getD 0 0).toNat then some ⟨t, j, Pr.e0, ((d.data.toList.getD 0 0).toNat : Int)⟩ else none := by
  unfold Pr.hear
  rw [if_neg (by rw [hw]; decide), if_neg (by simp only; omega), if_neg (by simp only; omega), if_neg (by simp only; omega), if_pos ht]
set_option maxRecDepth 100000 in
set_option maxHeartbeats 1600000 in
theorem phear65 (j : Int) (d : ByteArray) (w : World) : Calls Tryd.prog 15 #[.agg #[.int .i64 65, .int .i64 j, .string d]] w fun e w' => e = .returned (hearV (Pr.hear ⟨65, j, d⟩)) ∧ Below w.heap.size w w' := by
  cases hW : Pr.whole ⟨65, j, d⟩ with
  | false =>
    have hh : Pr.hear ⟨65, j, d⟩ = none := by rw [hear_w _ hW]
    rw [hh]
    have HW := Lib.hid (pwhole_walk 65 j d)
    rw [hW] at HW
    clear hW hh
    go_enter Tryd.func15, Tryd.ntmps15
    go_upto_region 2 with (fail)
    obtain ⟨hp, hr, ha, hb⟩ := rn_three w #[.int .i64 65, .int .i64 j, .string d] #[.int .i64 0, .int .i64 0, .string ⟨#[]⟩, .int .i64 0] #[.int .i64 65, .int .i64 j, .string ⟨#[]⟩, .int .i64 0] 23 42 42
    have HP := Lib.hid hp
    have HR := Lib.hid hr
    have HA := Lib.hid ha
    have HB := Lib.hid hb
    have p0 := hp.cell 0; have p1 := hp.cell 1; have p2 := hp.cell 2
    simp only [List.getElem?_toArray, List.getElem?_cons_zero, List.getElem?_cons_succ] at p0 p1 p2
    clear hp hr ha hb
    generalize ((w.alloc (.cells #[.int .i64 65, .int .i64 j, .string d] 23)).alloc (.cells #[.int .i64 0, .int .i64 0, .string ⟨#[]⟩, .int .i64 0] 42)).alloc (.cells #[.int .i64 65, .int .i64 j, .string ⟨#[]⟩, .int .i64 0] 42) = w2 at *
    go_wp2_with fail
    (with_reducible refine (HW.out _).mono ?_)
    rintro e w3 ⟨rfl, hb⟩
    have HP3 := Lib.hid (HP.out.below hb HP.out.lt)
    have HR3 := Lib.hid (HR.out.below hb HR.out.lt)
    have HA3 := Lib.hid (HA.out.below hb HA.out.lt)
    have HB3 := Lib.hid (HB.out.trans (hb.mono HB.out.size))
    clear p0 p1 p2 hb HP HR HA HB HW
    have p0 := HP3.out.cell 0; have p1 := HP3.out.cell 1; have p2 := HP3.out.cell 2
    have r0 := HR3.out.cell 0; have r1 := HR3.out.cell 1; have r2 := HR3.out.cell 2; have r3 := HR3.out.cell 3
    have a0 := HA3.out.cell 0; have a1 := HA3.out.cell 1; have a2 := HA3.out.cell 2; have a3 := HA3.out.cell 3
    have f0 := HR3.out.free 0; have f1 := HR3.out.free 1; have f2 := HR3.out.free 2; have f3 := HR3.out.free 3
    have g2 := HA3.out.free 2; have g3 := HA3.out.free 3
    simp only [List.getElem?_toArray, List.getElem?_cons_zero, List.getElem?_cons_succ] at p0 p1 p2 r0 r1 r2 r3 a0 a1 a2 a3
    clear HP3 HR3 HA3
    go_wp2
    ((try simp only [Exit.inBlock, Exit.then]); refine bodyPost_ret (v := (.tuple #[.agg #[.int .i64 0, .int .i64 0, .string ⟨#[]⟩, .int .i64 0], .int .i64 35])) ?_ rfl ⟨?_, ?_⟩; (rw [results_cell_tmp1 rfl]; go_simp))
    · rfl
    · repeat (first | (with_reducible exact HB3.out) | refine below_set ?_ _ _ (by omega) _)
  | true =>
    by_cases hj : j = 0
    · have ej : (j == 0) = true := by rw [hj]; rfl
      have ej' : (j != 0) = false := by rw [hj]; rfl
      have hh : Pr.hear ⟨65, j, d⟩ = some ⟨65, j, d, 0⟩ := by rw [hear_65 65 j d (by decide) hW, if_pos hj]
      rw [hh]
      clear hj
      have HW := Lib.hid (pwhole_walk 65 j d)
      rw [hW] at HW
      clear hW hh
      go_enter Tryd.func15, Tryd.ntmps15
      go_upto_region 2 with (fail)
      obtain ⟨hp, hr, ha, hb⟩ := rn_three w #[.int .i64 65, .int .i64 j, .string d] #[.int .i64 0, .int .i64 0, .string ⟨#[]⟩, .int .i64 0] #[.int .i64 65, .int .i64 j, .string ⟨#[]⟩, .int .i64 0] 23 42 42
      have HP := Lib.hid hp
      have HR := Lib.hid hr
      have HA := Lib.hid ha
      have HB := Lib.hid hb
      have p0 := hp.cell 0; have p1 := hp.cell 1; have p2 := hp.cell 2
      simp only [List.getElem?_toArray, List.getElem?_cons_zero, List.getElem?_cons_succ] at p0 p1 p2
      clear hp hr ha hb
      generalize ((w.alloc (.cells #[.int .i64 65, .int .i64 j, .string d] 23)).alloc (.cells #[.int .i64 0, .int .i64 0, .string ⟨#[]⟩, .int .i64 0] 42)).alloc (.cells #[.int .i64 65, .int .i64 j, .string ⟨#[]⟩, .int .i64 0] 42) = w2 at *
      go_wp2_with fail
      (with_reducible refine (HW.out _).mono ?_)
      rintro e w3 ⟨rfl, hb⟩
      have HP3 := Lib.hid (HP.out.below hb HP.out.lt)
      have HR3 := Lib.hid (HR.out.below hb HR.out.lt)
      have HA3 := Lib.hid (HA.out.below hb HA.out.lt)
      have HB3 := Lib.hid (HB.out.trans (hb.mono HB.out.size))
      clear p0 p1 p2 hb HP HR HA HB HW
      have p0 := HP3.out.cell 0; have p1 := HP3.out.cell 1; have p2 := HP3.out.cell 2
      have r0 := HR3.out.cell 0; have r1 := HR3.out.cell 1; have r2 := HR3.out.cell 2; have r3 := HR3.out.cell 3
      have a0 := HA3.out.cell 0; have a1 := HA3.out.cell 1; have a2 := HA3.out.cell 2; have a3 := HA3.out.cell 3
      have f0 := HR3.out.free 0; have f1 := HR3.out.free 1; have f2 := HR3.out.free 2; have f3 := HR3.out.free 3
      have g2 := HA3.out.free 2; have g3 := HA3.out.free 3
      simp only [List.getElem?_toArray, List.getElem?_cons_zero, List.getElem?_cons_succ] at p0 p1 p2 r0 r1 r2 r3 a0 a1 a2 a3
      clear HP3 HR3 HA3
      go_wp2
      ((try simp only [Exit.inBlock, Exit.then]); refine bodyPost_ret (v := (.tuple #[.agg #[.int .i64 65, .int .i64 j, .string d, .int .i64 0], .int .i64 0])) ?_ rfl ⟨?_, ?_⟩; (rw [results_cell_tmp1 rfl]; go_simp))
      · rfl
      · repeat (first | (with_reducible exact HB3.out) | refine below_set ?_ _ _ (by omega) _)
    · have ej : (j == 0) = false := by simpa using hj
      have ej' : (j != 0) = true := by simpa using hj
      have hh : Pr.hear ⟨65, j, d⟩ = none := by rw [hear_65 65 j d (by decide) hW, if_neg hj]
      rw [hh]
      clear hj
      have HW := Lib.hid (pwhole_walk 65 j d)
      rw [hW] at HW
      clear hW hh
      go_enter Tryd.func15, Tryd.ntmps15
      go_upto_region 2 with (fail)
      obtain ⟨hp, hr, ha, hb⟩ := rn_three w #[.int .i64 65, .int .i64 j, .string d] #[.int .i64 0, .int .i64 0, .string ⟨#[]⟩, .int .i64 0] #[.int .i64 65, .int .i64 j, .string ⟨#[]⟩, .int .i64 0] 23 42 42
      have HP := Lib.hid hp
      have HR := Lib.hid hr
      have HA := Lib.hid ha
      have HB := Lib.hid hb
      have p0 := hp.cell 0; have p1 := hp.cell 1; have p2 := hp.cell 2
      simp only [List.getElem?_toArray, List.getElem?_cons_zero, List.getElem?_cons_succ] at p0 p1 p2
      clear hp hr ha hb
      generalize ((w.alloc (.cells #[.int .i64 65, .int .i64 j, .string d] 23)).alloc (.cells #[.int .i64 0, .int .i64 0, .string ⟨#[]⟩, .int .i64 0] 42)).alloc (.cells #[.int .i64 65, .int .i64 j, .string ⟨#[]⟩, .int .i64 0] 42) = w2 at *
      go_wp2_with fail
      (with_reducible refine (HW.out _).mono ?_)
      rintro e w3 ⟨rfl, hb⟩
      have HP3 := Lib.hid (HP.out.below hb HP.out.lt)
      have HR3 := Lib.hid (HR.out.below hb HR.out.lt)
      have HA3 := Lib.hid (HA.out.below hb HA.out.lt)
      have HB3 := Lib.hid (HB.out.trans (hb.mono HB.out.size))
      clear p0 p1 p2 hb HP HR HA HB HW
      have p0 := HP3.out.cell 0; have p1 := HP3.out.cell 1; have p2 := HP3.out.cell 2
      have r0 := HR3.out.cell 0; have r1 := HR3.out.cell 1; have r2 := HR3.out.cell 2; have r3 := HR3.out.cell 3
      have a0 := HA3.out.cell 0; have a1 := HA3.out.cell 1; have a2 := HA3.out.cell 2; have a3 := HA3.out.cell 3
      have f0 := HR3.out.free 0; have f1 := HR3.out.free 1; have f2 := HR3.out.free 2; have f3 := HR3.out.free 3
      have g2 := HA3.out.free 2; have g3 := HA3.out.free 3
      simp only [List.getElem?_toArray, List.getElem?_cons_zero, List.getElem?_cons_succ] at p0 p1 p2 r0 r1 r2 r3 a0 a1 a2 a3
      clear HP3 HR3 HA3
      go_wp2
      ((try simp only [Exit.inBlock, Exit.then]); refine bodyPost_ret (v := (.tuple #[.agg #[.int .i64 0, .int .i64 0, .string ⟨#[]⟩, .int .i64 0], .int .i64 35])) ?_ rfl ⟨?_, ?_⟩; (rw [results_cell_tmp1 rfl]; go_simp))
      · rfl
      · repeat (first | (with_reducible exact HB3.out) | refine below_set ?_ _ _ (by omega) _)
set_option maxRecDepth 100000 in
set_option maxHeartbeats 1600000 in
theorem phear66 (j : Int) (d : ByteArray) (w : World) : Calls Tryd.prog 15 #[.agg #[.int .i64 66, .int .i64 j, .string d]] w fun e w' => e = .returned (hearV (Pr.hear ⟨66, j, d⟩)) ∧ Below w.heap.size w w' := by
  cases hW : Pr.whole ⟨66, j, d⟩ with
  | false =>
    have hh : Pr.hear ⟨66, j, d⟩ = none := by rw [hear_w _ hW]
    rw [hh]
    have HW := Lib.hid (pwhole_walk 66 j d)
    rw [hW] at HW
    clear hW hh
    go_enter Tryd.func15, Tryd.ntmps15
    go_upto_region 2 with (fail)
    obtain ⟨hp, hr, ha, hb⟩ := rn_three w #[.int .i64 66, .int .i64 j, .string d] #[.int .i64 0, .int .i64 0, .string ⟨#[]⟩, .int .i64 0] #[.int .i64 66, .int .i64 j, .string ⟨#[]⟩, .int .i64 0] 23 42 42
    have HP := Lib.hid hp
    have HR := Lib.hid hr
    have HA := Lib.hid ha
    have HB := Lib.hid hb
    have p0 := hp.cell 0; have p1 := hp.cell 1; have p2 := hp.cell 2
    simp only [List.getElem?_toArray, List.getElem?_cons_zero, List.getElem?_cons_succ] at p0 p1 p2
    clear hp hr ha hb
    generalize ((w.alloc (.cells #[.int .i64 66, .int .i64 j, .string d] 23)).alloc (.cells #[.int .i64 0, .int .i64 0, .string ⟨#[]⟩, .int .i64 0] 42)).alloc (.cells #[.int .i64 66, .int .i64 j, .string ⟨#[]⟩, .int .i64 0] 42) = w2 at *
    go_wp2_with fail
    (with_reducible refine (HW.out _).mono ?_)
    rintro e w3 ⟨rfl, hb⟩
    have HP3 := Lib.hid (HP.out.below hb HP.out.lt)
    have HR3 := Lib.hid (HR.out.below hb HR.out.lt)
    have HA3 := Lib.hid (HA.out.below hb HA.out.lt)
    have HB3 := Lib.hid (HB.out.trans (hb.mono HB.out.size))
    clear p0 p1 p2 hb HP HR HA HB HW
    have p0 := HP3.out.cell 0; have p1 := HP3.out.cell 1; have p2 := HP3.out.cell 2
    have r0 := HR3.out.cell 0; have r1 := HR3.out.cell 1; have r2 := HR3.out.cell 2; have r3 := HR3.out.cell 3
    have a0 := HA3.out.cell 0; have a1 := HA3.out.cell 1; have a2 := HA3.out.cell 2; have a3 := HA3.out.cell 3
    have f0 := HR3.out.free 0; have f1 := HR3.out.free 1; have f2 := HR3.out.free 2; have f3 := HR3.out.free 3
    have g2 := HA3.out.free 2; have g3 := HA3.out.free 3
    simp only [List.getElem?_toArray, List.getElem?_cons_zero, List.getElem?_cons_succ] at p0 p1 p2 r0 r1 r2 r3 a0 a1 a2 a3
    clear HP3 HR3 HA3
    go_wp2
    ((try simp only [Exit.inBlock, Exit.then]); refine bodyPost_ret (v := (.tuple #[.agg #[.int .i64 0, .int .i64 0, .string ⟨#[]⟩, .int .i64 0], .int .i64 35])) ?_ rfl ⟨?_, ?_⟩; (rw [results_cell_tmp1 rfl]; go_simp))
    · rfl
    · repeat (first | (with_reducible exact HB3.out) | refine below_set ?_ _ _ (by omega) _)
  | true =>
    have hh : Pr.hear ⟨66, j, d⟩ = some ⟨66, j, d, 0⟩ := by rw [hear_66 j d hW]
    rw [hh]
    have HW := Lib.hid (pwhole_walk 66 j d)
    rw [hW] at HW
    clear hW hh
    go_enter Tryd.func15, Tryd.ntmps15
    go_upto_region 2 with (fail)
    obtain ⟨hp, hr, ha, hb⟩ := rn_three w #[.int .i64 66, .int .i64 j, .string d] #[.int .i64 0, .int .i64 0, .string ⟨#[]⟩, .int .i64 0] #[.int .i64 66, .int .i64 j, .string ⟨#[]⟩, .int .i64 0] 23 42 42
    have HP := Lib.hid hp
    have HR := Lib.hid hr
    have HA := Lib.hid ha
    have HB := Lib.hid hb
    have p0 := hp.cell 0; have p1 := hp.cell 1; have p2 := hp.cell 2
    simp only [List.getElem?_toArray, List.getElem?_cons_zero, List.getElem?_cons_succ] at p0 p1 p2
    clear hp hr ha hb
    generalize ((w.alloc (.cells #[.int .i64 66, .int .i64 j, .string d] 23)).alloc (.cells #[.int .i64 0, .int .i64 0, .string ⟨#[]⟩, .int .i64 0] 42)).alloc (.cells #[.int .i64 66, .int .i64 j, .string ⟨#[]⟩, .int .i64 0] 42) = w2 at *
    go_wp2_with fail
    (with_reducible refine (HW.out _).mono ?_)
    rintro e w3 ⟨rfl, hb⟩
    have HP3 := Lib.hid (HP.out.below hb HP.out.lt)
    have HR3 := Lib.hid (HR.out.below hb HR.out.lt)
    have HA3 := Lib.hid (HA.out.below hb HA.out.lt)
    have HB3 := Lib.hid (HB.out.trans (hb.mono HB.out.size))
    clear p0 p1 p2 hb HP HR HA HB HW
    have p0 := HP3.out.cell 0; have p1 := HP3.out.cell 1; have p2 := HP3.out.cell 2
    have r0 := HR3.out.cell 0; have r1 := HR3.out.cell 1; have r2 := HR3.out.cell 2; have r3 := HR3.out.cell 3
    have a0 := HA3.out.cell 0; have a1 := HA3.out.cell 1; have a2 := HA3.out.cell 2; have a3 := HA3.out.cell 3
    have f0 := HR3.out.free 0; have f1 := HR3.out.free 1; have f2 := HR3.out.free 2; have f3 := HR3.out.free 3
    have g2 := HA3.out.free 2; have g3 := HA3.out.free 3
    simp only [List.getElem?_toArray, List.getElem?_cons_zero, List.getElem?_cons_succ] at p0 p1 p2 r0 r1 r2 r3 a0 a1 a2 a3
    clear HP3 HR3 HA3
    go_wp2
    ((try simp only [Exit.inBlock, Exit.then]); refine bodyPost_ret (v := (.tuple #[.agg #[.int .i64 66, .int .i64 j, .string d, .int .i64 0], .int .i64 0])) ?_ rfl ⟨?_, ?_⟩; (rw [results_cell_tmp1 rfl]; go_simp))
    · rfl
    · repeat (first | (with_reducible exact HB3.out) | refine below_set ?_ _ _ (by omega) _)
set_option maxRecDepth 100000 in
set_option maxHeartbeats 1600000 in
theorem phear67 (j : Int) (d : ByteArray) (w : World) : Calls Tryd.prog 15 #[.agg #[.int .i64 67, .int .i64 j, .string d]] w fun e w' => e = .returned (hearV (Pr.hear ⟨67, j, d⟩)) ∧ Below w.heap.size w w' := by
  cases hW : Pr.whole ⟨67, j, d⟩ with
  | false =>
    have hh : Pr.hear ⟨67, j, d⟩ = none := by rw [hear_w _ hW]
    rw [hh]
    have HW := Lib.hid (pwhole_walk 67 j d)
    rw [hW] at HW
    clear hW hh
    go_enter Tryd.func15, Tryd.ntmps15
    go_upto_region 2 with (fail)
    obtain ⟨hp, hr, ha, hb⟩ := rn_three w #[.int .i64 67, .int .i64 j, .string d] #[.int .i64 0, .int .i64 0, .string ⟨#[]⟩, .int .i64 0] #[.int .i64 67, .int .i64 j, .string ⟨#[]⟩, .int .i64 0] 23 42 42
    have HP := Lib.hid hp
    have HR := Lib.hid hr
    have HA := Lib.hid ha
    have HB := Lib.hid hb
    have p0 := hp.cell 0; have p1 := hp.cell 1; have p2 := hp.cell 2
    simp only [List.getElem?_toArray, List.getElem?_cons_zero, List.getElem?_cons_succ] at p0 p1 p2
    clear hp hr ha hb
    generalize ((w.alloc (.cells #[.int .i64 67, .int .i64 j, .string d] 23)).alloc (.cells #[.int .i64 0, .int .i64 0, .string ⟨#[]⟩, .int .i64 0] 42)).alloc (.cells #[.int .i64 67, .int .i64 j, .string ⟨#[]⟩, .int .i64 0] 42) = w2 at *
    go_wp2_with fail
    (with_reducible refine (HW.out _).mono ?_)
    rintro e w3 ⟨rfl, hb⟩
    have HP3 := Lib.hid (HP.out.below hb HP.out.lt)
    have HR3 := Lib.hid (HR.out.below hb HR.out.lt)
    have HA3 := Lib.hid (HA.out.below hb HA.out.lt)
    have HB3 := Lib.hid (HB.out.trans (hb.mono HB.out.size))
    clear p0 p1 p2 hb HP HR HA HB HW
    have p0 := HP3.out.cell 0; have p1 := HP3.out.cell 1; have p2 := HP3.out.cell 2
    have r0 := HR3.out.cell 0; have r1 := HR3.out.cell 1; have r2 := HR3.out.cell 2; have r3 := HR3.out.cell 3
    have a0 := HA3.out.cell 0; have a1 := HA3.out.cell 1; have a2 := HA3.out.cell 2; have a3 := HA3.out.cell 3
    have f0 := HR3.out.free 0; have f1 := HR3.out.free 1; have f2 := HR3.out.free 2; have f3 := HR3.out.free 3
    have g2 := HA3.out.free 2; have g3 := HA3.out.free 3
    simp only [List.getElem?_toArray, List.getElem?_cons_zero, List.getElem?_cons_succ] at p0 p1 p2 r0 r1 r2 r3 a0 a1 a2 a3
    clear HP3 HR3 HA3
    go_wp2
    ((try simp only [Exit.inBlock, Exit.then]); refine bodyPost_ret (v := (.tuple #[.agg #[.int .i64 0, .int .i64 0, .string ⟨#[]⟩, .int .i64 0], .int .i64 35])) ?_ rfl ⟨?_, ?_⟩; (rw [results_cell_tmp1 rfl]; go_simp))
    · rfl
    · repeat (first | (with_reducible exact HB3.out) | refine below_set ?_ _ _ (by omega) _)
  | true =>
    by_cases hs : d.size = 0
    · have es : d.toList.isEmpty = true := by rw [sempty, decide_eq_true hs]
      have hh : Pr.hear ⟨67, j, d⟩ = some ⟨67, j, Pr.e0, 0⟩ := by rw [hear_67 j d hW, if_pos hs]
      rw [hh]
      have HW := Lib.hid (pwhole_walk 67 j d)
      rw [hW] at HW
      clear hW hh
      go_enter Tryd.func15, Tryd.ntmps15
      go_upto_region 2 with (fail)
      obtain ⟨hp, hr, ha, hb⟩ := rn_three w #[.int .i64 67, .int .i64 j, .string d] #[.int .i64 0, .int .i64 0, .string ⟨#[]⟩, .int .i64 0] #[.int .i64 67, .int .i64 j, .string ⟨#[]⟩, .int .i64 0] 23 42 42
      have HP := Lib.hid hp
      have HR := Lib.hid hr
      have HA := Lib.hid ha
      have HB := Lib.hid hb
      have p0 := hp.cell 0; have p1 := hp.cell 1; have p2 := hp.cell 2
      simp only [List.getElem?_toArray, List.getElem?_cons_zero, List.getElem?_cons_succ] at p0 p1 p2
      clear hp hr ha hb
      generalize ((w.alloc (.cells #[.int .i64 67, .int .i64 j, .string d] 23)).alloc (.cells #[.int .i64 0, .int .i64 0, .string ⟨#[]⟩, .int .i64 0] 42)).alloc (.cells #[.int .i64 67, .int .i64 j, .string ⟨#[]⟩, .int .i64 0] 42) = w2 at *
      go_wp2_with fail
      (with_reducible refine (HW.out _).mono ?_)
      rintro e w3 ⟨rfl, hb⟩
      have HP3 := Lib.hid (HP.out.below hb HP.out.lt)
      have HR3 := Lib.hid (HR.out.below hb HR.out.lt)
      have HA3 := Lib.hid (HA.out.below hb HA.out.lt)
      have HB3 := Lib.hid (HB.out.trans (hb.mono HB.out.size))
      clear p0 p1 p2 hb HP HR HA HB HW
      have p0 := HP3.out.cell 0; have p1 := HP3.out.cell 1; have p2 := HP3.out.cell 2
      have r0 := HR3.out.cell 0; have r1 := HR3.out.cell 1; have r2 := HR3.out.cell 2; have r3 := HR3.out.cell 3
      have a0 := HA3.out.cell 0; have a1 := HA3.out.cell 1; have a2 := HA3.out.cell 2; have a3 := HA3.out.cell 3
      have f0 := HR3.out.free 0; have f1 := HR3.out.free 1; have f2 := HR3.out.free 2; have f3 := HR3.out.free 3
      have g2 := HA3.out.free 2; have g3 := HA3.out.free 3
      simp only [List.getElem?_toArray, List.getElem?_cons_zero, List.getElem?_cons_succ] at p0 p1 p2 r0 r1 r2 r3 a0 a1 a2 a3
      clear HP3 HR3 HA3
      go_wp2
      ((try simp only [Exit.inBlock, Exit.then]); refine bodyPost_ret (v := (.tuple #[.agg #[.int .i64 67, .int .i64 j, .string ⟨#[]⟩, .int .i64 0], .int .i64 0])) ?_ rfl ⟨?_, ?_⟩; (rw [results_cell_tmp1 rfl]; go_simp))
      · rfl
      · repeat (first | (with_reducible exact HB3.out) | refine below_set ?_ _ _ (by omega) _)
    · have es : d.toList.isEmpty = false := by rw [sempty, decide_eq_false hs]
      have hh : Pr.hear ⟨67, j, d⟩ = none := by rw [hear_67 j d hW, if_neg hs]
      rw [hh]
      have HW := Lib.hid (pwhole_walk 67 j d)
      rw [hW] at HW
      clear hW hh
      go_enter Tryd.func15, Tryd.ntmps15
      go_upto_region 2 with (fail)
      obtain ⟨hp, hr, ha, hb⟩ := rn_three w #[.int .i64 67, .int .i64 j, .string d] #[.int .i64 0, .int .i64 0, .string ⟨#[]⟩, .int .i64 0] #[.int .i64 67, .int .i64 j, .string ⟨#[]⟩, .int .i64 0] 23 42 42
      have HP := Lib.hid hp
      have HR := Lib.hid hr
      have HA := Lib.hid ha
      have HB := Lib.hid hb
      have p0 := hp.cell 0; have p1 := hp.cell 1; have p2 := hp.cell 2
      simp only [List.getElem?_toArray, List.getElem?_cons_zero, List.getElem?_cons_succ] at p0 p1 p2
      clear hp hr ha hb
      generalize ((w.alloc (.cells #[.int .i64 67, .int .i64 j, .string d] 23)).alloc (.cells #[.int .i64 0, .int .i64 0, .string ⟨#[]⟩, .int .i64 0] 42)).alloc (.cells #[.int .i64 67, .int .i64 j, .string ⟨#[]⟩, .int .i64 0] 42) = w2 at *
      go_wp2_with fail
      (with_reducible refine (HW.out _).mono ?_)
      rintro e w3 ⟨rfl, hb⟩
      have HP3 := Lib.hid (HP.out.below hb HP.out.lt)
      have HR3 := Lib.hid (HR.out.below hb HR.out.lt)
      have HA3 := Lib.hid (HA.out.below hb HA.out.lt)
      have HB3 := Lib.hid (HB.out.trans (hb.mono HB.out.size))
      clear p0 p1 p2 hb HP HR HA HB HW
      have p0 := HP3.out.cell 0; have p1 := HP3.out.cell 1; have p2 := HP3.out.cell 2
      have r0 := HR3.out.cell 0; have r1 := HR3.out.cell 1; have r2 := HR3.out.cell 2; have r3 := HR3.out.cell 3
      have a0 := HA3.out.cell 0; have a1 := HA3.out.cell 1; have a2 := HA3.out.cell 2; have a3 := HA3.out.cell 3
      have f0 := HR3.out.free 0; have f1 := HR3.out.free 1; have f2 := HR3.out.free 2; have f3 := HR3.out.free 3
      have g2 := HA3.out.free 2; have g3 := HA3.out.free 3
      simp only [List.getElem?_toArray, List.getElem?_cons_zero, List.getElem?_cons_succ] at p0 p1 p2 r0 r1 r2 r3 a0 a1 a2 a3
      clear HP3 HR3 HA3
      go_wp2
      ((try simp only [Exit.inBlock, Exit.then]); refine bodyPost_ret (v := (.tuple #[.agg #[.int .i64 0, .int .i64 0, .string ⟨#[]⟩, .int .i64 0], .int .i64 35])) ?_ rfl ⟨?_, ?_⟩; (rw [results_cell_tmp1 rfl]; go_simp))
      · rfl
      · repeat (first | (with_reducible exact HB3.out) | refine below_set ?_ _ _ (by omega) _)
set_option maxRecDepth 100000 in
set_option maxHeartbeats 1600000 in
theorem phear68 (j : Int) (d : ByteArray) (w : World) : Calls Tryd.prog 15 #[.agg #[.int .i64 68, .int .i64 j, .string d]] w fun e w' => e = .returned (hearV (Pr.hear ⟨68, j, d⟩)) ∧ Below w.heap.size w w' := by
  cases hW : Pr.whole ⟨68, j, d⟩ with
  | false =>
    have hh : Pr.hear ⟨68, j, d⟩ = none := by rw [hear_w _ hW]
    rw [hh]
    have HW := Lib.hid (pwhole_walk 68 j d)
    rw [hW] at HW
    clear hW hh
    go_enter Tryd.func15, Tryd.ntmps15
    go_upto_region 2 with (fail)
    obtain ⟨hp, hr, ha, hb⟩ := rn_three w #[.int .i64 68, .int .i64 j, .string d] #[.int .i64 0, .int .i64 0, .string ⟨#[]⟩, .int .i64 0] #[.int .i64 68, .int .i64 j, .string ⟨#[]⟩, .int .i64 0] 23 42 42
    have HP := Lib.hid hp
    have HR := Lib.hid hr
    have HA := Lib.hid ha
    have HB := Lib.hid hb
    have p0 := hp.cell 0; have p1 := hp.cell 1; have p2 := hp.cell 2
    simp only [List.getElem?_toArray, List.getElem?_cons_zero, List.getElem?_cons_succ] at p0 p1 p2
    clear hp hr ha hb
    generalize ((w.alloc (.cells #[.int .i64 68, .int .i64 j, .string d] 23)).alloc (.cells #[.int .i64 0, .int .i64 0, .string ⟨#[]⟩, .int .i64 0] 42)).alloc (.cells #[.int .i64 68, .int .i64 j, .string ⟨#[]⟩, .int .i64 0] 42) = w2 at *
    go_wp2_with fail
    (with_reducible refine (HW.out _).mono ?_)
    rintro e w3 ⟨rfl, hb⟩
    have HP3 := Lib.hid (HP.out.below hb HP.out.lt)
    have HR3 := Lib.hid (HR.out.below hb HR.out.lt)
    have HA3 := Lib.hid (HA.out.below hb HA.out.lt)
    have HB3 := Lib.hid (HB.out.trans (hb.mono HB.out.size))
    clear p0 p1 p2 hb HP HR HA HB HW
    have p0 := HP3.out.cell 0; have p1 := HP3.out.cell 1; have p2 := HP3.out.cell 2
    have r0 := HR3.out.cell 0; have r1 := HR3.out.cell 1; have r2 := HR3.out.cell 2; have r3 := HR3.out.cell 3
    have a0 := HA3.out.cell 0; have a1 := HA3.out.cell 1; have a2 := HA3.out.cell 2; have a3 := HA3.out.cell 3
    have f0 := HR3.out.free 0; have f1 := HR3.out.free 1; have f2 := HR3.out.free 2; have f3 := HR3.out.free 3
    have g2 := HA3.out.free 2; have g3 := HA3.out.free 3
    simp only [List.getElem?_toArray, List.getElem?_cons_zero, List.getElem?_cons_succ] at p0 p1 p2 r0 r1 r2 r3 a0 a1 a2 a3
    clear HP3 HR3 HA3
    go_wp2
    ((try simp only [Exit.inBlock, Exit.then]); refine bodyPost_ret (v := (.tuple #[.agg #[.int .i64 0, .int .i64 0, .string ⟨#[]⟩, .int .i64 0], .int .i64 35])) ?_ rfl ⟨?_, ?_⟩; (rw [results_cell_tmp1 rfl]; go_simp))
    · rfl
    · repeat (first | (with_reducible exact HB3.out) | refine below_set ?_ _ _ (by omega) _)
  | true =>
    by_cases hs : d.size = 1
    · have h0 : 0 < d.size := by omega
      have h0' : (0 : Int) < (d.size : Int) := by omega
      have es : ((d.size : Int) == 1) = true := by rw [hs]; rfl
      have es' : ((d.size : Int) != 1) = false := by rw [hs]; rfl
      have hg := get0 d h0
      by_cases hz : 0 < d[0].toNat
      · have ez : decide ((0 : Int) < (d[0].toNat : Int)) = true := by simp; omega
        have ez' : ((d[0].toNat : Int) == 0) = false := by simp; omega
        have ez2 : (d[0].toNat : Int) ≤ 255 := by have := d[0].toNat_lt; omega
        have hh : Pr.hear ⟨68, j, d⟩ = some ⟨68, j, Pr.e0, (d[0].toNat : Int)⟩ := by rw [hear_68 68 j d (by decide) hW, hg, if_pos ⟨hs, hz⟩]
        rw [hh]
        have HW := Lib.hid (pwhole_walk 68 j d)
        rw [hW] at HW
        clear hW hh
        go_enter Tryd.func15, Tryd.ntmps15
        go_upto_region 2 with (fail)
        obtain ⟨hp, hr, ha, hb⟩ := rn_three w #[.int .i64 68, .int .i64 j, .string d] #[.int .i64 0, .int .i64 0, .string ⟨#[]⟩, .int .i64 0] #[.int .i64 68, .int .i64 j, .string ⟨#[]⟩, .int .i64 0] 23 42 42
        have HP := Lib.hid hp
        have HR := Lib.hid hr
        have HA := Lib.hid ha
        have HB := Lib.hid hb
        have p0 := hp.cell 0; have p1 := hp.cell 1; have p2 := hp.cell 2
        simp only [List.getElem?_toArray, List.getElem?_cons_zero, List.getElem?_cons_succ] at p0 p1 p2
        clear hp hr ha hb
        generalize ((w.alloc (.cells #[.int .i64 68, .int .i64 j, .string d] 23)).alloc (.cells #[.int .i64 0, .int .i64 0, .string ⟨#[]⟩, .int .i64 0] 42)).alloc (.cells #[.int .i64 68, .int .i64 j, .string ⟨#[]⟩, .int .i64 0] 42) = w2 at *
        go_wp2_with fail
        (with_reducible refine (HW.out _).mono ?_)
        rintro e w3 ⟨rfl, hb⟩
        have HP3 := Lib.hid (HP.out.below hb HP.out.lt)
        have HR3 := Lib.hid (HR.out.below hb HR.out.lt)
        have HA3 := Lib.hid (HA.out.below hb HA.out.lt)
        have HB3 := Lib.hid (HB.out.trans (hb.mono HB.out.size))
        clear p0 p1 p2 hb HP HR HA HB HW
        have p0 := HP3.out.cell 0; have p1 := HP3.out.cell 1; have p2 := HP3.out.cell 2
        have r0 := HR3.out.cell 0; have r1 := HR3.out.cell 1; have r2 := HR3.out.cell 2; have r3 := HR3.out.cell 3
        have a0 := HA3.out.cell 0; have a1 := HA3.out.cell 1; have a2 := HA3.out.cell 2; have a3 := HA3.out.cell 3
        have f0 := HR3.out.free 0; have f1 := HR3.out.free 1; have f2 := HR3.out.free 2; have f3 := HR3.out.free 3
        have g2 := HA3.out.free 2; have g3 := HA3.out.free 3
        simp only [List.getElem?_toArray, List.getElem?_cons_zero, List.getElem?_cons_succ] at p0 p1 p2 r0 r1 r2 r3 a0 a1 a2 a3
        clear HP3 HR3 HA3
        go_wp2
        ((try simp only [Exit.inBlock, Exit.then]); refine bodyPost_ret (v := (.tuple #[.agg #[.int .i64 68, .int .i64 j, .string ⟨#[]⟩, .int .i64 (d[0].toNat : Int)], .int .i64 0])) ?_ rfl ⟨?_, ?_⟩; (rw [results_cell_tmp1 rfl]; go_simp))
        · rfl
        · repeat (first | (with_reducible exact HB3.out) | refine below_set ?_ _ _ (by omega) _)
      · have ez : decide ((0 : Int) < (d[0].toNat : Int)) = false := by simp; omega
        have ez' : ((d[0].toNat : Int) == 0) = true := by simp; omega
        have hh : Pr.hear ⟨68, j, d⟩ = none := by rw [hear_68 68 j d (by decide) hW, hg, if_neg (fun x => hz x.2)]
        rw [hh]
        have HW := Lib.hid (pwhole_walk 68 j d)
        rw [hW] at HW
        clear hW hh
        go_enter Tryd.func15, Tryd.ntmps15
        go_upto_region 2 with (fail)
        obtain ⟨hp, hr, ha, hb⟩ := rn_three w #[.int .i64 68, .int .i64 j, .string d] #[.int .i64 0, .int .i64 0, .string ⟨#[]⟩, .int .i64 0] #[.int .i64 68, .int .i64 j, .string ⟨#[]⟩, .int .i64 0] 23 42 42
        have HP := Lib.hid hp
        have HR := Lib.hid hr
        have HA := Lib.hid ha
        have HB := Lib.hid hb
        have p0 := hp.cell 0; have p1 := hp.cell 1; have p2 := hp.cell 2
        simp only [List.getElem?_toArray, List.getElem?_cons_zero, List.getElem?_cons_succ] at p0 p1 p2
        clear hp hr ha hb
        generalize ((w.alloc (.cells #[.int .i64 68, .int .i64 j, .string d] 23)).alloc (.cells #[.int .i64 0, .int .i64 0, .string ⟨#[]⟩, .int .i64 0] 42)).alloc (.cells #[.int .i64 68, .int .i64 j, .string ⟨#[]⟩, .int .i64 0] 42) = w2 at *
        go_wp2_with fail
        (with_reducible refine (HW.out _).mono ?_)
        rintro e w3 ⟨rfl, hb⟩
        have HP3 := Lib.hid (HP.out.below hb HP.out.lt)
        have HR3 := Lib.hid (HR.out.below hb HR.out.lt)
        have HA3 := Lib.hid (HA.out.below hb HA.out.lt)
        have HB3 := Lib.hid (HB.out.trans (hb.mono HB.out.size))
        clear p0 p1 p2 hb HP HR HA HB HW
        have p0 := HP3.out.cell 0; have p1 := HP3.out.cell 1; have p2 := HP3.out.cell 2
        have r0 := HR3.out.cell 0; have r1 := HR3.out.cell 1; have r2 := HR3.out.cell 2; have r3 := HR3.out.cell 3
        have a0 := HA3.out.cell 0; have a1 := HA3.out.cell 1; have a2 := HA3.out.cell 2; have a3 := HA3.out.cell 3
        have f0 := HR3.out.free 0; have f1 := HR3.out.free 1; have f2 := HR3.out.free 2; have f3 := HR3.out.free 3
        have g2 := HA3.out.free 2; have g3 := HA3.out.free 3
        simp only [List.getElem?_toArray, List.getElem?_cons_zero, List.getElem?_cons_succ] at p0 p1 p2 r0 r1 r2 r3 a0 a1 a2 a3
        clear HP3 HR3 HA3
        go_wp2
        ((try simp only [Exit.inBlock, Exit.then]); refine bodyPost_ret (v := (.tuple #[.agg #[.int .i64 0, .int .i64 0, .string ⟨#[]⟩, .int .i64 0], .int .i64 35])) ?_ rfl ⟨?_, ?_⟩; (rw [results_cell_tmp1 rfl]; go_simp))
        · rfl
        · repeat (first | (with_reducible exact HB3.out) | refine below_set ?_ _ _ (by omega) _)
    · have es : ((d.size : Int) == 1) = false := by simpa using (by omega : (d.size : Int) ≠ 1)
      have es' : ((d.size : Int) != 1) = true := by simpa using (by omega : (d.size : Int) ≠ 1)
      have hh : Pr.hear ⟨68, j, d⟩ = none := by rw [hear_68 68 j d (by decide) hW, if_neg (fun x => hs x.1)]
      rw [hh]
      have HW := Lib.hid (pwhole_walk 68 j d)
      rw [hW] at HW
      clear hW hh
      go_enter Tryd.func15, Tryd.ntmps15
      go_upto_region 2 with (fail)
      obtain ⟨hp, hr, ha, hb⟩ := rn_three w #[.int .i64 68, .int .i64 j, .string d] #[.int .i64 0, .int .i64 0, .string ⟨#[]⟩, .int .i64 0] #[.int .i64 68, .int .i64 j, .string ⟨#[]⟩, .int .i64 0] 23 42 42
      have HP := Lib.hid hp
      have HR := Lib.hid hr
      have HA := Lib.hid ha
      have HB := Lib.hid hb
      have p0 := hp.cell 0; have p1 := hp.cell 1; have p2 := hp.cell 2
      simp only [List.getElem?_toArray, List.getElem?_cons_zero, List.getElem?_cons_succ] at p0 p1 p2
      clear hp hr ha hb
      generalize ((w.alloc (.cells #[.int .i64 68, .int .i64 j, .string d] 23)).alloc (.cells #[.int .i64 0, .int .i64 0, .string ⟨#[]⟩, .int .i64 0] 42)).alloc (.cells #[.int .i64 68, .int .i64 j, .string ⟨#[]⟩, .int .i64 0] 42) = w2 at *
      go_wp2_with fail
      (with_reducible refine (HW.out _).mono ?_)
      rintro e w3 ⟨rfl, hb⟩
      have HP3 := Lib.hid (HP.out.below hb HP.out.lt)
      have HR3 := Lib.hid (HR.out.below hb HR.out.lt)
      have HA3 := Lib.hid (HA.out.below hb HA.out.lt)
      have HB3 := Lib.hid (HB.out.trans (hb.mono HB.out.size))
      clear p0 p1 p2 hb HP HR HA HB HW
      have p0 := HP3.out.cell 0; have p1 := HP3.out.cell 1; have p2 := HP3.out.cell 2
      have r0 := HR3.out.cell 0; have r1 := HR3.out.cell 1; have r2 := HR3.out.cell 2; have r3 := HR3.out.cell 3
      have a0 := HA3.out.cell 0; have a1 := HA3.out.cell 1; have a2 := HA3.out.cell 2; have a3 := HA3.out.cell 3
      have f0 := HR3.out.free 0; have f1 := HR3.out.free 1; have f2 := HR3.out.free 2; have f3 := HR3.out.free 3
      have g2 := HA3.out.free 2; have g3 := HA3.out.free 3
      simp only [List.getElem?_toArray, List.getElem?_cons_zero, List.getElem?_cons_succ] at p0 p1 p2 r0 r1 r2 r3 a0 a1 a2 a3
      clear HP3 HR3 HA3
      go_wp2
      ((try simp only [Exit.inBlock, Exit.then]); refine bodyPost_ret (v := (.tuple #[.agg #[.int .i64 0, .int .i64 0, .string ⟨#[]⟩, .int .i64 0], .int .i64 35])) ?_ rfl ⟨?_, ?_⟩; (rw [results_cell_tmp1 rfl]; go_simp))
      · rfl
      · repeat (first | (with_reducible exact HB3.out) | refine below_set ?_ _ _ (by omega) _)
set_option maxRecDepth 100000 in
set_option maxHeartbeats 1600000 in
theorem phear69 (j : Int) (d : ByteArray) (w : World) : Calls Tryd.prog 15 #[.agg #[.int .i64 69, .int .i64 j, .string d]] w fun e w' => e = .returned (hearV (Pr.hear ⟨69, j, d⟩)) ∧ Below w.heap.size w w' := by
  cases hW : Pr.whole ⟨69, j, d⟩ with
  | false =>
    have hh : Pr.hear ⟨69, j, d⟩ = none := by rw [hear_w _ hW]
    rw [hh]
    have HW := Lib.hid (pwhole_walk 69 j d)
    rw [hW] at HW
    clear hW hh
    go_enter Tryd.func15, Tryd.ntmps15
    go_upto_region 2 with (fail)
    obtain ⟨hp, hr, ha, hb⟩ := rn_three w #[.int .i64 69, .int .i64 j, .string d] #[.int .i64 0, .int .i64 0, .string ⟨#[]⟩, .int .i64 0] #[.int .i64 69, .int .i64 j, .string ⟨#[]⟩, .int .i64 0] 23 42 42
    have HP := Lib.hid hp
    have HR := Lib.hid hr
    have HA := Lib.hid ha
    have HB := Lib.hid hb
    have p0 := hp.cell 0; have p1 := hp.cell 1; have p2 := hp.cell 2
    simp only [List.getElem?_toArray, List.getElem?_cons_zero, List.getElem?_cons_succ] at p0 p1 p2
    clear hp hr ha hb
    generalize ((w.alloc (.cells #[.int .i64 69, .int .i64 j, .string d] 23)).alloc (.cells #[.int .i64 0, .int .i64 0, .string ⟨#[]⟩, .int .i64 0] 42)).alloc (.cells #[.int .i64 69, .int .i64 j, .string ⟨#[]⟩, .int .i64 0] 42) = w2 at *
    go_wp2_with fail
    (with_reducible refine (HW.out _).mono ?_)
    rintro e w3 ⟨rfl, hb⟩
    have HP3 := Lib.hid (HP.out.below hb HP.out.lt)
    have HR3 := Lib.hid (HR.out.below hb HR.out.lt)
    have HA3 := Lib.hid (HA.out.below hb HA.out.lt)
    have HB3 := Lib.hid (HB.out.trans (hb.mono HB.out.size))
    clear p0 p1 p2 hb HP HR HA HB HW
    have p0 := HP3.out.cell 0; have p1 := HP3.out.cell 1; have p2 := HP3.out.cell 2
    have r0 := HR3.out.cell 0; have r1 := HR3.out.cell 1; have r2 := HR3.out.cell 2; have r3 := HR3.out.cell 3
    have a0 := HA3.out.cell 0; have a1 := HA3.out.cell 1; have a2 := HA3.out.cell 2; have a3 := HA3.out.cell 3
    have f0 := HR3.out.free 0; have f1 := HR3.out.free 1; have f2 := HR3.out.free 2; have f3 := HR3.out.free 3
    have g2 := HA3.out.free 2; have g3 := HA3.out.free 3
    simp only [List.getElem?_toArray, List.getElem?_cons_zero, List.getElem?_cons_succ] at p0 p1 p2 r0 r1 r2 r3 a0 a1 a2 a3
    clear HP3 HR3 HA3
    go_wp2
    ((try simp only [Exit.inBlock, Exit.then]); refine bodyPost_ret (v := (.tuple #[.agg #[.int .i64 0, .int .i64 0, .string ⟨#[]⟩, .int .i64 0], .int .i64 35])) ?_ rfl ⟨?_, ?_⟩; (rw [results_cell_tmp1 rfl]; go_simp))
    · rfl
    · repeat (first | (with_reducible exact HB3.out) | refine below_set ?_ _ _ (by omega) _)
  | true =>
    by_cases hs : d.size = 1
    · have h0 : 0 < d.size := by omega
      have h0' : (0 : Int) < (d.size : Int) := by omega
      have es : ((d.size : Int) == 1) = true := by rw [hs]; rfl
      have es' : ((d.size : Int) != 1) = false := by rw [hs]; rfl
      have hg := get0 d h0
      by_cases hz : 0 < d[0].toNat
      · have ez : decide ((0 : Int) < (d[0].toNat : Int)) = true := by simp; omega
        have ez' : ((d[0].toNat : Int) == 0) = false := by simp; omega
        have ez2 : (d[0].toNat : Int) ≤ 255 := by have := d[0].toNat_lt; omega
        have hh : Pr.hear ⟨69, j, d⟩ = some ⟨69, j, Pr.e0, (d[0].toNat : Int)⟩ := by rw [hear_68 69 j d (by decide) hW, hg, if_pos ⟨hs, hz⟩]
        rw [hh]
        have HW := Lib.hid (pwhole_walk 69 j d)
        rw [hW] at HW
        clear hW hh
        go_enter Tryd.func15, Tryd.ntmps15
        go_upto_region 2 with (fail)
        obtain ⟨hp, hr, ha, hb⟩ := rn_three w #[.int .i64 69, .int .i64 j, .string d] #[.int .i64 0, .int .i64 0, .string ⟨#[]⟩, .int .i64 0] #[.int .i64 69, .int .i64 j, .string ⟨#[]⟩, .int .i64 0] 23 42 42
        have HP := Lib.hid hp
        have HR := Lib.hid hr
        have HA := Lib.hid ha
        have HB := Lib.hid hb
        have p0 := hp.cell 0; have p1 := hp.cell 1; have p2 := hp.cell 2
        simp only [List.getElem?_toArray, List.getElem?_cons_zero, List.getElem?_cons_succ] at p0 p1 p2
        clear hp hr ha hb
        generalize ((w.alloc (.cells #[.int .i64 69, .int .i64 j, .string d] 23)).alloc (.cells #[.int .i64 0, .int .i64 0, .string ⟨#[]⟩, .int .i64 0] 42)).alloc (.cells #[.int .i64 69, .int .i64 j, .string ⟨#[]⟩, .int .i64 0] 42) = w2 at *
        go_wp2_with fail
        (with_reducible refine (HW.out _).mono ?_)
        rintro e w3 ⟨rfl, hb⟩
        have HP3 := Lib.hid (HP.out.below hb HP.out.lt)
        have HR3 := Lib.hid (HR.out.below hb HR.out.lt)
        have HA3 := Lib.hid (HA.out.below hb HA.out.lt)
        have HB3 := Lib.hid (HB.out.trans (hb.mono HB.out.size))
        clear p0 p1 p2 hb HP HR HA HB HW
        have p0 := HP3.out.cell 0; have p1 := HP3.out.cell 1; have p2 := HP3.out.cell 2
        have r0 := HR3.out.cell 0; have r1 := HR3.out.cell 1; have r2 := HR3.out.cell 2; have r3 := HR3.out.cell 3
        have a0 := HA3.out.cell 0; have a1 := HA3.out.cell 1; have a2 := HA3.out.cell 2; have a3 := HA3.out.cell 3
        have f0 := HR3.out.free 0; have f1 := HR3.out.free 1; have f2 := HR3.out.free 2; have f3 := HR3.out.free 3
        have g2 := HA3.out.free 2; have g3 := HA3.out.free 3
        simp only [List.getElem?_toArray, List.getElem?_cons_zero, List.getElem?_cons_succ] at p0 p1 p2 r0 r1 r2 r3 a0 a1 a2 a3
        clear HP3 HR3 HA3
        go_wp2
        ((try simp only [Exit.inBlock, Exit.then]); refine bodyPost_ret (v := (.tuple #[.agg #[.int .i64 69, .int .i64 j, .string ⟨#[]⟩, .int .i64 (d[0].toNat : Int)], .int .i64 0])) ?_ rfl ⟨?_, ?_⟩; (rw [results_cell_tmp1 rfl]; go_simp))
        · rfl
        · repeat (first | (with_reducible exact HB3.out) | refine below_set ?_ _ _ (by omega) _)
      · have ez : decide ((0 : Int) < (d[0].toNat : Int)) = false := by simp; omega
        have ez' : ((d[0].toNat : Int) == 0) = true := by simp; omega
        have hh : Pr.hear ⟨69, j, d⟩ = none := by rw [hear_68 69 j d (by decide) hW, hg, if_neg (fun x => hz x.2)]
        rw [hh]
        have HW := Lib.hid (pwhole_walk 69 j d)
        rw [hW] at HW
        clear hW hh
        go_enter Tryd.func15, Tryd.ntmps15
        go_upto_region 2 with (fail)
        obtain ⟨hp, hr, ha, hb⟩ := rn_three w #[.int .i64 69, .int .i64 j, .string d] #[.int .i64 0, .int .i64 0, .string ⟨#[]⟩, .int .i64 0] #[.int .i64 69, .int .i64 j, .string ⟨#[]⟩, .int .i64 0] 23 42 42
        have HP := Lib.hid hp
        have HR := Lib.hid hr
        have HA := Lib.hid ha
        have HB := Lib.hid hb
        have p0 := hp.cell 0; have p1 := hp.cell 1; have p2 := hp.cell 2
        simp only [List.getElem?_toArray, List.getElem?_cons_zero, List.getElem?_cons_succ] at p0 p1 p2
        clear hp hr ha hb
        generalize ((w.alloc (.cells #[.int .i64 69, .int .i64 j, .string d] 23)).alloc (.cells #[.int .i64 0, .int .i64 0, .string ⟨#[]⟩, .int .i64 0] 42)).alloc (.cells #[.int .i64 69, .int .i64 j, .string ⟨#[]⟩, .int .i64 0] 42) = w2 at *
        go_wp2_with fail
        (with_reducible refine (HW.out _).mono ?_)
        rintro e w3 ⟨rfl, hb⟩
        have HP3 := Lib.hid (HP.out.below hb HP.out.lt)
        have HR3 := Lib.hid (HR.out.below hb HR.out.lt)
        have HA3 := Lib.hid (HA.out.below hb HA.out.lt)
        have HB3 := Lib.hid (HB.out.trans (hb.mono HB.out.size))
        clear p0 p1 p2 hb HP HR HA HB HW
        have p0 := HP3.out.cell 0; have p1 := HP3.out.cell 1; have p2 := HP3.out.cell 2
        have r0 := HR3.out.cell 0; have r1 := HR3.out.cell 1; have r2 := HR3.out.cell 2; have r3 := HR3.out.cell 3
        have a0 := HA3.out.cell 0; have a1 := HA3.out.cell 1; have a2 := HA3.out.cell 2; have a3 := HA3.out.cell 3
        have f0 := HR3.out.free 0; have f1 := HR3.out.free 1; have f2 := HR3.out.free 2; have f3 := HR3.out.free 3
        have g2 := HA3.out.free 2; have g3 := HA3.out.free 3
        simp only [List.getElem?_toArray, List.getElem?_cons_zero, List.getElem?_cons_succ] at p0 p1 p2 r0 r1 r2 r3 a0 a1 a2 a3
        clear HP3 HR3 HA3
        go_wp2
        ((try simp only [Exit.inBlock, Exit.then]); refine bodyPost_ret (v := (.tuple #[.agg #[.int .i64 0, .int .i64 0, .string ⟨#[]⟩, .int .i64 0], .int .i64 35])) ?_ rfl ⟨?_, ?_⟩; (rw [results_cell_tmp1 rfl]; go_simp))
        · rfl
        · repeat (first | (with_reducible exact HB3.out) | refine below_set ?_ _ _ (by omega) _)
    · have es : ((d.size : Int) == 1) = false := by simpa using (by omega : (d.size : Int) ≠ 1)
      have es' : ((d.size : Int) != 1) = true := by simpa using (by omega : (d.size : Int) ≠ 1)
      have hh : Pr.hear ⟨69, j, d⟩ = none := by rw [hear_68 69 j d (by decide) hW, if_neg (fun x => hs x.1)]
      rw [hh]
      have HW := Lib.hid (pwhole_walk 69 j d)
      rw [hW] at HW
      clear hW hh
      go_enter Tryd.func15, Tryd.ntmps15
      go_upto_region 2 with (fail)
      obtain ⟨hp, hr, ha, hb⟩ := rn_three w #[.int .i64 69, .int .i64 j, .string d] #[.int .i64 0, .int .i64 0, .string ⟨#[]⟩, .int .i64 0] #[.int .i64 69, .int .i64 j, .string ⟨#[]⟩, .int .i64 0] 23 42 42
      have HP := Lib.hid hp
      have HR := Lib.hid hr
      have HA := Lib.hid ha
      have HB := Lib.hid hb
      have p0 := hp.cell 0; have p1 := hp.cell 1; have p2 := hp.cell 2
      simp only [List.getElem?_toArray, List.getElem?_cons_zero, List.getElem?_cons_succ] at p0 p1 p2
      clear hp hr ha hb
      generalize ((w.alloc (.cells #[.int .i64 69, .int .i64 j, .string d] 23)).alloc (.cells #[.int .i64 0, .int .i64 0, .string ⟨#[]⟩, .int .i64 0] 42)).alloc (.cells #[.int .i64 69, .int .i64 j, .string ⟨#[]⟩, .int .i64 0] 42) = w2 at *
      go_wp2_with fail
      (with_reducible refine (HW.out _).mono ?_)
      rintro e w3 ⟨rfl, hb⟩
      have HP3 := Lib.hid (HP.out.below hb HP.out.lt)
      have HR3 := Lib.hid (HR.out.below hb HR.out.lt)
      have HA3 := Lib.hid (HA.out.below hb HA.out.lt)
      have HB3 := Lib.hid (HB.out.trans (hb.mono HB.out.size))
      clear p0 p1 p2 hb HP HR HA HB HW
      have p0 := HP3.out.cell 0; have p1 := HP3.out.cell 1; have p2 := HP3.out.cell 2
      have r0 := HR3.out.cell 0; have r1 := HR3.out.cell 1; have r2 := HR3.out.cell 2; have r3 := HR3.out.cell 3
      have a0 := HA3.out.cell 0; have a1 := HA3.out.cell 1; have a2 := HA3.out.cell 2; have a3 := HA3.out.cell 3
      have f0 := HR3.out.free 0; have f1 := HR3.out.free 1; have f2 := HR3.out.free 2; have f3 := HR3.out.free 3
      have g2 := HA3.out.free 2; have g3 := HA3.out.free 3
      simp only [List.getElem?_toArray, List.getElem?_cons_zero, List.getElem?_cons_succ] at p0 p1 p2 r0 r1 r2 r3 a0 a1 a2 a3
      clear HP3 HR3 HA3
      go_wp2
      ((try simp only [Exit.inBlock, Exit.then]); refine bodyPost_ret (v := (.tuple #[.agg #[.int .i64 0, .int .i64 0, .string ⟨#[]⟩, .int .i64 0], .int .i64 35])) ?_ rfl ⟨?_, ?_⟩; (rw [results_cell_tmp1 rfl]; go_simp))
      · rfl
      · repeat (first | (with_reducible exact HB3.out) | refine below_set ?_ _ _ (by omega) _)
set_option maxRecDepth 100000 in
set_option maxHeartbeats 1600000 in
theorem phear70 (j : Int) (d : ByteArray) (w : World) : Calls Tryd.prog 15 #[.agg #[.int .i64 70, .int .i64 j, .string d]] w fun e w' => e = .returned (hearV (Pr.hear ⟨70, j, d⟩)) ∧ Below w.heap.size w w' := by
  cases hW : Pr.whole ⟨70, j, d⟩ with
  | false =>
    have hh : Pr.hear ⟨70, j, d⟩ = none := by rw [hear_w _ hW]
    rw [hh]
    have HW := Lib.hid (pwhole_walk 70 j d)
    rw [hW] at HW
    clear hW hh
    go_enter Tryd.func15, Tryd.ntmps15
    go_upto_region 2 with (fail)
    obtain ⟨hp, hr, ha, hb⟩ := rn_three w #[.int .i64 70, .int .i64 j, .string d] #[.int .i64 0, .int .i64 0, .string ⟨#[]⟩, .int .i64 0] #[.int .i64 70, .int .i64 j, .string ⟨#[]⟩, .int .i64 0] 23 42 42
    have HP := Lib.hid hp
    have HR := Lib.hid hr
    have HA := Lib.hid ha
    have HB := Lib.hid hb
    have p0 := hp.cell 0; have p1 := hp.cell 1; have p2 := hp.cell 2
    simp only [List.getElem?_toArray, List.getElem?_cons_zero, List.getElem?_cons_succ] at p0 p1 p2
    clear hp hr ha hb
    generalize ((w.alloc (.cells #[.int .i64 70, .int .i64 j, .string d] 23)).alloc (.cells #[.int .i64 0, .int .i64 0, .string ⟨#[]⟩, .int .i64 0] 42)).alloc (.cells #[.int .i64 70, .int .i64 j, .string ⟨#[]⟩, .int .i64 0] 42) = w2 at *
    go_wp2_with fail
    (with_reducible refine (HW.out _).mono ?_)
    rintro e w3 ⟨rfl, hb⟩
    have HP3 := Lib.hid (HP.out.below hb HP.out.lt)
    have HR3 := Lib.hid (HR.out.below hb HR.out.lt)
    have HA3 := Lib.hid (HA.out.below hb HA.out.lt)
    have HB3 := Lib.hid (HB.out.trans (hb.mono HB.out.size))
    clear p0 p1 p2 hb HP HR HA HB HW
    have p0 := HP3.out.cell 0; have p1 := HP3.out.cell 1; have p2 := HP3.out.cell 2
    have r0 := HR3.out.cell 0; have r1 := HR3.out.cell 1; have r2 := HR3.out.cell 2; have r3 := HR3.out.cell 3
    have a0 := HA3.out.cell 0; have a1 := HA3.out.cell 1; have a2 := HA3.out.cell 2; have a3 := HA3.out.cell 3
    have f0 := HR3.out.free 0; have f1 := HR3.out.free 1; have f2 := HR3.out.free 2; have f3 := HR3.out.free 3
    have g2 := HA3.out.free 2; have g3 := HA3.out.free 3
    simp only [List.getElem?_toArray, List.getElem?_cons_zero, List.getElem?_cons_succ] at p0 p1 p2 r0 r1 r2 r3 a0 a1 a2 a3
    clear HP3 HR3 HA3
    go_wp2
    ((try simp only [Exit.inBlock, Exit.then]); refine bodyPost_ret (v := (.tuple #[.agg #[.int .i64 0, .int .i64 0, .string ⟨#[]⟩, .int .i64 0], .int .i64 35])) ?_ rfl ⟨?_, ?_⟩; (rw [results_cell_tmp1 rfl]; go_simp))
    · rfl
    · repeat (first | (with_reducible exact HB3.out) | refine below_set ?_ _ _ (by omega) _)
  | true =>
    by_cases hj : j = 0
    · have ej : (j == 0) = true := by rw [hj]; rfl
      have ej' : (j != 0) = false := by rw [hj]; rfl
      have hh : Pr.hear ⟨70, j, d⟩ = some ⟨70, j, d, 0⟩ := by rw [hear_65 70 j d (by decide) hW, if_pos hj]
      rw [hh]
      clear hj
      have HW := Lib.hid (pwhole_walk 70 j d)
      rw [hW] at HW
      clear hW hh
      go_enter Tryd.func15, Tryd.ntmps15
      go_upto_region 2 with (fail)
      obtain ⟨hp, hr, ha, hb⟩ := rn_three w #[.int .i64 70, .int .i64 j, .string d] #[.int .i64 0, .int .i64 0, .string ⟨#[]⟩, .int .i64 0] #[.int .i64 70, .int .i64 j, .string ⟨#[]⟩, .int .i64 0] 23 42 42
      have HP := Lib.hid hp
      have HR := Lib.hid hr
      have HA := Lib.hid ha
      have HB := Lib.hid hb
      have p0 := hp.cell 0; have p1 := hp.cell 1; have p2 := hp.cell 2
      simp only [List.getElem?_toArray, List.getElem?_cons_zero, List.getElem?_cons_succ] at p0 p1 p2
      clear hp hr ha hb
      generalize ((w.alloc (.cells #[.int .i64 70, .int .i64 j, .string d] 23)).alloc (.cells #[.int .i64 0, .int .i64 0, .string ⟨#[]⟩, .int .i64 0] 42)).alloc (.cells #[.int .i64 70, .int .i64 j, .string ⟨#[]⟩, .int .i64 0] 42) = w2 at *
      go_wp2_with fail
      (with_reducible refine (HW.out _).mono ?_)
      rintro e w3 ⟨rfl, hb⟩
      have HP3 := Lib.hid (HP.out.below hb HP.out.lt)
      have HR3 := Lib.hid (HR.out.below hb HR.out.lt)
      have HA3 := Lib.hid (HA.out.below hb HA.out.lt)
      have HB3 := Lib.hid (HB.out.trans (hb.mono HB.out.size))
      clear p0 p1 p2 hb HP HR HA HB HW
      have p0 := HP3.out.cell 0; have p1 := HP3.out.cell 1; have p2 := HP3.out.cell 2
      have r0 := HR3.out.cell 0; have r1 := HR3.out.cell 1; have r2 := HR3.out.cell 2; have r3 := HR3.out.cell 3
      have a0 := HA3.out.cell 0; have a1 := HA3.out.cell 1; have a2 := HA3.out.cell 2; have a3 := HA3.out.cell 3
      have f0 := HR3.out.free 0; have f1 := HR3.out.free 1; have f2 := HR3.out.free 2; have f3 := HR3.out.free 3
      have g2 := HA3.out.free 2; have g3 := HA3.out.free 3
      simp only [List.getElem?_toArray, List.getElem?_cons_zero, List.getElem?_cons_succ] at p0 p1 p2 r0 r1 r2 r3 a0 a1 a2 a3
      clear HP3 HR3 HA3
      go_wp2
      ((try simp only [Exit.inBlock, Exit.then]); refine bodyPost_ret (v := (.tuple #[.agg #[.int .i64 70, .int .i64 j, .string d, .int .i64 0], .int .i64 0])) ?_ rfl ⟨?_, ?_⟩; (rw [results_cell_tmp1 rfl]; go_simp))
      · rfl
      · repeat (first | (with_reducible exact HB3.out) | refine below_set ?_ _ _ (by omega) _)
    · have ej : (j == 0) = false := by simpa using hj
      have ej' : (j != 0) = true := by simpa using hj
      have hh : Pr.hear ⟨70, j, d⟩ = none := by rw [hear_65 70 j d (by decide) hW, if_neg hj]
      rw [hh]
      clear hj
      have HW := Lib.hid (pwhole_walk 70 j d)
      rw [hW] at HW
      clear hW hh
      go_enter Tryd.func15, Tryd.ntmps15
      go_upto_region 2 with (fail)
      obtain ⟨hp, hr, ha, hb⟩ := rn_three w #[.int .i64 70, .int .i64 j, .string d] #[.int .i64 0, .int .i64 0, .string ⟨#[]⟩, .int .i64 0] #[.int .i64 70, .int .i64 j, .string ⟨#[]⟩, .int .i64 0] 23 42 42
      have HP := Lib.hid hp
      have HR := Lib.hid hr
      have HA := Lib.hid ha
      have HB := Lib.hid hb
      have p0 := hp.cell 0; have p1 := hp.cell 1; have p2 := hp.cell 2
      simp only [List.getElem?_toArray, List.getElem?_cons_zero, List.getElem?_cons_succ] at p0 p1 p2
      clear hp hr ha hb
      generalize ((w.alloc (.cells #[.int .i64 70, .int .i64 j, .string d] 23)).alloc (.cells #[.int .i64 0, .int .i64 0, .string ⟨#[]⟩, .int .i64 0] 42)).alloc (.cells #[.int .i64 70, .int .i64 j, .string ⟨#[]⟩, .int .i64 0] 42) = w2 at *
      go_wp2_with fail
      (with_reducible refine (HW.out _).mono ?_)
      rintro e w3 ⟨rfl, hb⟩
      have HP3 := Lib.hid (HP.out.below hb HP.out.lt)
      have HR3 := Lib.hid (HR.out.below hb HR.out.lt)
      have HA3 := Lib.hid (HA.out.below hb HA.out.lt)
      have HB3 := Lib.hid (HB.out.trans (hb.mono HB.out.size))
      clear p0 p1 p2 hb HP HR HA HB HW
      have p0 := HP3.out.cell 0; have p1 := HP3.out.cell 1; have p2 := HP3.out.cell 2
      have r0 := HR3.out.cell 0; have r1 := HR3.out.cell 1; have r2 := HR3.out.cell 2; have r3 := HR3.out.cell 3
      have a0 := HA3.out.cell 0; have a1 := HA3.out.cell 1; have a2 := HA3.out.cell 2; have a3 := HA3.out.cell 3
      have f0 := HR3.out.free 0; have f1 := HR3.out.free 1; have f2 := HR3.out.free 2; have f3 := HR3.out.free 3
      have g2 := HA3.out.free 2; have g3 := HA3.out.free 3
      simp only [List.getElem?_toArray, List.getElem?_cons_zero, List.getElem?_cons_succ] at p0 p1 p2 r0 r1 r2 r3 a0 a1 a2 a3
      clear HP3 HR3 HA3
      go_wp2
      ((try simp only [Exit.inBlock, Exit.then]); refine bodyPost_ret (v := (.tuple #[.agg #[.int .i64 0, .int .i64 0, .string ⟨#[]⟩, .int .i64 0], .int .i64 35])) ?_ rfl ⟨?_, ?_⟩; (rw [results_cell_tmp1 rfl]; go_simp))
      · rfl
      · repeat (first | (with_reducible exact HB3.out) | refine below_set ?_ _ _ (by omega) _)
set_option maxRecDepth 100000 in
set_option maxHeartbeats 1600000 in
theorem phearx (t j : Int) (d : ByteArray) (w : World) (h1 : t ≠ 65) (h2 : t ≠ 66) (h3 : t ≠ 67) (h4 : t ≠ 68) (h5 : t ≠ 69) (h6 : t ≠ 70) : Calls Tryd.prog 15 #[.agg #[.int .i64 t, .int .i64 j, .string d]] w fun e w' => e = .returned (hearV (Pr.hear ⟨t, j, d⟩)) ∧ Below w.heap.size w w' := by
  have hh : Pr.hear ⟨t, j, d⟩ = none := by simp [Pr.hear, h1, h2, h3, h4, h5, h6]
  have e65 : (t == 65) = false := by simpa using h1
  have e66 : (t == 66) = false := by simpa using h2
  have e67 : (t == 67) = false := by simpa using h3
  have e68 : (t == 68) = false := by simpa using h4
  have e69 : (t == 69) = false := by simpa using h5
  have e70 : (t == 70) = false := by simpa using h6
  have hlo : decide (t < 65) = true ∨ (decide (t < 65) = false ∧ decide (70 < t) = true) := by
    by_cases h : t < 65
    · exact .inl (decide_eq_true h)
    · exact .inr ⟨decide_eq_false h, decide_eq_true (by omega)⟩
  clear h1 h2 h3 h4 h5 h6
  rw [hh]
  cases hW : Pr.whole ⟨t, j, d⟩ with
  | false =>
    rcases hlo with hlo | ⟨hlo, hhi⟩
    · have HW := Lib.hid (pwhole_walk t j d)
      rw [hW] at HW
      clear hW hh
      go_enter Tryd.func15, Tryd.ntmps15
      go_upto_region 2 with (fail)
      obtain ⟨hp, hr, ha, hb⟩ := rn_three w #[.int .i64 t, .int .i64 j, .string d] #[.int .i64 0, .int .i64 0, .string ⟨#[]⟩, .int .i64 0] #[.int .i64 t, .int .i64 j, .string ⟨#[]⟩, .int .i64 0] 23 42 42
      have HP := Lib.hid hp
      have HR := Lib.hid hr
      have HA := Lib.hid ha
      have HB := Lib.hid hb
      have p0 := hp.cell 0; have p1 := hp.cell 1; have p2 := hp.cell 2
      simp only [List.getElem?_toArray, List.getElem?_cons_zero, List.getElem?_cons_succ] at p0 p1 p2
      clear hp hr ha hb
      generalize ((w.alloc (.cells #[.int .i64 t, .int .i64 j, .string d] 23)).alloc (.cells #[.int .i64 0, .int .i64 0, .string ⟨#[]⟩, .int .i64 0] 42)).alloc (.cells #[.int .i64 t, .int .i64 j, .string ⟨#[]⟩, .int .i64 0] 42) = w2 at *
      go_wp2_with fail
      (with_reducible refine (HW.out _).mono ?_)
      rintro e w3 ⟨rfl, hb⟩
      have HP3 := Lib.hid (HP.out.below hb HP.out.lt)
      have HR3 := Lib.hid (HR.out.below hb HR.out.lt)
      have HA3 := Lib.hid (HA.out.below hb HA.out.lt)
      have HB3 := Lib.hid (HB.out.trans (hb.mono HB.out.size))
      clear p0 p1 p2 hb HP HR HA HB HW
      have p0 := HP3.out.cell 0; have p1 := HP3.out.cell 1; have p2 := HP3.out.cell 2
      have r0 := HR3.out.cell 0; have r1 := HR3.out.cell 1; have r2 := HR3.out.cell 2; have r3 := HR3.out.cell 3
      have a0 := HA3.out.cell 0; have a1 := HA3.out.cell 1; have a2 := HA3.out.cell 2; have a3 := HA3.out.cell 3
      have f0 := HR3.out.free 0; have f1 := HR3.out.free 1; have f2 := HR3.out.free 2; have f3 := HR3.out.free 3
      have g2 := HA3.out.free 2; have g3 := HA3.out.free 3
      simp only [List.getElem?_toArray, List.getElem?_cons_zero, List.getElem?_cons_succ] at p0 p1 p2 r0 r1 r2 r3 a0 a1 a2 a3
      clear HP3 HR3 HA3
      go_wp2
      ((try simp only [Exit.inBlock, Exit.then]); refine bodyPost_ret (v := (.tuple #[.agg #[.int .i64 0, .int .i64 0, .string ⟨#[]⟩, .int .i64 0], .int .i64 35])) ?_ rfl ⟨?_, ?_⟩; (rw [results_cell_tmp1 rfl]; go_simp))
      · rfl
      · repeat (first | (with_reducible exact HB3.out) | refine below_set ?_ _ _ (by omega) _)
    · have HW := Lib.hid (pwhole_walk t j d)
      rw [hW] at HW
      clear hW hh
      go_enter Tryd.func15, Tryd.ntmps15
      go_upto_region 2 with (fail)
      obtain ⟨hp, hr, ha, hb⟩ := rn_three w #[.int .i64 t, .int .i64 j, .string d] #[.int .i64 0, .int .i64 0, .string ⟨#[]⟩, .int .i64 0] #[.int .i64 t, .int .i64 j, .string ⟨#[]⟩, .int .i64 0] 23 42 42
      have HP := Lib.hid hp
      have HR := Lib.hid hr
      have HA := Lib.hid ha
      have HB := Lib.hid hb
      have p0 := hp.cell 0; have p1 := hp.cell 1; have p2 := hp.cell 2
      simp only [List.getElem?_toArray, List.getElem?_cons_zero, List.getElem?_cons_succ] at p0 p1 p2
      clear hp hr ha hb
      generalize ((w.alloc (.cells #[.int .i64 t, .int .i64 j, .string d] 23)).alloc (.cells #[.int .i64 0, .int .i64 0, .string ⟨#[]⟩, .int .i64 0] 42)).alloc (.cells #[.int .i64 t, .int .i64 j, .string ⟨#[]⟩, .int .i64 0] 42) = w2 at *
      go_wp2_with fail
      (with_reducible refine (HW.out _).mono ?_)
      rintro e w3 ⟨rfl, hb⟩
      have HP3 := Lib.hid (HP.out.below hb HP.out.lt)
      have HR3 := Lib.hid (HR.out.below hb HR.out.lt)
      have HA3 := Lib.hid (HA.out.below hb HA.out.lt)
      have HB3 := Lib.hid (HB.out.trans (hb.mono HB.out.size))
      clear p0 p1 p2 hb HP HR HA HB HW
      have p0 := HP3.out.cell 0; have p1 := HP3.out.cell 1; have p2 := HP3.out.cell 2
      have r0 := HR3.out.cell 0; have r1 := HR3.out.cell 1; have r2 := HR3.out.cell 2; have r3 := HR3.out.cell 3
      have a0 := HA3.out.cell 0; have a1 := HA3.out.cell 1; have a2 := HA3.out.cell 2; have a3 := HA3.out.cell 3
      have f0 := HR3.out.free 0; have f1 := HR3.out.free 1; have f2 := HR3.out.free 2; have f3 := HR3.out.free 3
      have g2 := HA3.out.free 2; have g3 := HA3.out.free 3
      simp only [List.getElem?_toArray, List.getElem?_cons_zero, List.getElem?_cons_succ] at p0 p1 p2 r0 r1 r2 r3 a0 a1 a2 a3
      clear HP3 HR3 HA3
      go_wp2
      ((try simp only [Exit.inBlock, Exit.then]); refine bodyPost_ret (v := (.tuple #[.agg #[.int .i64 0, .int .i64 0, .string ⟨#[]⟩, .int .i64 0], .int .i64 35])) ?_ rfl ⟨?_, ?_⟩; (rw [results_cell_tmp1 rfl]; go_simp))
      · rfl
      · repeat (first | (with_reducible exact HB3.out) | refine below_set ?_ _ _ (by omega) _)
  | true =>
    rcases hlo with hlo | ⟨hlo, hhi⟩
    · have HW := Lib.hid (pwhole_walk t j d)
      rw [hW] at HW
      clear hW hh
      go_enter Tryd.func15, Tryd.ntmps15
      go_upto_region 2 with (fail)
      obtain ⟨hp, hr, ha, hb⟩ := rn_three w #[.int .i64 t, .int .i64 j, .string d] #[.int .i64 0, .int .i64 0, .string ⟨#[]⟩, .int .i64 0] #[.int .i64 t, .int .i64 j, .string ⟨#[]⟩, .int .i64 0] 23 42 42
      have HP := Lib.hid hp
      have HR := Lib.hid hr
      have HA := Lib.hid ha
      have HB := Lib.hid hb
      have p0 := hp.cell 0; have p1 := hp.cell 1; have p2 := hp.cell 2
      simp only [List.getElem?_toArray, List.getElem?_cons_zero, List.getElem?_cons_succ] at p0 p1 p2
      clear hp hr ha hb
      generalize ((w.alloc (.cells #[.int .i64 t, .int .i64 j, .string d] 23)).alloc (.cells #[.int .i64 0, .int .i64 0, .string ⟨#[]⟩, .int .i64 0] 42)).alloc (.cells #[.int .i64 t, .int .i64 j, .string ⟨#[]⟩, .int .i64 0] 42) = w2 at *
      go_wp2_with fail
      (with_reducible refine (HW.out _).mono ?_)
      rintro e w3 ⟨rfl, hb⟩
      have HP3 := Lib.hid (HP.out.below hb HP.out.lt)
      have HR3 := Lib.hid (HR.out.below hb HR.out.lt)
      have HA3 := Lib.hid (HA.out.below hb HA.out.lt)
      have HB3 := Lib.hid (HB.out.trans (hb.mono HB.out.size))
      clear p0 p1 p2 hb HP HR HA HB HW
      have p0 := HP3.out.cell 0; have p1 := HP3.out.cell 1; have p2 := HP3.out.cell 2
      have r0 := HR3.out.cell 0; have r1 := HR3.out.cell 1; have r2 := HR3.out.cell 2; have r3 := HR3.out.cell 3
      have a0 := HA3.out.cell 0; have a1 := HA3.out.cell 1; have a2 := HA3.out.cell 2; have a3 := HA3.out.cell 3
      have f0 := HR3.out.free 0; have f1 := HR3.out.free 1; have f2 := HR3.out.free 2; have f3 := HR3.out.free 3
      have g2 := HA3.out.free 2; have g3 := HA3.out.free 3
      simp only [List.getElem?_toArray, List.getElem?_cons_zero, List.getElem?_cons_succ] at p0 p1 p2 r0 r1 r2 r3 a0 a1 a2 a3
      clear HP3 HR3 HA3
      go_wp2
      ((try simp only [Exit.inBlock, Exit.then]); refine bodyPost_ret (v := (.tuple #[.agg #[.int .i64 0, .int .i64 0, .string ⟨#[]⟩, .int .i64 0], .int .i64 35])) ?_ rfl ⟨?_, ?_⟩; (rw [results_cell_tmp1 rfl]; go_simp))
      · rfl
      · repeat (first | (with_reducible exact HB3.out) | refine below_set ?_ _ _ (by omega) _)
    · have HW := Lib.hid (pwhole_walk t j d)
      rw [hW] at HW
      clear hW hh
      go_enter Tryd.func15, Tryd.ntmps15
      go_upto_region 2 with (fail)
      obtain ⟨hp, hr, ha, hb⟩ := rn_three w #[.int .i64 t, .int .i64 j, .string d] #[.int .i64 0, .int .i64 0, .string ⟨#[]⟩, .int .i64 0] #[.int .i64 t, .int .i64 j, .string ⟨#[]⟩, .int .i64 0] 23 42 42
      have HP := Lib.hid hp
      have HR := Lib.hid hr
      have HA := Lib.hid ha
      have HB := Lib.hid hb
      have p0 := hp.cell 0; have p1 := hp.cell 1; have p2 := hp.cell 2
      simp only [List.getElem?_toArray, List.getElem?_cons_zero, List.getElem?_cons_succ] at p0 p1 p2
      clear hp hr ha hb
      generalize ((w.alloc (.cells #[.int .i64 t, .int .i64 j, .string d] 23)).alloc (.cells #[.int .i64 0, .int .i64 0, .string ⟨#[]⟩, .int .i64 0] 42)).alloc (.cells #[.int .i64 t, .int .i64 j, .string ⟨#[]⟩, .int .i64 0] 42) = w2 at *
      go_wp2_with fail
      (with_reducible refine (HW.out _).mono ?_)
      rintro e w3 ⟨rfl, hb⟩
      have HP3 := Lib.hid (HP.out.below hb HP.out.lt)
      have HR3 := Lib.hid (HR.out.below hb HR.out.lt)
      have HA3 := Lib.hid (HA.out.below hb HA.out.lt)
      have HB3 := Lib.hid (HB.out.trans (hb.mono HB.out.size))
      clear p0 p1 p2 hb HP HR HA HB HW
      have p0 := HP3.out.cell 0; have p1 := HP3.out.cell 1; have p2 := HP3.out.cell 2
      have r0 := HR3.out.cell 0; have r1 := HR3.out.cell 1; have r2 := HR3.out.cell 2; have r3 := HR3.out.cell 3
      have a0 := HA3.out.cell 0; have a1 := HA3.out.cell 1; have a2 := HA3.out.cell 2; have a3 := HA3.out.cell 3
      have f0 := HR3.out.free 0; have f1 := HR3.out.free 1; have f2 := HR3.out.free 2; have f3 := HR3.out.free 3
      have g2 := HA3.out.free 2; have g3 := HA3.out.free 3
      simp only [List.getElem?_toArray, List.getElem?_cons_zero, List.getElem?_cons_succ] at p0 p1 p2 r0 r1 r2 r3 a0 a1 a2 a3
      clear HP3 HR3 HA3
      go_wp2
      ((try simp only [Exit.inBlock, Exit.then]); refine bodyPost_ret (v := (.tuple #[.agg #[.int .i64 0, .int .i64 0, .string ⟨#[]⟩, .int .i64 0], .int .i64 35])) ?_ rfl ⟨?_, ?_⟩; (rw [results_cell_tmp1 rfl]; go_simp))
      · rfl
      · repeat (first | (with_reducible exact HB3.out) | refine below_set ?_ _ _ (by omega) _)
theorem phear_walk (t j : Int) (d : ByteArray) (w : World) : Calls Tryd.prog 15 #[.agg #[.int .i64 t, .int .i64 j, .string d]] w fun e w' => e = .returned (hearV (Pr.hear ⟨t, j, d⟩)) ∧ Below w.heap.size w w' := by
  by_cases h65 : t = 65
  · subst h65; exact phear65 j d w
  by_cases h66 : t = 66
  · subst h66; exact phear66 j d w
  by_cases h67 : t = 67
  · subst h67; exact phear67 j d w
  by_cases h68 : t = 68
  · subst h68; exact phear68 j d w
  by_cases h69 : t = 69
  · subst h69; exact phear69 j d w
  by_cases h70 : t = 70
  · subst h70; exact phear70 j d w
  exact phearx t j d w h65 h66 h67 h68 h69 h70
end Go.Proofs.YtckdbkbecelgcaaDoor
