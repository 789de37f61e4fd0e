/- The law of encoding. -/
import Derived.Test.YtjneeomioolcjaaFrameLaw2
namespace Go.Proofs.Ytjneeomioolcjaa
open Go.RowKit

/-- in which range a type lies, and what Client and Server say -/
theorem t_ranges (t : Int) : (decide (1 ≤ t) = false ∧ decide (t ≤ 7) = true ∧ decide (65 ≤ t) = false ∧ decide (t ≤ 70) = true ∧ decide (1 ≤ t ∧ t ≤ 7) = false ∧ decide (65 ≤ t ∧ t ≤ 70) = false) ∨
    (decide (1 ≤ t) = true ∧ decide (t ≤ 7) = true ∧ decide (65 ≤ t) = false ∧ decide (t ≤ 70) = true ∧ decide (1 ≤ t ∧ t ≤ 7) = true ∧ decide (65 ≤ t ∧ t ≤ 70) = false) ∨
    (decide (1 ≤ t) = true ∧ decide (t ≤ 7) = false ∧ decide (65 ≤ t) = false ∧ decide (t ≤ 70) = true ∧ decide (1 ≤ t ∧ t ≤ 7) = false ∧ decide (65 ≤ t ∧ t ≤ 70) = false) ∨
    (decide (1 ≤ t) = true ∧ decide (t ≤ 7) = false ∧ decide (65 ≤ t) = true ∧ decide (t ≤ 70) = true ∧ decide (1 ≤ t ∧ t ≤ 7) = false ∧ decide (65 ≤ t ∧ t ≤ 70) = true) ∨
    (decide (1 ≤ t) = true ∧ decide (t ≤ 7) = false ∧ decide (65 ≤ t) = true ∧ decide (t ≤ 70) = false ∧ decide (1 ≤ t ∧ t ≤ 7) = false ∧ decide (65 ≤ t ∧ t ≤ 70) = false) := by
  simp only [decide_eq_true_eq, decide_eq_false_iff_not]
  omega

set_option maxRecDepth 100000 in
set_option maxHeartbeats 4000000 in
theorem frameEncodes_bad (t j : Int) (d s : ByteArray) (w : World) (h : Fr.wrong ⟨t, j, d⟩ ≠ 0) (hd : d.size ≤ 300) (hs : s.size ≤ 100) :
    Calls Try.prog 3 #[.agg #[.int .i64 t, .int .i64 j, .string d], .string s] w fun e w' => e = .returned (.bool true) ∧ Below w.heap.size w w' := by
  have HE := Lib.hid (fun w => end_walk w)
  have H1 := Lib.hid (fun w => xenc_walk ⟨t, j, d⟩ w)
  rw [if_neg h] at H1
  have H2 := Lib.hid (fun w => wrong_walk ⟨t, j, d⟩ w)
  unfold fv at H1 H2
  simp only at H1 H2
  have hd' : ¬ (300 : Int) < (d.size : Int) := by omega
  have hs' : ¬ (100 : Int) < (s.size : Int) := by omega
  have hne : (Fr.wrong ⟨t, j, d⟩ == 0) = false := by simpa using h
  have Hc := Lib.hid (fun w => client_walk t j d w)
  have Hv := Lib.hid (fun w => server_walk t j d w)
  generalize Fr.wrong ⟨t, j, d⟩ = E at *
  clear h hd hs
  go_enter Try.func3, Try.ntmps3
  go_wp2_with fail
  refine (H1.out _).mono ?_
  rintro e w1 ⟨rfl, hb1⟩
  have R0 := Has.below (Has.new w #[Value.int .i64 t, Value.int .i64 j, Value.string d] 23) hb1 (by simp)
  have Hb1 := Lib.hid (((Below.refl w.heap.size w).alloc (Nat.le_refl _) _).trans (hb1.mono (by simp)))
  have HR0 := Lib.hid R0
  clear hb1 R0
  rcases t_ranges t with ⟨a1, a2, a3, a4, e1, e2⟩ | ⟨a1, a2, a3, a4, e1, e2⟩ | ⟨a1, a2, a3, a4, e1, e2⟩ | ⟨a1, a2, a3, a4, e1, e2⟩ | ⟨a1, a2, a3, a4, e1, e2⟩
  all_goals
    rw [e1] at Hc
    rw [e2] at Hv
    clear e1 e2
    have c0 : ∀ x : Later w1, x.at.cell? ⟨w.heap.size, 0, none⟩ = some (.int .i64 t) := fun x => x.cell (HR0.out.cell 0)
    have c1 : ∀ x : Later w1, x.at.cell? ⟨w.heap.size, 1, none⟩ = some (.int .i64 j) := fun x => x.cell (HR0.out.cell 1)
    have c2 : ∀ x : Later w1, x.at.cell? ⟨w.heap.size, 2, none⟩ = some (.string d) := fun x => x.cell (HR0.out.cell 2)
    have K1 := Lib.hid (fun x : Later w1 => later_call (x := x) (Hc.out x.at))
    have K2 := Lib.hid (fun x : Later w1 => later_call (x := x) (Hv.out x.at))
    go_wp2_with fail
    refine region_later 24 (by kernel_rfl) (by kernel_rfl) ?_
    simp only [List.take_succ_cons, List.take_zero, List.drop_succ_cons, List.drop_zero]
    repeat (go_big_quiet_step ((first | (with_reducible exact K1.out _) | (with_reducible exact K2.out _))))
    refine wpQuiet_nil ?_
    rintro w' ⟨x, rfl⟩
    have R2 := HR0.out.below x.below HR0.out.lt
    have Hb2 := Lib.hid (Hb1.out.trans (x.below.mono Hb1.out.size))
    clear K1 K2 c0 c1 c2
    generalize x.at = w2 at *
    have c0 := R2.cell 0; have c1 := R2.cell 1; have c2 := R2.cell 2
    simp only [List.getElem?_toArray, List.getElem?_cons_zero, List.getElem?_cons_succ] at c0 c1 c2
    clear R2
    go_wp2_with fail
    refine (H2.out _).mono ?_
    rintro e w3 ⟨rfl, hb3⟩
    have Hb3 := Lib.hid (Hb2.out.trans (hb3.mono Hb2.out.size))
    clear hb3
    go_wp2_with fail
    refine (HE.out _).mono ?_
    rintro e w4 ⟨rfl, hb4⟩
    have Hb4 := Lib.hid (Hb3.out.trans (hb4.mono Hb3.out.size))
    clear hb4
    go_wp2
    go_ret
    exact ⟨rfl, Hb4.out⟩
set_option maxRecDepth 100000 in
set_option maxHeartbeats 4000000 in
theorem frameEncodes_good (t j : Int) (d s : ByteArray) (w : World) (h : Fr.wrong ⟨t, j, d⟩ = 0) (hd : d.size ≤ 300) (hs : s.size ≤ 100) :
    Calls Try.prog 3 #[.agg #[.int .i64 t, .int .i64 j, .string d], .string s] w fun e w' => e = .returned (.bool true) ∧ Below w.heap.size w w' := by
  have HE := Lib.hid (fun w => end_walk w)
  have H1 := Lib.hid (fun w => xenc_walk ⟨t, j, d⟩ w)
  rw [h, if_pos rfl] at H1
  have H2 := Lib.hid (fun w => wrong_walk ⟨t, j, d⟩ w)
  unfold fv at H1 H2
  simp only at H1 H2
  have hd' : ¬ (300 : Int) < (d.size : Int) := by omega
  have hs' : ¬ (100 : Int) < (s.size : Int) := by omega
  rw [h] at H2
  have hes := Fr.enc_size ⟨t, j, d⟩
  have hde := Fr.dec_enc ⟨t, j, d⟩ s h
  have H3 := Lib.hid (fun w => xdec_walk (Fr.enc ⟨t, j, d⟩ ++ s) w (by rw [ByteArray.size_append, hes]; show 9 + d.size + s.size < _; omega))
  rw [hde] at H3
  have H4 := Lib.hid (fun w => refenc ⟨t, j, d⟩ w h)
  unfold fv at H3 H4
  simp only at H3 H4
  have hus : ((Fr.enc ⟨t, j, d⟩).size : Int) ≤ 309 := by rw [hes]; show ((9 + d.size : Nat) : Int) ≤ _; omega
  have Hc := Lib.hid (fun w => client_walk t j d w)
  have Hv := Lib.hid (fun w => server_walk t j d w)
  clear hes hde
  generalize Fr.enc ⟨t, j, d⟩ = u at *
  clear h hd hs
  go_enter Try.func3, Try.ntmps3
  go_wp2_with fail
  refine (H1.out _).mono ?_
  rintro e w1 ⟨rfl, hb1⟩
  have R0 := Has.below (Has.new w #[Value.int .i64 t, Value.int .i64 j, Value.string d] 23) hb1 (by simp)
  have Hb1 := Lib.hid (((Below.refl w.heap.size w).alloc (Nat.le_refl _) _).trans (hb1.mono (by simp)))
  have HR0 := Lib.hid R0
  clear hb1 R0
  rcases t_ranges t with ⟨a1, a2, a3, a4, e1, e2⟩ | ⟨a1, a2, a3, a4, e1, e2⟩ | ⟨a1, a2, a3, a4, e1, e2⟩ | ⟨a1, a2, a3, a4, e1, e2⟩ | ⟨a1, a2, a3, a4, e1, e2⟩
  all_goals
    rw [e1] at Hc
    rw [e2] at Hv
    clear e1 e2
    have c0 : ∀ x : Later w1, x.at.cell? ⟨w.heap.size, 0, none⟩ = some (.int .i64 t) := fun x => x.cell (HR0.out.cell 0)
    have c1 : ∀ x : Later w1, x.at.cell? ⟨w.heap.size, 1, none⟩ = some (.int .i64 j) := fun x => x.cell (HR0.out.cell 1)
    have c2 : ∀ x : Later w1, x.at.cell? ⟨w.heap.size, 2, none⟩ = some (.string d) := fun x => x.cell (HR0.out.cell 2)
    have K1 := Lib.hid (fun x : Later w1 => later_call (x := x) (Hc.out x.at))
    have K2 := Lib.hid (fun x : Later w1 => later_call (x := x) (Hv.out x.at))
    go_wp2_with fail
    refine region_later 24 (by kernel_rfl) (by kernel_rfl) ?_
    simp only [List.take_succ_cons, List.take_zero, List.drop_succ_cons, List.drop_zero]
    repeat (go_big_quiet_step ((first | (with_reducible exact K1.out _) | (with_reducible exact K2.out _))))
    refine wpQuiet_nil ?_
    rintro w' ⟨x, rfl⟩
    have R2 := HR0.out.below x.below HR0.out.lt
    have Hb2 := Lib.hid (Hb1.out.trans (x.below.mono Hb1.out.size))
    clear K1 K2 c0 c1 c2
    generalize x.at = w2 at *
    have c0 := R2.cell 0; have c1 := R2.cell 1; have c2 := R2.cell 2
    simp only [List.getElem?_toArray, List.getElem?_cons_zero, List.getElem?_cons_succ] at c0 c1 c2
    have HR2 := Lib.hid R2
    clear R2
    go_wp2_with fail
    refine (H2.out _).mono ?_
    rintro e w3 ⟨rfl, hb3⟩
    have Hb3 := Lib.hid (Hb2.out.trans (hb3.mono Hb2.out.size))
    have HR3 := Lib.hid (HR2.out.below hb3 HR2.out.lt)
    clear hb3 c0 c1 c2
    go_wp2_with fail
    refine (H3.out _).mono ?_
    rintro e w4 ⟨rfl, hb4⟩
    have Hb4 := Lib.hid (Hb3.out.trans (hb4.mono Hb3.out.size))
    have HR4 := Lib.hid (HR3.out.below hb4 HR3.out.lt)
    have hlt4 := HR4.out.lt
    have c0 := HR4.out.cell 0; have c1 := HR4.out.cell 1; have c2 := HR4.out.cell 2
    simp only [List.getElem?_toArray, List.getElem?_cons_zero, List.getElem?_cons_succ] at c0 c1 c2
    clear hb4
    go_wp2_with fail
    refine (H4.out _).mono ?_
    rintro e w5 ⟨rfl, hb5⟩
    have HR5 := Lib.hid ((HR4.out.alloc (.cells #[Value.int .i64 t, Value.int .i64 j, Value.string d] 23)).below hb5 (Nat.lt_of_lt_of_le hlt4 (by simp)))
    have HS5 := Lib.hid ((Has.new w4 #[Value.int .i64 t, Value.int .i64 j, Value.string d] 23).below hb5 (by simp))
    have Hb5 := Lib.hid (Hb4.out.trans ((((Below.refl w4.heap.size w4).alloc (Nat.le_refl _) _).trans (hb5.mono (by simp))).mono Hb4.out.size))
    clear hb5 c0 c1 c2
    have c0 := HR5.out.cell 0; have c1 := HR5.out.cell 1; have c2 := HR5.out.cell 2
    have d0 := HS5.out.cell 0; have d1 := HS5.out.cell 1; have d2 := HS5.out.cell 2
    simp only [List.getElem?_toArray, List.getElem?_cons_zero, List.getElem?_cons_succ] at c0 c1 c2 d0 d1 d2
    go_wp2_with fail
    refine (HE.out _).mono ?_
    rintro e w6 ⟨rfl, hb6⟩
    have Hb6 := Lib.hid (Hb5.out.trans (hb6.mono Hb5.out.size))
    clear hb6
    go_wp2
    go_ret
    exact ⟨rfl, Hb6.out⟩

set_option maxRecDepth 100000 in
set_option maxHeartbeats 1000000 in
theorem frameEncodes_walk (t j : Int) (d s : ByteArray) (w : World) (_ : (Lit.int .i64 t).wf = true) (_ : (Lit.int .i64 j).wf = true) (_ : d.size ≤ maxLen) (_ : s.size ≤ maxLen) :
    Calls Try.prog 3 #[.agg #[.int .i64 t, .int .i64 j, .string d], .string s] w fun e w' => e = .returned (.bool true) ∧ Below w.heap.size w w' := by
  have HE := Lib.hid (fun w => end_walk w)
  by_cases hd : 300 < d.size
  · have hd' : (300 : Int) < (d.size : Int) := by omega
    go_enter Try.func3, Try.ntmps3
    go_wp2_with fail
    refine (HE.out _).mono ?_
    rintro e w1 ⟨rfl, hb1⟩
    have Hb1 := Lib.hid (((Below.refl w.heap.size w).alloc (Nat.le_refl _) _).trans (hb1.mono (by simp)))
    clear hb1
    go_wp2
    go_ret
    exact ⟨rfl, Hb1.out⟩
  · by_cases hs : 100 < s.size
    · have hd' : ¬ (300 : Int) < (d.size : Int) := by omega
      have hs' : (100 : Int) < (s.size : Int) := by omega
      go_enter Try.func3, Try.ntmps3
      go_wp2_with fail
      refine (HE.out _).mono ?_
      rintro e w1 ⟨rfl, hb1⟩
      have Hb1 := Lib.hid (((Below.refl w.heap.size w).alloc (Nat.le_refl _) _).trans (hb1.mono (by simp)))
      clear hb1
      go_wp2
      go_ret
      exact ⟨rfl, Hb1.out⟩
    · by_cases h : Fr.wrong ⟨t, j, d⟩ = 0
      · exact frameEncodes_good t j d s w h (by omega) (by omega)
      · exact frameEncodes_bad t j d s w h (by omega) (by omega)
end Go.Proofs.Ytjneeomioolcjaa
