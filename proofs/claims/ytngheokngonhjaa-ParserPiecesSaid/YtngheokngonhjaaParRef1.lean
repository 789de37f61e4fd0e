/- Next of the reference. -/
import Derived.Test.YtngheokngonhjaaParMath
import Derived.Test.YtngheokngonhjaaFrameWalk6
import Derived.Test.YtngheokngonhjaaRowS
import Derived.Deep.CutRange
namespace Go.Proofs.Ytngheokngonhjaa
open Go.RowKit

theorem rnext_is (s : ByteArray) (room : Nat) (b : Bool) (hb : b = decide (9 ≤ s.size ∧ room < 9 + Fr.num4 (s.data.toList.drop 5))) (g : Fr.Got) (hg : Fr.dec s = g) : rnext s room = if g.err = 35 ∨ g.err = 2 then g else if b = true then Fr.none_ 2 else g := by
  subst hb hg
  unfold rnext
  simp only [decide_eq_true_eq]
theorem fin5 {w wr : World} (c : Below w.heap.size w wr) (a b d e f : Value) :
    Below w.heap.size w (((((wr.setCell ⟨w.heap.size, 0, none⟩ a).setCell ⟨w.heap.size, 1, none⟩ b).setCell ⟨w.heap.size, 2, none⟩ d).setCell ⟨w.heap.size, 3, none⟩ e).setCell ⟨w.heap.size, 4, none⟩ f) :=
  ((((c.setCell (p := ⟨w.heap.size, 0, none⟩) (Nat.le_refl _) a).setCell (p := ⟨w.heap.size, 1, none⟩) (Nat.le_refl _) b).setCell (p := ⟨w.heap.size, 2, none⟩) (Nat.le_refl _) d).setCell (p := ⟨w.heap.size, 3, none⟩) (Nat.le_refl _) e).setCell (p := ⟨w.heap.size, 4, none⟩) (Nat.le_refl _) f

set_option maxRecDepth 100000 in
set_option maxHeartbeats 800000 in
theorem refnext_a (s : ByteArray) (room : Nat) (w : World) (R : Fr.Got) (t j : Int) (d : ByteArray) (len : Nat) (er : Int)
    (HD : Hid (∀ w, Calls Try.prog 19 #[.string s] w fun e w' => e = .returned (.agg #[.int .i64 t, .int .i64 j, .string d, .int .i64 (len : Int), .int .i64 er]) ∧ Below w.heap.size w w')) (HV : Hid (R = ⟨⟨t, j, d⟩, len, er⟩)) (he : er = 35) :
    Calls Try.prog 14 #[.string s, .int .i64 (room : Int)] w fun e w' => e = .returned (gv R) ∧ Below w.heap.size w w' := by
  subst he
  go_enter Try.func14, Try.ntmps14
  go_wp2_with fail
  (with_reducible refine (HD.out _).mono ?_)
  rintro e w1 ⟨rfl, hb1⟩
  have HR := Lib.hid ((Has.new w #[.int .i64 0, .int .i64 0, .string ⟨#[]⟩, .int .i64 0, .int .i64 0] 45).below hb1 (by simp))
  have HB := Lib.hid (((Below.refl w.heap.size w).alloc (Nat.le_refl _) (.cells #[.int .i64 0, .int .i64 0, .string ⟨#[]⟩, .int .i64 0, .int .i64 0] 45)).trans (hb1.mono (by simp)))
  have hlt1 := HR.out.lt
  clear hb1
  go_upto_region 2 with (fail)
  have HC := Lib.hid (Has.new w1 #[.int .i64 t, .int .i64 j, .string d, .int .i64 (len : Int), .int .i64 35] 45)
  have HR2 := Lib.hid (HR.out.alloc (.cells #[.int .i64 t, .int .i64 j, .string d, .int .i64 (len : Int), .int .i64 35] 45))
  have HB2 := Lib.hid (HB.out.alloc (Nat.le_of_lt hlt1) (.cells #[.int .i64 t, .int .i64 j, .string d, .int .i64 (len : Int), .int .i64 35] 45))
  have hne : w.heap.size ≠ w1.heap.size := by omega
  generalize w1.alloc (.cells #[.int .i64 t, .int .i64 j, .string d, .int .i64 (len : Int), .int .i64 35] 45) = w2 at *
  have r0 := HR2.out.cell 0; have r1 := HR2.out.cell 1; have r2 := HR2.out.cell 2; have r3 := HR2.out.cell 3; have r4 := HR2.out.cell 4
  have q0 := HR2.out.free 0; have q1 := HR2.out.free 1; have q2 := HR2.out.free 2; have q3 := HR2.out.free 3; have q4 := HR2.out.free 4
  have c0 := HC.out.cell 0; have c1 := HC.out.cell 1; have c2 := HC.out.cell 2; have c3 := HC.out.cell 3; have c4 := HC.out.cell 4
  simp only [List.getElem?_toArray, List.getElem?_cons_zero, List.getElem?_cons_succ] at r0 r1 r2 r3 r4 c0 c1 c2 c3 c4
  go_wp2
  refine bodyPost_ret (v := .agg #[.int .i64 t, .int .i64 j, .string d, .int .i64 (len : Int), .int .i64 35]) (by rw [results_cell1 rfl]; go_simp) rfl ?_
  rw [HV.out]
  exact ⟨rfl, fin5 HB2.out _ _ _ _ _⟩

set_option maxRecDepth 100000 in
set_option maxHeartbeats 800000 in
theorem refnext_b (s : ByteArray) (room : Nat) (w : World) (R : Fr.Got) (t j : Int) (d : ByteArray) (len : Nat) (er : Int)
    (HD : Hid (∀ w, Calls Try.prog 19 #[.string s] w fun e w' => e = .returned (.agg #[.int .i64 t, .int .i64 j, .string d, .int .i64 (len : Int), .int .i64 er]) ∧ Below w.heap.size w w')) (HV : Hid (R = ⟨⟨t, j, d⟩, len, er⟩)) (he : er = 2) :
    Calls Try.prog 14 #[.string s, .int .i64 (room : Int)] w fun e w' => e = .returned (gv R) ∧ Below w.heap.size w w' := by
  subst he
  go_enter Try.func14, Try.ntmps14
  go_wp2_with fail
  (with_reducible refine (HD.out _).mono ?_)
  rintro e w1 ⟨rfl, hb1⟩
  have HR := Lib.hid ((Has.new w #[.int .i64 0, .int .i64 0, .string ⟨#[]⟩, .int .i64 0, .int .i64 0] 45).below hb1 (by simp))
  have HB := Lib.hid (((Below.refl w.heap.size w).alloc (Nat.le_refl _) (.cells #[.int .i64 0, .int .i64 0, .string ⟨#[]⟩, .int .i64 0, .int .i64 0] 45)).trans (hb1.mono (by simp)))
  have hlt1 := HR.out.lt
  clear hb1
  go_upto_region 2 with (fail)
  have HC := Lib.hid (Has.new w1 #[.int .i64 t, .int .i64 j, .string d, .int .i64 (len : Int), .int .i64 2] 45)
  have HR2 := Lib.hid (HR.out.alloc (.cells #[.int .i64 t, .int .i64 j, .string d, .int .i64 (len : Int), .int .i64 2] 45))
  have HB2 := Lib.hid (HB.out.alloc (Nat.le_of_lt hlt1) (.cells #[.int .i64 t, .int .i64 j, .string d, .int .i64 (len : Int), .int .i64 2] 45))
  have hne : w.heap.size ≠ w1.heap.size := by omega
  generalize w1.alloc (.cells #[.int .i64 t, .int .i64 j, .string d, .int .i64 (len : Int), .int .i64 2] 45) = w2 at *
  have r0 := HR2.out.cell 0; have r1 := HR2.out.cell 1; have r2 := HR2.out.cell 2; have r3 := HR2.out.cell 3; have r4 := HR2.out.cell 4
  have q0 := HR2.out.free 0; have q1 := HR2.out.free 1; have q2 := HR2.out.free 2; have q3 := HR2.out.free 3; have q4 := HR2.out.free 4
  have c0 := HC.out.cell 0; have c1 := HC.out.cell 1; have c2 := HC.out.cell 2; have c3 := HC.out.cell 3; have c4 := HC.out.cell 4
  simp only [List.getElem?_toArray, List.getElem?_cons_zero, List.getElem?_cons_succ] at r0 r1 r2 r3 r4 c0 c1 c2 c3 c4
  go_wp2
  refine bodyPost_ret (v := .agg #[.int .i64 t, .int .i64 j, .string d, .int .i64 (len : Int), .int .i64 2]) (by rw [results_cell1 rfl]; go_simp) rfl ?_
  rw [HV.out]
  exact ⟨rfl, fin5 HB2.out _ _ _ _ _⟩

set_option maxRecDepth 100000 in
set_option maxHeartbeats 800000 in
theorem refnext_c (s : ByteArray) (room : Nat) (w : World) (R : Fr.Got) (t j : Int) (d : ByteArray) (len : Nat) (er : Int)
    (HD : Hid (∀ w, Calls Try.prog 19 #[.string s] w fun e w' => e = .returned (.agg #[.int .i64 t, .int .i64 j, .string d, .int .i64 (len : Int), .int .i64 er]) ∧ Below w.heap.size w w')) (HV : Hid (R = ⟨⟨t, j, d⟩, len, er⟩)) (he1 : (er == 35) = false) (he2 : (er == 2) = false) (h9 : decide ((9 : Int) ≤ (s.size : Int)) = false) :
    Calls Try.prog 14 #[.string s, .int .i64 (room : Int)] w fun e w' => e = .returned (gv R) ∧ Below w.heap.size w w' := by
  go_enter Try.func14, Try.ntmps14
  go_wp2_with fail
  (with_reducible refine (HD.out _).mono ?_)
  rintro e w1 ⟨rfl, hb1⟩
  have HR := Lib.hid ((Has.new w #[.int .i64 0, .int .i64 0, .string ⟨#[]⟩, .int .i64 0, .int .i64 0] 45).below hb1 (by simp))
  have HB := Lib.hid (((Below.refl w.heap.size w).alloc (Nat.le_refl _) (.cells #[.int .i64 0, .int .i64 0, .string ⟨#[]⟩, .int .i64 0, .int .i64 0] 45)).trans (hb1.mono (by simp)))
  have hlt1 := HR.out.lt
  clear hb1
  go_upto_region 2 with (fail)
  have HC := Lib.hid (Has.new w1 #[.int .i64 t, .int .i64 j, .string d, .int .i64 (len : Int), .int .i64 er] 45)
  have HR2 := Lib.hid (HR.out.alloc (.cells #[.int .i64 t, .int .i64 j, .string d, .int .i64 (len : Int), .int .i64 er] 45))
  have HB2 := Lib.hid (HB.out.alloc (Nat.le_of_lt hlt1) (.cells #[.int .i64 t, .int .i64 j, .string d, .int .i64 (len : Int), .int .i64 er] 45))
  have hne : w.heap.size ≠ w1.heap.size := by omega
  generalize w1.alloc (.cells #[.int .i64 t, .int .i64 j, .string d, .int .i64 (len : Int), .int .i64 er] 45) = w2 at *
  have r0 := HR2.out.cell 0; have r1 := HR2.out.cell 1; have r2 := HR2.out.cell 2; have r3 := HR2.out.cell 3; have r4 := HR2.out.cell 4
  have q0 := HR2.out.free 0; have q1 := HR2.out.free 1; have q2 := HR2.out.free 2; have q3 := HR2.out.free 3; have q4 := HR2.out.free 4
  have c0 := HC.out.cell 0; have c1 := HC.out.cell 1; have c2 := HC.out.cell 2; have c3 := HC.out.cell 3; have c4 := HC.out.cell 4
  simp only [List.getElem?_toArray, List.getElem?_cons_zero, List.getElem?_cons_succ] at r0 r1 r2 r3 r4 c0 c1 c2 c3 c4
  go_wp2
  refine bodyPost_ret (v := .agg #[.int .i64 t, .int .i64 j, .string d, .int .i64 (len : Int), .int .i64 er]) (by rw [results_cell1 rfl]; go_simp) rfl ?_
  rw [HV.out]
  exact ⟨rfl, fin5 HB2.out _ _ _ _ _⟩

set_option maxRecDepth 100000 in
set_option maxHeartbeats 800000 in
theorem refnext_d (s : ByteArray) (room : Nat) (w : World) (R : Fr.Got) (t j : Int) (d : ByteArray) (len : Nat) (er : Int)
    (HD : Hid (∀ w, Calls Try.prog 19 #[.string s] w fun e w' => e = .returned (.agg #[.int .i64 t, .int .i64 j, .string d, .int .i64 (len : Int), .int .i64 er]) ∧ Below w.heap.size w w')) (HV : Hid (R = ⟨⟨t, j, d⟩, len, er⟩)) (he1 : (er == 35) = false) (he2 : (er == 2) = false) (h9 : decide ((9 : Int) ≤ (s.size : Int)) = true) (hs : 9 ≤ s.size) (hl : ¬ (room : Int) < 9 + (Fr.num4 (s.data.toList.drop 5) : Int)) :
    Calls Try.prog 14 #[.string s, .int .i64 (room : Int)] w fun e w' => e = .returned (gv R) ∧ Below w.heap.size w w' := by
  have hsl := run_slice_str Try.underlying9 s 5 9 5 9 rfl rfl (by omega) (by omega)
  have HU := Lib.hid (fun w => refnumber_walk (s.extract 5 9) w (by rw [ByteArray.size_extract]; omega))
  rw [Fr.num4_ext s 5 9 (by omega)] at HU
  have hn := Fr.num4_lt (s.data.toList.drop 5)
  generalize Fr.num4 (s.data.toList.drop 5) = n at *
  go_enter Try.func14, Try.ntmps14
  go_wp2_with fail
  (with_reducible refine (HD.out _).mono ?_)
  rintro e w1 ⟨rfl, hb1⟩
  have HR := Lib.hid ((Has.new w #[.int .i64 0, .int .i64 0, .string ⟨#[]⟩, .int .i64 0, .int .i64 0] 45).below hb1 (by simp))
  have HB := Lib.hid (((Below.refl w.heap.size w).alloc (Nat.le_refl _) (.cells #[.int .i64 0, .int .i64 0, .string ⟨#[]⟩, .int .i64 0, .int .i64 0] 45)).trans (hb1.mono (by simp)))
  have hlt1 := HR.out.lt
  clear hb1
  go_upto_region 2 with (fail)
  have HC := Lib.hid (Has.new w1 #[.int .i64 t, .int .i64 j, .string d, .int .i64 (len : Int), .int .i64 er] 45)
  have HR2 := Lib.hid (HR.out.alloc (.cells #[.int .i64 t, .int .i64 j, .string d, .int .i64 (len : Int), .int .i64 er] 45))
  have HB2 := Lib.hid (HB.out.alloc (Nat.le_of_lt hlt1) (.cells #[.int .i64 t, .int .i64 j, .string d, .int .i64 (len : Int), .int .i64 er] 45))
  have hne : w.heap.size ≠ w1.heap.size := by omega
  generalize w1.alloc (.cells #[.int .i64 t, .int .i64 j, .string d, .int .i64 (len : Int), .int .i64 er] 45) = w2 at *
  have r0 := HR2.out.cell 0; have r1 := HR2.out.cell 1; have r2 := HR2.out.cell 2; have r3 := HR2.out.cell 3; have r4 := HR2.out.cell 4
  have q0 := HR2.out.free 0; have q1 := HR2.out.free 1; have q2 := HR2.out.free 2; have q3 := HR2.out.free 3; have q4 := HR2.out.free 4
  have c0 := HC.out.cell 0; have c1 := HC.out.cell 1; have c2 := HC.out.cell 2; have c3 := HC.out.cell 3; have c4 := HC.out.cell 4
  simp only [List.getElem?_toArray, List.getElem?_cons_zero, List.getElem?_cons_succ] at r0 r1 r2 r3 r4 c0 c1 c2 c3 c4
  go_wp2_with fail
  (with_reducible refine (HU.out _).mono ?_)
  rintro e w3 ⟨rfl, hb3⟩
  have HC3 := Lib.hid (HC.out.below hb3 HC.out.lt)
  have HR3 := Lib.hid (HR2.out.below hb3 HR2.out.lt)
  have HB3 := Lib.hid (HB2.out.trans (hb3.mono HB2.out.size))
  clear hb3 r0 r1 r2 r3 r4 q0 q1 q2 q3 q4 c0 c1 c2 c3 c4
  have r0 := HR3.out.cell 0; have r1 := HR3.out.cell 1; have r2 := HR3.out.cell 2; have r3 := HR3.out.cell 3; have r4 := HR3.out.cell 4
  have q0 := HR3.out.free 0; have q1 := HR3.out.free 1; have q2 := HR3.out.free 2; have q3 := HR3.out.free 3; have q4 := HR3.out.free 4
  have c0 := HC3.out.cell 0; have c1 := HC3.out.cell 1; have c2 := HC3.out.cell 2; have c3 := HC3.out.cell 3; have c4 := HC3.out.cell 4
  simp only [List.getElem?_toArray, List.getElem?_cons_zero, List.getElem?_cons_succ] at r0 r1 r2 r3 r4 c0 c1 c2 c3 c4
  go_wp2
  refine bodyPost_ret (v := .agg #[.int .i64 t, .int .i64 j, .string d, .int .i64 (len : Int), .int .i64 er]) (by rw [results_cell1 rfl]; go_simp) rfl ?_
  rw [HV.out]
  exact ⟨rfl, fin5 HB3.out _ _ _ _ _⟩

set_option maxRecDepth 100000 in
set_option maxHeartbeats 800000 in
theorem refnext_e (s : ByteArray) (room : Nat) (w : World) (R : Fr.Got) (t j : Int) (d : ByteArray) (len : Nat) (er : Int)
    (HD : Hid (∀ w, Calls Try.prog 19 #[.string s] w fun e w' => e = .returned (.agg #[.int .i64 t, .int .i64 j, .string d, .int .i64 (len : Int), .int .i64 er]) ∧ Below w.heap.size w w')) (HV : Hid (R = Fr.none_ 2)) (he1 : (er == 35) = false) (he2 : (er == 2) = false) (h9 : decide ((9 : Int) ≤ (s.size : Int)) = true) (hs : 9 ≤ s.size) (hl : (room : Int) < 9 + (Fr.num4 (s.data.toList.drop 5) : Int)) :
    Calls Try.prog 14 #[.string s, .int .i64 (room : Int)] w fun e w' => e = .returned (gv R) ∧ Below w.heap.size w w' := by
  have hsl := run_slice_str Try.underlying9 s 5 9 5 9 rfl rfl (by omega) (by omega)
  have HU := Lib.hid (fun w => refnumber_walk (s.extract 5 9) w (by rw [ByteArray.size_extract]; omega))
  rw [Fr.num4_ext s 5 9 (by omega)] at HU
  have hn := Fr.num4_lt (s.data.toList.drop 5)
  generalize Fr.num4 (s.data.toList.drop 5) = n at *
  go_enter Try.func14, Try.ntmps14
  go_wp2_with fail
  (with_reducible refine (HD.out _).mono ?_)
  rintro e w1 ⟨rfl, hb1⟩
  have HR := Lib.hid ((Has.new w #[.int .i64 0, .int .i64 0, .string ⟨#[]⟩, .int .i64 0, .int .i64 0] 45).below hb1 (by simp))
  have HB := Lib.hid (((Below.refl w.heap.size w).alloc (Nat.le_refl _) (.cells #[.int .i64 0, .int .i64 0, .string ⟨#[]⟩, .int .i64 0, .int .i64 0] 45)).trans (hb1.mono (by simp)))
  have hlt1 := HR.out.lt
  clear hb1
  go_upto_region 2 with (fail)
  have HC := Lib.hid (Has.new w1 #[.int .i64 t, .int .i64 j, .string d, .int .i64 (len : Int), .int .i64 er] 45)
  have HR2 := Lib.hid (HR.out.alloc (.cells #[.int .i64 t, .int .i64 j, .string d, .int .i64 (len : Int), .int .i64 er] 45))
  have HB2 := Lib.hid (HB.out.alloc (Nat.le_of_lt hlt1) (.cells #[.int .i64 t, .int .i64 j, .string d, .int .i64 (len : Int), .int .i64 er] 45))
  have hne : w.heap.size ≠ w1.heap.size := by omega
  generalize w1.alloc (.cells #[.int .i64 t, .int .i64 j, .string d, .int .i64 (len : Int), .int .i64 er] 45) = w2 at *
  have r0 := HR2.out.cell 0; have r1 := HR2.out.cell 1; have r2 := HR2.out.cell 2; have r3 := HR2.out.cell 3; have r4 := HR2.out.cell 4
  have q0 := HR2.out.free 0; have q1 := HR2.out.free 1; have q2 := HR2.out.free 2; have q3 := HR2.out.free 3; have q4 := HR2.out.free 4
  have c0 := HC.out.cell 0; have c1 := HC.out.cell 1; have c2 := HC.out.cell 2; have c3 := HC.out.cell 3; have c4 := HC.out.cell 4
  simp only [List.getElem?_toArray, List.getElem?_cons_zero, List.getElem?_cons_succ] at r0 r1 r2 r3 r4 c0 c1 c2 c3 c4
  go_wp2_with fail
  (with_reducible refine (HU.out _).mono ?_)
  rintro e w3 ⟨rfl, hb3⟩
  have HC3 := Lib.hid (HC.out.below hb3 HC.out.lt)
  have HR3 := Lib.hid (HR2.out.below hb3 HR2.out.lt)
  have HB3 := Lib.hid (HB2.out.trans (hb3.mono HB2.out.size))
  clear hb3 r0 r1 r2 r3 r4 q0 q1 q2 q3 q4 c0 c1 c2 c3 c4
  have r0 := HR3.out.cell 0; have r1 := HR3.out.cell 1; have r2 := HR3.out.cell 2; have r3 := HR3.out.cell 3; have r4 := HR3.out.cell 4
  have q0 := HR3.out.free 0; have q1 := HR3.out.free 1; have q2 := HR3.out.free 2; have q3 := HR3.out.free 3; have q4 := HR3.out.free 4
  have c0 := HC3.out.cell 0; have c1 := HC3.out.cell 1; have c2 := HC3.out.cell 2; have c3 := HC3.out.cell 3; have c4 := HC3.out.cell 4
  simp only [List.getElem?_toArray, List.getElem?_cons_zero, List.getElem?_cons_succ] at r0 r1 r2 r3 r4 c0 c1 c2 c3 c4
  go_wp2
  refine bodyPost_ret (v := .agg #[.int .i64 0, .int .i64 0, .string ⟨#[]⟩, .int .i64 0, .int .i64 2]) (by rw [results_cell1 rfl]; go_simp) rfl ?_
  rw [HV.out]
  exact ⟨rfl, fin5 HB3.out _ _ _ _ _⟩


theorem refnext_walk (s : ByteArray) (room : Nat) (w : World) (hs : s.size ≤ 1000000) :
    Calls Try.prog 14 #[.string s, .int .i64 (room : Int)] w fun e w' => e = .returned (gv (rnext s room)) ∧ Below w.heap.size w w' := by
  have HD := Lib.hid (fun w => refdec_walk s w (by omega))
  obtain ⟨g, hg⟩ : ∃ g, Fr.dec s = g := ⟨_, rfl⟩
  have HN := fun (b : Bool) hb => rnext_is s room b hb g hg
  rw [hg] at HD
  clear hg
  obtain ⟨⟨t, j, d⟩, len, er⟩ := g
  simp only [gv] at HD HN
  by_cases he : er = 35 ∨ er = 2
  · have hR := HN _ rfl
    rw [if_pos he] at hR
    rcases he with he | he
    · exact refnext_a s room w _ t j d len er HD (Lib.hid hR) he
    · exact refnext_b s room w _ t j d len er HD (Lib.hid hR) he
  · have e1 : (er == 35) = false := beq_eq_false_iff_ne.2 (fun h => he (.inl h))
    have e2 : (er == 2) = false := beq_eq_false_iff_ne.2 (fun h => he (.inr h))
    by_cases h9 : s.size < 9
    · have hR := HN false (by simp; omega)
      rw [if_neg he, if_neg (by decide)] at hR
      exact refnext_c s room w _ t j d len er HD (Lib.hid hR) e1 e2 (by simp; omega)
    · by_cases hl : room < 9 + Fr.num4 (s.data.toList.drop 5)
      · have hR := HN true (by simp; omega)
        rw [if_neg he, if_pos rfl] at hR
        exact refnext_e s room w _ t j d len er HD (Lib.hid hR) e1 e2 (by simp; omega) (by omega) (by omega)
      · have hR := HN false (by simp; omega)
        rw [if_neg he, if_neg (by decide)] at hR
        exact refnext_d s room w _ t j d len er HD (Lib.hid hR) e1 e2 (by simp; omega) (by omega) (by omega)
end Go.Proofs.Ytngheokngonhjaa
