/- The reference of runes: First. -/
import Derived.Test.YtajalllecoclcaaDoorTokRef1
namespace Go.Proofs.YtajalllecoclcaaDoor
open Go.RowKit
set_option linter.unusedVariables false
set_option linter.unusedSimpArgs false

theorem rn_two (w : World) (cs ds : Array Value) (T U : TypeId) : Has ((w.alloc (.cells cs T)).alloc (.cells ds U)) w.heap.size cs T ∧ Has ((w.alloc (.cells cs T)).alloc (.cells ds U)) (w.heap.size + 1) ds U ∧ Below w.heap.size w ((w.alloc (.cells cs T)).alloc (.cells ds U)) := by
  refine ⟨(Has.new w cs T).alloc _, ?_, below_alloc2 w _ _⟩
  have := Has.new (w.alloc (.cells cs T)) ds U
  rw [World.size_alloc] at this
  exact this
set_option maxRecDepth 100000 in
set_option maxHeartbeats 1600000 in
theorem rfirst2 (s : ByteArray) (w : World) (h0 : 0 < s.size) (hlo : 192 ≤ Tk.at_ s.data.toList 0) (hhi : Tk.at_ s.data.toList 0 < 224) : Calls Tryd.prog 62 #[.string s] w fun e w' => e = .returned (.agg #[.int .i64 (Tk.first s.data.toList).1, .int .i64 ((Tk.first s.data.toList).2 : Int)]) ∧ Below w.heap.size w w' := by
  have HW := Lib.hid (fun w => wide2_walk s w h0 (by omega) (by omega))
  have hf : Tk.first s.data.toList = if (Tk.wide ((Tk.at_ s.data.toList 0 : Int) - 192) 128 s.data.toList 1).2 = 0 then (-1, 1) else Tk.wide ((Tk.at_ s.data.toList 0 : Int) - 192) 128 s.data.toList 1 := Tk.first_2 _ ⟨hlo, hhi⟩
  generalize Tk.first s.data.toList = F at *
  generalize Tk.wide ((Tk.at_ s.data.toList 0 : Int) - 192) 128 s.data.toList 1 = R at *
  obtain ⟨R1, R2⟩ := R
  have HF := Lib.hid hf
  simp only at HW
  rw [tk_at s 0 h0] at hlo hhi
  have hlo' : decide ((192 : Int) ≤ (s[0].toNat : Int)) = true := by simp; omega
  have hhi' : decide ((s[0].toNat : Int) < (224 : Int)) = true := by simp; omega
  have hn0 : decide ((s[0].toNat : Int) < (128 : Int)) = false := by simp; omega
  have hx1 : decide ((224 : Int) ≤ (s[0].toNat : Int)) = false ∧ decide ((240 : Int) ≤ (s[0].toNat : Int)) = false := by refine ⟨?_, ?_⟩ <;> (simp; omega)
  simp only [decide_eq_true_eq, decide_eq_false_iff_not] at hx1
  have hx2 := decide_eq_false hx1.1; have hx3 := decide_eq_false hx1.2; clear hx1
  have h0' : (0 : Int) < (s.size : Int) := by omega
  clear hlo hhi hf
  go_enter Tryd.func62, Tryd.ntmps62
  go_upto_region 5 with (fail)
  obtain ⟨hr, ho, hb⟩ := rn_two w #[.int .i64 0, .int .i64 0] #[.int .i64 0, .int .i64 0] 101 101
  have HR := Lib.hid hr
  have HO := Lib.hid ho
  have HB := Lib.hid hb
  clear hr ho hb
  generalize (w.alloc (.cells #[.int .i64 0, .int .i64 0] 101)).alloc (.cells #[.int .i64 0, .int .i64 0] 101) = w2 at *
  go_wp2_with fail
  (with_reducible refine (HW.out _).mono ?_)
  rintro e w3 ⟨rfl, hb3⟩
  have HR3 := Lib.hid (HR.out.below hb3 HR.out.lt)
  have HO3 := Lib.hid (HO.out.below hb3 HO.out.lt)
  have HB3 := Lib.hid (HB.out.trans (hb3.mono HB.out.size))
  have r0 := HR3.out.cell 0; have r1 := HR3.out.cell 1; have o0 := HO3.out.cell 0; have o1 := HO3.out.cell 1
  have f0 := HR3.out.free 0; have f1 := HR3.out.free 1; have g0 := HO3.out.free 0; have g1 := HO3.out.free 1
  simp only [List.getElem?_toArray, List.getElem?_cons_zero, List.getElem?_cons_succ] at r0 r1 o0 o1
  clear HR HO HB hb3 HW
  by_cases h2 : R2 = 0
  · have HZ := Lib.hid (show F = (-1, 1) by have := HF.out; rw [if_pos h2] at this; exact this)
    subst h2
    go_wp2
    ((try simp only [Exit.inBlock, Exit.then]); refine bodyPost_ret (v := (.agg #[.int .i64 (-1), .int .i64 1])) ?_ rfl ⟨?_, ?_⟩; (rw [results_cell1 rfl]; go_simp))
    · rw [HZ.out]; rfl
    · (repeat (first | (with_reducible exact HB3.out) | refine Below.setCell ?_ (by first | exact Nat.le_refl _ | exact Nat.le_succ _) _))
  · have HZ := Lib.hid (show F = (R1, R2) by have := HF.out; rw [if_neg h2] at this; exact this)
    have h2' : ((R2 : Int) == 0) = false := by simpa using h2
    go_wp2
    ((try simp only [Exit.inBlock, Exit.then]); refine bodyPost_ret (v := (.agg #[.int .i64 R1, .int .i64 (R2 : Int)])) ?_ rfl ⟨?_, ?_⟩; (rw [results_cell1 rfl]; go_simp))
    · rw [HZ.out]
    · (repeat (first | (with_reducible exact HB3.out) | refine Below.setCell ?_ (by first | exact Nat.le_refl _ | exact Nat.le_succ _) _))
set_option maxRecDepth 100000 in
set_option maxHeartbeats 1600000 in
theorem rfirst3 (s : ByteArray) (w : World) (h0 : 0 < s.size) (hlo : 224 ≤ Tk.at_ s.data.toList 0) (hhi : Tk.at_ s.data.toList 0 < 240) : Calls Tryd.prog 62 #[.string s] w fun e w' => e = .returned (.agg #[.int .i64 (Tk.first s.data.toList).1, .int .i64 ((Tk.first s.data.toList).2 : Int)]) ∧ Below w.heap.size w w' := by
  have HW := Lib.hid (fun w => wide3_walk s w h0 (by omega) (by omega))
  have hf : Tk.first s.data.toList = if (Tk.wide ((Tk.at_ s.data.toList 0 : Int) - 224) 2048 s.data.toList 2).2 = 0 then (-1, 1) else Tk.wide ((Tk.at_ s.data.toList 0 : Int) - 224) 2048 s.data.toList 2 := Tk.first_3 _ ⟨hlo, hhi⟩
  generalize Tk.first s.data.toList = F at *
  generalize Tk.wide ((Tk.at_ s.data.toList 0 : Int) - 224) 2048 s.data.toList 2 = R at *
  obtain ⟨R1, R2⟩ := R
  have HF := Lib.hid hf
  simp only at HW
  rw [tk_at s 0 h0] at hlo hhi
  have hlo' : decide ((224 : Int) ≤ (s[0].toNat : Int)) = true := by simp; omega
  have hhi' : decide ((s[0].toNat : Int) < (240 : Int)) = true := by simp; omega
  have hn0 : decide ((s[0].toNat : Int) < (128 : Int)) = false := by simp; omega
  have hx1 : decide ((s[0].toNat : Int) < (224 : Int)) = false ∧ decide ((240 : Int) ≤ (s[0].toNat : Int)) = false ∧ decide ((192 : Int) ≤ (s[0].toNat : Int)) = true := by refine ⟨?_, ?_, ?_⟩ <;> (simp; omega)
  simp only [decide_eq_true_eq, decide_eq_false_iff_not] at hx1
  have hx2 := decide_eq_false hx1.1; have hx3 := decide_eq_false hx1.2.1; have hx4 := decide_eq_true hx1.2.2; clear hx1
  have h0' : (0 : Int) < (s.size : Int) := by omega
  clear hlo hhi hf
  go_enter Tryd.func62, Tryd.ntmps62
  go_upto_region 5 with (fail)
  obtain ⟨hr, ho, hb⟩ := rn_two w #[.int .i64 0, .int .i64 0] #[.int .i64 0, .int .i64 0] 101 101
  have HR := Lib.hid hr
  have HO := Lib.hid ho
  have HB := Lib.hid hb
  clear hr ho hb
  generalize (w.alloc (.cells #[.int .i64 0, .int .i64 0] 101)).alloc (.cells #[.int .i64 0, .int .i64 0] 101) = w2 at *
  go_wp2_with fail
  (with_reducible refine (HW.out _).mono ?_)
  rintro e w3 ⟨rfl, hb3⟩
  have HR3 := Lib.hid (HR.out.below hb3 HR.out.lt)
  have HO3 := Lib.hid (HO.out.below hb3 HO.out.lt)
  have HB3 := Lib.hid (HB.out.trans (hb3.mono HB.out.size))
  have r0 := HR3.out.cell 0; have r1 := HR3.out.cell 1; have o0 := HO3.out.cell 0; have o1 := HO3.out.cell 1
  have f0 := HR3.out.free 0; have f1 := HR3.out.free 1; have g0 := HO3.out.free 0; have g1 := HO3.out.free 1
  simp only [List.getElem?_toArray, List.getElem?_cons_zero, List.getElem?_cons_succ] at r0 r1 o0 o1
  clear HR HO HB hb3 HW
  by_cases h2 : R2 = 0
  · have HZ := Lib.hid (show F = (-1, 1) by have := HF.out; rw [if_pos h2] at this; exact this)
    subst h2
    go_wp2
    ((try simp only [Exit.inBlock, Exit.then]); refine bodyPost_ret (v := (.agg #[.int .i64 (-1), .int .i64 1])) ?_ rfl ⟨?_, ?_⟩; (rw [results_cell1 rfl]; go_simp))
    · rw [HZ.out]; rfl
    · (repeat (first | (with_reducible exact HB3.out) | refine Below.setCell ?_ (by first | exact Nat.le_refl _ | exact Nat.le_succ _) _))
  · have HZ := Lib.hid (show F = (R1, R2) by have := HF.out; rw [if_neg h2] at this; exact this)
    have h2' : ((R2 : Int) == 0) = false := by simpa using h2
    go_wp2
    ((try simp only [Exit.inBlock, Exit.then]); refine bodyPost_ret (v := (.agg #[.int .i64 R1, .int .i64 (R2 : Int)])) ?_ rfl ⟨?_, ?_⟩; (rw [results_cell1 rfl]; go_simp))
    · rw [HZ.out]
    · (repeat (first | (with_reducible exact HB3.out) | refine Below.setCell ?_ (by first | exact Nat.le_refl _ | exact Nat.le_succ _) _))
set_option maxRecDepth 100000 in
set_option maxHeartbeats 1600000 in
theorem rfirst4 (s : ByteArray) (w : World) (h0 : 0 < s.size) (hlo : 240 ≤ Tk.at_ s.data.toList 0) (hhi : Tk.at_ s.data.toList 0 < 248) : Calls Tryd.prog 62 #[.string s] w fun e w' => e = .returned (.agg #[.int .i64 (Tk.first s.data.toList).1, .int .i64 ((Tk.first s.data.toList).2 : Int)]) ∧ Below w.heap.size w w' := by
  have HW := Lib.hid (fun w => wide4_walk s w h0 (by omega) (by omega))
  have hf : Tk.first s.data.toList = if (Tk.wide ((Tk.at_ s.data.toList 0 : Int) - 240) 65536 s.data.toList 3).2 = 0 then (-1, 1) else Tk.wide ((Tk.at_ s.data.toList 0 : Int) - 240) 65536 s.data.toList 3 := Tk.first_4 _ ⟨hlo, hhi⟩
  generalize Tk.first s.data.toList = F at *
  generalize Tk.wide ((Tk.at_ s.data.toList 0 : Int) - 240) 65536 s.data.toList 3 = R at *
  obtain ⟨R1, R2⟩ := R
  have HF := Lib.hid hf
  simp only at HW
  rw [tk_at s 0 h0] at hlo hhi
  have hlo' : decide ((240 : Int) ≤ (s[0].toNat : Int)) = true := by simp; omega
  have hhi' : decide ((s[0].toNat : Int) < (248 : Int)) = true := by simp; omega
  have hn0 : decide ((s[0].toNat : Int) < (128 : Int)) = false := by simp; omega
  have hx1 : decide ((s[0].toNat : Int) < (224 : Int)) = false ∧ decide ((s[0].toNat : Int) < (240 : Int)) = false ∧ decide ((192 : Int) ≤ (s[0].toNat : Int)) = true ∧ decide ((224 : Int) ≤ (s[0].toNat : Int)) = true := by refine ⟨?_, ?_, ?_, ?_⟩ <;> (simp; omega)
  simp only [decide_eq_true_eq, decide_eq_false_iff_not] at hx1
  have hx2 := decide_eq_false hx1.1; have hx3 := decide_eq_false hx1.2.1; have hx4 := decide_eq_true hx1.2.2.1; have hx5 := decide_eq_true hx1.2.2.2; clear hx1
  have h0' : (0 : Int) < (s.size : Int) := by omega
  clear hlo hhi hf
  go_enter Tryd.func62, Tryd.ntmps62
  go_upto_region 5 with (fail)
  obtain ⟨hr, ho, hb⟩ := rn_two w #[.int .i64 0, .int .i64 0] #[.int .i64 0, .int .i64 0] 101 101
  have HR := Lib.hid hr
  have HO := Lib.hid ho
  have HB := Lib.hid hb
  clear hr ho hb
  generalize (w.alloc (.cells #[.int .i64 0, .int .i64 0] 101)).alloc (.cells #[.int .i64 0, .int .i64 0] 101) = w2 at *
  go_wp2_with fail
  (with_reducible refine (HW.out _).mono ?_)
  rintro e w3 ⟨rfl, hb3⟩
  have HR3 := Lib.hid (HR.out.below hb3 HR.out.lt)
  have HO3 := Lib.hid (HO.out.below hb3 HO.out.lt)
  have HB3 := Lib.hid (HB.out.trans (hb3.mono HB.out.size))
  have r0 := HR3.out.cell 0; have r1 := HR3.out.cell 1; have o0 := HO3.out.cell 0; have o1 := HO3.out.cell 1
  have f0 := HR3.out.free 0; have f1 := HR3.out.free 1; have g0 := HO3.out.free 0; have g1 := HO3.out.free 1
  simp only [List.getElem?_toArray, List.getElem?_cons_zero, List.getElem?_cons_succ] at r0 r1 o0 o1
  clear HR HO HB hb3 HW
  by_cases h2 : R2 = 0
  · have HZ := Lib.hid (show F = (-1, 1) by have := HF.out; rw [if_pos h2] at this; exact this)
    subst h2
    go_wp2
    ((try simp only [Exit.inBlock, Exit.then]); refine bodyPost_ret (v := (.agg #[.int .i64 (-1), .int .i64 1])) ?_ rfl ⟨?_, ?_⟩; (rw [results_cell1 rfl]; go_simp))
    · rw [HZ.out]; rfl
    · (repeat (first | (with_reducible exact HB3.out) | refine Below.setCell ?_ (by first | exact Nat.le_refl _ | exact Nat.le_succ _) _))
  · have HZ := Lib.hid (show F = (R1, R2) by have := HF.out; rw [if_neg h2] at this; exact this)
    have h2' : ((R2 : Int) == 0) = false := by simpa using h2
    go_wp2
    ((try simp only [Exit.inBlock, Exit.then]); refine bodyPost_ret (v := (.agg #[.int .i64 R1, .int .i64 (R2 : Int)])) ?_ rfl ⟨?_, ?_⟩; (rw [results_cell1 rfl]; go_simp))
    · rw [HZ.out]
    · (repeat (first | (with_reducible exact HB3.out) | refine Below.setCell ?_ (by first | exact Nat.le_refl _ | exact Nat.le_succ _) _))
set_option maxRecDepth 100000 in
set_option maxHeartbeats 800000 in
theorem rfirst0 (s : ByteArray) (w : World) (h0 : 0 < s.size) (hhi : Tk.at_ s.data.toList 0 < 128) : Calls Tryd.prog 62 #[.string s] w fun e w' => e = .returned (.agg #[.int .i64 (Tk.first s.data.toList).1, .int .i64 ((Tk.first s.data.toList).2 : Int)]) ∧ Below w.heap.size w w' := by
  rw [Tk.first_0 _ hhi]
  rw [tk_at s 0 h0] at *
  have hn0 : decide ((s[0].toNat : Int) < (128 : Int)) = true := by simp; omega
  have h0' : (0 : Int) < (s.size : Int) := by omega
  have hv : (s[0].toNat : Int) ≤ 255 := by omega
  clear hhi
  go_enter Tryd.func62, Tryd.ntmps62
  go_upto_region 1 with (fail)
  have HB := Lib.hid ((Below.refl w.heap.size w).alloc (Nat.le_refl _) (.cells #[.int .i64 0, .int .i64 0] 101))
  have HR := Lib.hid (Has.new w #[.int .i64 0, .int .i64 0] 101)
  generalize w.alloc (.cells #[.int .i64 0, .int .i64 0] 101) = w3 at *
  have r0 := HR.out.cell 0; have r1 := HR.out.cell 1
  have f0 := HR.out.free 0; have f1 := HR.out.free 1
  simp only [List.getElem?_toArray, List.getElem?_cons_zero, List.getElem?_cons_succ] at r0 r1
  go_wp2
  ((try simp only [Exit.inBlock, Exit.then]); refine bodyPost_ret (v := (.agg #[.int .i64 (s[0].toNat : Int), .int .i64 1])) ?_ rfl ⟨?_, ?_⟩; (rw [results_cell1 rfl]; go_simp))
  · rfl
  · (repeat (first | (with_reducible exact HB.out) | refine Below.setCell ?_ (by first | exact Nat.le_refl _ | exact Nat.le_succ _) _))
set_option maxRecDepth 100000 in
set_option maxHeartbeats 800000 in
theorem rfirstx (s : ByteArray) (w : World) (h0 : 0 < s.size) (h1 : 128 ≤ Tk.at_ s.data.toList 0) (h2 : Tk.at_ s.data.toList 0 < 192 ∨ 248 ≤ Tk.at_ s.data.toList 0) : Calls Tryd.prog 62 #[.string s] w fun e w' => e = .returned (.agg #[.int .i64 (Tk.first s.data.toList).1, .int .i64 ((Tk.first s.data.toList).2 : Int)]) ∧ Below w.heap.size w w' := by
  rw [Tk.first_x _ h1 h2]
  rw [tk_at s 0 h0] at *
  have hn0 : decide ((s[0].toNat : Int) < (128 : Int)) = false := by simp; omega
  have h0' : (0 : Int) < (s.size : Int) := by omega
  have hx : (decide ((192 : Int) ≤ (s[0].toNat : Int)) = false ∧ decide ((224 : Int) ≤ (s[0].toNat : Int)) = false ∧ decide ((240 : Int) ≤ (s[0].toNat : Int)) = false) ∨ (decide ((192 : Int) ≤ (s[0].toNat : Int)) = true ∧ decide ((224 : Int) ≤ (s[0].toNat : Int)) = true ∧ decide ((240 : Int) ≤ (s[0].toNat : Int)) = true ∧ decide ((s[0].toNat : Int) < (224 : Int)) = false ∧ decide ((s[0].toNat : Int) < (240 : Int)) = false ∧ decide ((s[0].toNat : Int) < (248 : Int)) = false) := by
    rcases h2 with h2 | h2
    · left; refine ⟨?_, ?_, ?_⟩ <;> (simp; omega)
    · right; refine ⟨?_, ?_, ?_, ?_, ?_, ?_⟩ <;> (simp; omega)
  clear h1 h2
  obtain ⟨hr, ho, hb⟩ := rn_two w #[.int .i64 0, .int .i64 0] #[.int .i64 0, .int .i64 0] 101 101
  have HR := Lib.hid hr
  have HO := Lib.hid ho
  have HB := Lib.hid hb
  clear hr ho hb
  rcases hx with ⟨x1, x2, x3⟩ | ⟨x1, x2, x3, x4, x5, x6⟩
  · go_enter Tryd.func62, Tryd.ntmps62
    go_upto_region 5 with (fail)
    generalize (w.alloc (.cells #[.int .i64 0, .int .i64 0] 101)).alloc (.cells #[.int .i64 0, .int .i64 0] 101) = w2 at *
    have r0 := HR.out.cell 0; have r1 := HR.out.cell 1; have o0 := HO.out.cell 0; have o1 := HO.out.cell 1
    have f0 := HR.out.free 0; have f1 := HR.out.free 1; have g0 := HO.out.free 0; have g1 := HO.out.free 1
    simp only [List.getElem?_toArray, List.getElem?_cons_zero, List.getElem?_cons_succ] at r0 r1 o0 o1
    go_wp2
    ((try simp only [Exit.inBlock, Exit.then]); refine bodyPost_ret (v := (.agg #[.int .i64 (-1), .int .i64 1])) ?_ rfl ⟨?_, ?_⟩; (rw [results_cell1 rfl]; go_simp))
    · rfl
    · (repeat (first | (with_reducible exact HB.out) | refine Below.setCell ?_ (by first | exact Nat.le_refl _ | exact Nat.le_succ _) _))
  · go_enter Tryd.func62, Tryd.ntmps62
    go_upto_region 5 with (fail)
    generalize (w.alloc (.cells #[.int .i64 0, .int .i64 0] 101)).alloc (.cells #[.int .i64 0, .int .i64 0] 101) = w2 at *
    have r0 := HR.out.cell 0; have r1 := HR.out.cell 1; have o0 := HO.out.cell 0; have o1 := HO.out.cell 1
    have f0 := HR.out.free 0; have f1 := HR.out.free 1; have g0 := HO.out.free 0; have g1 := HO.out.free 1
    simp only [List.getElem?_toArray, List.getElem?_cons_zero, List.getElem?_cons_succ] at r0 r1 o0 o1
    go_wp2
    ((try simp only [Exit.inBlock, Exit.then]); refine bodyPost_ret (v := (.agg #[.int .i64 (-1), .int .i64 1])) ?_ rfl ⟨?_, ?_⟩; (rw [results_cell1 rfl]; go_simp))
    · rfl
    · (repeat (first | (with_reducible exact HB.out) | refine Below.setCell ?_ (by first | exact Nat.le_refl _ | exact Nat.le_succ _) _))
theorem rfirst_walk (s : ByteArray) (w : World) (h0 : 0 < s.size) : Calls Tryd.prog 62 #[.string s] w fun e w' => e = .returned (.agg #[.int .i64 (Tk.num (Tk.d s.data.toList)), .int .i64 ((Tk.d s.data.toList).2 : Int)]) ∧ Below w.heap.size w w' := by
  have e := Tk.first_d s.data.toList
  rw [show Tk.num (Tk.d s.data.toList) = (Tk.first s.data.toList).1 by rw [e], show (Tk.d s.data.toList).2 = (Tk.first s.data.toList).2 by rw [e]]
  by_cases ha : Tk.at_ s.data.toList 0 < 128
  · exact rfirst0 s w h0 ha
  · by_cases h2 : 192 ≤ Tk.at_ s.data.toList 0 ∧ Tk.at_ s.data.toList 0 < 224
    · exact rfirst2 s w h0 h2.1 h2.2
    · by_cases h3 : 224 ≤ Tk.at_ s.data.toList 0 ∧ Tk.at_ s.data.toList 0 < 240
      · exact rfirst3 s w h0 h3.1 h3.2
      · by_cases h4 : 240 ≤ Tk.at_ s.data.toList 0 ∧ Tk.at_ s.data.toList 0 < 248
        · exact rfirst4 s w h0 h4.1 h4.2
        · exact rfirstx s w h0 (by omega) (by omega)
end Go.Proofs.YtajalllecoclcaaDoor
