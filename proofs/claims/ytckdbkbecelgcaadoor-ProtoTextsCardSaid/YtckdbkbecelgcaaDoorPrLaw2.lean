/- ProtoReads. -/
import Derived.Test.YtckdbkbecelgcaaDoorPrLaw1
namespace Go.Proofs.YtckdbkbecelgcaaDoor
open Go.RowKit
set_option linter.unusedVariables false
set_option linter.unusedSimpArgs false

set_option maxRecDepth 100000 in
set_option maxHeartbeats 2000000 in
theorem protoReads_walk (t j : Int) (d : ByteArray) (w : World) (_ : (Lit.int .i64 t).wf = true) (_ : (Lit.int .i64 j).wf = true) (_ : d.size ≤ maxLen) (hT : Tabs w) : Calls Tryd.prog 3 #[.agg #[.int .i64 t, .int .i64 j, .string d]] w fun e w' => e = .returned (.bool true) ∧ Below w.heap.size w w' := by
  have HT := Lib.hid hT
  clear hT
  by_cases hl : 300 < d.size
  · have hl' : (300 : Int) < (d.size : Int) := by omega
    clear hl
    go_enter Tryd.func3, Tryd.ntmps3
    go_upto_region 1 with (fail)
    have HB := Lib.hid (Below.refl w.heap.size w)
    have HL := Lib.hid (Hold.nil w)
    have HBn := Lib.hid (HB.out.alloc (Nat.le_refl _) (.cells #[.int .i64 t, .int .i64 j, .string d] 23))
    have HLn := Lib.hid (HL.out.add #[.int .i64 t, .int .i64 j, .string d] 23)
    clear HB HL
    have HB := HBn
    have HL := HLn
    clear HBn HLn
    obtain ⟨q0, hq0⟩ : ∃ q0, q0 = w.heap.size := ⟨_, rfl⟩
    rw [← hq0] at HL
    rw [← hq0]
    clear hq0
    generalize w.alloc (.cells #[.int .i64 t, .int .i64 j, .string d] 23) = w1 at *
    have HP := Lib.hid (HL.out.at 0 rfl)
    have p0 := HP.out.cell 0; have p1 := HP.out.cell 1; have p2 := HP.out.cell 2
    simp only [List.getElem?_toArray, List.getElem?_cons_zero, List.getElem?_cons_succ] at p0 p1 p2
    clear HP
    go_wp2_with fail
    (with_reducible refine (nine_walk _ (HT.out.keep HB.out)).mono ?_)
    rintro e w2 ⟨rfl, hb⟩
    have HBn := Lib.hid (HB.out.trans (hb.mono HB.out.size))
    have HLn := Lib.hid (HL.out.keep hb)
    clear HB HL hb
    have HB := HBn
    have HL := HLn
    clear HBn HLn
    go_wp2
    go_ret
    exact ⟨rfl, HB.out⟩
  · have hl' : ¬ (300 : Int) < (d.size : Int) := by omega
    have H1 := Lib.hid (fun w h => pread_walk t j d w h)
    have H2 := Lib.hid (fun w => rread_walk t j d w)
    clear hl
    cases hrd : Pr.rd ⟨t, j, d⟩ with
    | none =>
      rw [hrd] at H1 H2
      simp only [readV, askV] at H1 H2
      clear hrd
      go_enter Tryd.func3, Tryd.ntmps3
      go_upto_region 1 with (fail)
      have HB := Lib.hid (Below.refl w.heap.size w)
      have HL := Lib.hid (Hold.nil w)
      have HBn := Lib.hid (HB.out.alloc (Nat.le_refl _) (.cells #[.int .i64 t, .int .i64 j, .string d] 23))
      have HLn := Lib.hid (HL.out.add #[.int .i64 t, .int .i64 j, .string d] 23)
      clear HB HL
      have HB := HBn
      have HL := HLn
      clear HBn HLn
      obtain ⟨q0, hq0⟩ : ∃ q0, q0 = w.heap.size := ⟨_, rfl⟩
      rw [← hq0] at HL
      rw [← hq0]
      clear hq0
      generalize w.alloc (.cells #[.int .i64 t, .int .i64 j, .string d] 23) = w1 at *
      have HP := Lib.hid (HL.out.at 0 rfl)
      have p0 := HP.out.cell 0; have p1 := HP.out.cell 1; have p2 := HP.out.cell 2
      simp only [List.getElem?_toArray, List.getElem?_cons_zero, List.getElem?_cons_succ] at p0 p1 p2
      clear HP
      go_wp2_with fail
      (with_reducible refine (H1.out _ (HT.out.keep HB.out)).mono ?_)
      rintro e w2 ⟨rfl, hb⟩
      have HBn := Lib.hid (HB.out.trans (hb.mono HB.out.size))
      have HLn := Lib.hid (HL.out.keep hb)
      clear HB HL hb
      have HB := HBn
      have HL := HLn
      clear HBn HLn
      clear p0 p1 p2
      go_upto_region 4 with (fail)
      have HBn := Lib.hid (HB.out.alloc HB.out.size (.cells #[.int .i64 0, .int .i64 0, .string ⟨#[]⟩, .string ⟨#[]⟩, .int .i64 0, .int .i64 0, .int .i64 0] 27))
      have HLn := Lib.hid (HL.out.add #[.int .i64 0, .int .i64 0, .string ⟨#[]⟩, .string ⟨#[]⟩, .int .i64 0, .int .i64 0, .int .i64 0] 27)
      clear HB HL
      have HB := HBn
      have HL := HLn
      clear HBn HLn
      generalize w2.heap.size = q2 at *
      generalize w2.alloc (.cells #[.int .i64 0, .int .i64 0, .string ⟨#[]⟩, .string ⟨#[]⟩, .int .i64 0, .int .i64 0, .int .i64 0] 27) = w3 at *
      have HP := Lib.hid (HL.out.at 1 rfl)
      have p0 := HP.out.cell 0; have p1 := HP.out.cell 1; have p2 := HP.out.cell 2
      simp only [List.getElem?_toArray, List.getElem?_cons_zero, List.getElem?_cons_succ] at p0 p1 p2
      clear HP
      go_wp2_with fail
      (with_reducible refine (H2.out _).mono ?_)
      rintro e w4 ⟨rfl, hb⟩
      have HBn := Lib.hid (HB.out.trans (hb.mono HB.out.size))
      have HLn := Lib.hid (HL.out.keep hb)
      clear HB HL hb
      have HB := HBn
      have HL := HLn
      clear HBn HLn
      clear p0 p1 p2
      go_upto_region 5 with (fail)
      have HBn := Lib.hid (HB.out.alloc HB.out.size (.cells #[.int .i64 0, .int .i64 0, .string ⟨#[]⟩, .string ⟨#[]⟩, .int .i64 0, .int .i64 0, .int .i64 0, .bool false] 33))
      have HLn := Lib.hid (HL.out.add #[.int .i64 0, .int .i64 0, .string ⟨#[]⟩, .string ⟨#[]⟩, .int .i64 0, .int .i64 0, .int .i64 0, .bool false] 33)
      clear HB HL
      have HB := HBn
      have HL := HLn
      clear HBn HLn
      generalize w4.heap.size = q3 at *
      generalize w4.alloc (.cells #[.int .i64 0, .int .i64 0, .string ⟨#[]⟩, .string ⟨#[]⟩, .int .i64 0, .int .i64 0, .int .i64 0, .bool false] 33) = w5 at *
      have HP := Lib.hid (HL.out.at 1 rfl)
      have r0 := HP.out.cell 0; have r1 := HP.out.cell 1; have r2 := HP.out.cell 2; have r3 := HP.out.cell 3; have r4 := HP.out.cell 4; have r5 := HP.out.cell 5; have r6 := HP.out.cell 6
      simp only [List.getElem?_toArray, List.getElem?_cons_zero, List.getElem?_cons_succ] at r0 r1 r2 r3 r4 r5 r6
      clear HP
      have s7 := (HL.out.at 0 rfl).cell 7
      simp only [List.getElem?_toArray, List.getElem?_cons_zero, List.getElem?_cons_succ] at s7
      go_wp2_with fail
      (with_reducible refine (nine_walk _ (HT.out.keep HB.out)).mono ?_)
      rintro e w6 ⟨rfl, hb⟩
      have HBn := Lib.hid (HB.out.trans (hb.mono HB.out.size))
      have HLn := Lib.hid (HL.out.keep hb)
      clear HB HL hb
      have HB := HBn
      have HL := HLn
      clear HBn HLn
      go_wp2
      go_ret
      exact ⟨rfl, HB.out⟩
    | some x =>
      have hak := Pr.ask_rd _ _ hrd
      rw [hrd] at H1 H2
      obtain ⟨b1, b2, b3, b4, b5, b6, b7⟩ := x
      have H3 := Lib.hid (fun w h => ask_walk b1 b2 b3 b4 b5 b6 b7 w h)
      rw [hak] at H3
      have H4 := Lib.hid (fun w => reff_walk b1 b2 b3 b4 b5 b6 b7 w)
      simp only [readV, askV, askF] at H1 H2 H3
      clear hrd hak
      go_enter Tryd.func3, Tryd.ntmps3
      go_upto_region 1 with (fail)
      have HB := Lib.hid (Below.refl w.heap.size w)
      have HL := Lib.hid (Hold.nil w)
      have HBn := Lib.hid (HB.out.alloc (Nat.le_refl _) (.cells #[.int .i64 t, .int .i64 j, .string d] 23))
      have HLn := Lib.hid (HL.out.add #[.int .i64 t, .int .i64 j, .string d] 23)
      clear HB HL
      have HB := HBn
      have HL := HLn
      clear HBn HLn
      obtain ⟨q0, hq0⟩ : ∃ q0, q0 = w.heap.size := ⟨_, rfl⟩
      rw [← hq0] at HL
      rw [← hq0]
      clear hq0
      generalize w.alloc (.cells #[.int .i64 t, .int .i64 j, .string d] 23) = w1 at *
      have HP := Lib.hid (HL.out.at 0 rfl)
      have p0 := HP.out.cell 0; have p1 := HP.out.cell 1; have p2 := HP.out.cell 2
      simp only [List.getElem?_toArray, List.getElem?_cons_zero, List.getElem?_cons_succ] at p0 p1 p2
      clear HP
      go_wp2_with fail
      (with_reducible refine (H1.out _ (HT.out.keep HB.out)).mono ?_)
      rintro e w2 ⟨rfl, hb⟩
      have HBn := Lib.hid (HB.out.trans (hb.mono HB.out.size))
      have HLn := Lib.hid (HL.out.keep hb)
      clear HB HL hb
      have HB := HBn
      have HL := HLn
      clear HBn HLn
      clear p0 p1 p2
      go_upto_region 4 with (fail)
      have HBn := Lib.hid (HB.out.alloc HB.out.size (.cells #[.int .i64 b1, .int .i64 b2, .string b3, .string b4, .int .i64 b5, .int .i64 b6, .int .i64 b7] 27))
      have HLn := Lib.hid (HL.out.add #[.int .i64 b1, .int .i64 b2, .string b3, .string b4, .int .i64 b5, .int .i64 b6, .int .i64 b7] 27)
      clear HB HL
      have HB := HBn
      have HL := HLn
      clear HBn HLn
      generalize w2.heap.size = q2 at *
      generalize w2.alloc (.cells #[.int .i64 b1, .int .i64 b2, .string b3, .string b4, .int .i64 b5, .int .i64 b6, .int .i64 b7] 27) = w3 at *
      have HP := Lib.hid (HL.out.at 1 rfl)
      have p0 := HP.out.cell 0; have p1 := HP.out.cell 1; have p2 := HP.out.cell 2
      simp only [List.getElem?_toArray, List.getElem?_cons_zero, List.getElem?_cons_succ] at p0 p1 p2
      clear HP
      go_wp2_with fail
      (with_reducible refine (H2.out _).mono ?_)
      rintro e w4 ⟨rfl, hb⟩
      have HBn := Lib.hid (HB.out.trans (hb.mono HB.out.size))
      have HLn := Lib.hid (HL.out.keep hb)
      clear HB HL hb
      have HB := HBn
      have HL := HLn
      clear HBn HLn
      clear p0 p1 p2
      go_upto_region 5 with (fail)
      have HBn := Lib.hid (HB.out.alloc HB.out.size (.cells #[.int .i64 b1, .int .i64 b2, .string b3, .string b4, .int .i64 b5, .int .i64 b6, .int .i64 b7, .bool true] 33))
      have HLn := Lib.hid (HL.out.add #[.int .i64 b1, .int .i64 b2, .string b3, .string b4, .int .i64 b5, .int .i64 b6, .int .i64 b7, .bool true] 33)
      clear HB HL
      have HB := HBn
      have HL := HLn
      clear HBn HLn
      generalize w4.heap.size = q3 at *
      generalize w4.alloc (.cells #[.int .i64 b1, .int .i64 b2, .string b3, .string b4, .int .i64 b5, .int .i64 b6, .int .i64 b7, .bool true] 33) = w5 at *
      have s7 := (HL.out.at 0 rfl).cell 7
      simp only [List.getElem?_toArray, List.getElem?_cons_zero, List.getElem?_cons_succ] at s7
      have HP := Lib.hid (HL.out.at 1 rfl)
      have r0 := HP.out.cell 0; have r1 := HP.out.cell 1; have r2 := HP.out.cell 2; have r3 := HP.out.cell 3; have r4 := HP.out.cell 4; have r5 := HP.out.cell 5; have r6 := HP.out.cell 6
      simp only [List.getElem?_toArray, List.getElem?_cons_zero, List.getElem?_cons_succ] at r0 r1 r2 r3 r4 r5 r6
      clear HP
      go_wp2_with fail
      (with_reducible refine (H3.out _ (HT.out.keep HB.out)).mono ?_)
      rintro e w6 ⟨rfl, hb⟩
      have HBn := Lib.hid (HB.out.trans (hb.mono HB.out.size))
      have HLn := Lib.hid (HL.out.keep hb)
      clear HB HL hb
      have HB := HBn
      have HL := HLn
      clear HBn HLn
      clear s7 r0 r1 r2 r3 r4 r5 r6
      go_upto_region 8 with (fail)
      have HBn := Lib.hid (HB.out.alloc HB.out.size (.cells #[.int .i64 t, .int .i64 j, .string d] 23))
      have HLn := Lib.hid (HL.out.add #[.int .i64 t, .int .i64 j, .string d] 23)
      clear HB HL
      have HB := HBn
      have HL := HLn
      clear HBn HLn
      generalize w6.heap.size = q4 at *
      generalize w6.alloc (.cells #[.int .i64 t, .int .i64 j, .string d] 23) = w7 at *
      have HP := Lib.hid (HL.out.at 0 rfl)
      have g0 := HP.out.cell 0; have g1 := HP.out.cell 1; have g2 := HP.out.cell 2
      simp only [List.getElem?_toArray, List.getElem?_cons_zero, List.getElem?_cons_succ] at g0 g1 g2
      clear HP
      have HP := Lib.hid (HL.out.at 3 rfl)
      have p0 := HP.out.cell 0; have p1 := HP.out.cell 1; have p2 := HP.out.cell 2
      simp only [List.getElem?_toArray, List.getElem?_cons_zero, List.getElem?_cons_succ] at p0 p1 p2
      clear HP
      have HP := Lib.hid (HL.out.at 1 rfl)
      have s0 := HP.out.cell 0; have s1 := HP.out.cell 1; have s2 := HP.out.cell 2; have s3 := HP.out.cell 3; have s4 := HP.out.cell 4; have s5 := HP.out.cell 5; have s6 := HP.out.cell 6
      simp only [List.getElem?_toArray, List.getElem?_cons_zero, List.getElem?_cons_succ] at s0 s1 s2 s3 s4 s5 s6
      clear HP
      have HP := Lib.hid (HL.out.at 2 rfl)
      have r0 := HP.out.cell 0; have r1 := HP.out.cell 1; have r2 := HP.out.cell 2; have r3 := HP.out.cell 3; have r4 := HP.out.cell 4; have r5 := HP.out.cell 5; have r6 := HP.out.cell 6
      simp only [List.getElem?_toArray, List.getElem?_cons_zero, List.getElem?_cons_succ] at r0 r1 r2 r3 r4 r5 r6
      clear HP
      have G0 : ∀ x : Later w7, x.at.cell? ⟨q4, 0, none⟩ = some (.int .i64 t) := fun x => x.cell g0
      have G1 : ∀ x : Later w7, x.at.cell? ⟨q4, 1, none⟩ = some (.int .i64 j) := fun x => x.cell g1
      have G2 : ∀ x : Later w7, x.at.cell? ⟨q4, 2, none⟩ = some (.string d) := fun x => x.cell g2
      have P0 : ∀ x : Later w7, x.at.cell? ⟨q0, 0, none⟩ = some (.int .i64 t) := fun x => x.cell p0
      have P1 : ∀ x : Later w7, x.at.cell? ⟨q0, 1, none⟩ = some (.int .i64 j) := fun x => x.cell p1
      have P2 : ∀ x : Later w7, x.at.cell? ⟨q0, 2, none⟩ = some (.string d) := fun x => x.cell p2
      have S0 : ∀ x : Later w7, x.at.cell? ⟨q3, 0, none⟩ = _ := fun x => x.cell s0
      have S1 : ∀ x : Later w7, x.at.cell? ⟨q3, 1, none⟩ = _ := fun x => x.cell s1
      have S2 : ∀ x : Later w7, x.at.cell? ⟨q3, 2, none⟩ = _ := fun x => x.cell s2
      have S3 : ∀ x : Later w7, x.at.cell? ⟨q3, 3, none⟩ = _ := fun x => x.cell s3
      have S4 : ∀ x : Later w7, x.at.cell? ⟨q3, 4, none⟩ = _ := fun x => x.cell s4
      have S5 : ∀ x : Later w7, x.at.cell? ⟨q3, 5, none⟩ = _ := fun x => x.cell s5
      have S6 : ∀ x : Later w7, x.at.cell? ⟨q3, 6, none⟩ = _ := fun x => x.cell s6
      have R0 : ∀ x : Later w7, x.at.cell? ⟨q2, 0, none⟩ = _ := fun x => x.cell r0
      have R1 : ∀ x : Later w7, x.at.cell? ⟨q2, 1, none⟩ = _ := fun x => x.cell r1
      have R2 : ∀ x : Later w7, x.at.cell? ⟨q2, 2, none⟩ = _ := fun x => x.cell r2
      have R3 : ∀ x : Later w7, x.at.cell? ⟨q2, 3, none⟩ = _ := fun x => x.cell r3
      have R4 : ∀ x : Later w7, x.at.cell? ⟨q2, 4, none⟩ = _ := fun x => x.cell r4
      have R5 : ∀ x : Later w7, x.at.cell? ⟨q2, 5, none⟩ = _ := fun x => x.cell r5
      have R6 : ∀ x : Later w7, x.at.cell? ⟨q2, 6, none⟩ = _ := fun x => x.cell r6
      have V1 := Lib.hid (fun x : Later w7 => later_call (x := x) (H4.out x.at))
      have V2 := Lib.hid (fun x : Later w7 => later_call (x := x) (nine_walk x.at (HT.out.keep (HB.out.trans (x.below.mono HB.out.size)))))
      clear g0 g1 g2 p0 p1 p2 s0 s1 s2 s3 s4 s5 s6 r0 r1 r2 r3 r4 r5 r6
      refine region_later 21 (by kernel_rfl) (by kernel_rfl) ?_
      simp only [List.take_succ_cons, List.take_zero, List.drop_succ_cons, List.drop_zero]
      repeat (go_big_quiet_step (first | (with_reducible exact V1.out _) | (with_reducible exact V2.out _)))
      refine wpQuiet_nil ?_
      rintro w' ⟨x, rfl⟩
      have HB8 := Lib.hid (HB.out.trans (x.below.mono HB.out.size))
      clear V1 V2 G0 G1 G2 P0 P1 P2 S0 S1 S2 S3 S4 S5 S6 R0 R1 R2 R3 R4 R5 R6
      generalize x.at = w8 at *
      go_wp2
      go_ret
      exact ⟨rfl, HB8.out⟩
end Go.Proofs.YtckdbkbecelgcaaDoor
