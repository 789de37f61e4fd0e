/- A nil connection has nobody. -/
import Derived.Test.YtajalllecoclcaaDoorCnKey
namespace Go.Proofs.YtajalllecoclcaaDoor
open Go.RowKit
set_option linter.unusedVariables false
set_option linter.unusedSimpArgs false

set_option maxRecDepth 100000 in
set_option maxHeartbeats 1000000 in
theorem connNil_walk (t j : Int) (d : ByteArray) (w : World) (_ : (Lit.int .i64 t).wf = true) (_ : (Lit.int .i64 j).wf = true) (_ : d.size ≤ maxLen) (hT : Tabs w) :
    Calls Tryd.prog 7 #[.agg #[.int .i64 t, .int .i64 j, .string d]] w fun r w' => r = .returned (.bool true) ∧ Below w.heap.size w w' := by
  have HT := Lib.hid hT
  clear hT
  go_enter Tryd.func7, Tryd.ntmps7
  go_upto_region 1 with (fail)
  have HB := Lib.hid ((Below.refl _ w).alloc (Nat.le_refl _) (.cells #[.int .i64 t, .int .i64 j, .string d] 42))
  have HX := Lib.hid (Has.new w #[.int .i64 t, .int .i64 j, .string d] 42)
  generalize w.alloc (.cells #[.int .i64 t, .int .i64 j, .string d] 42) = w1 at *
  have x0 := HX.out.cell 0; have x1 := HX.out.cell 1; have x2 := HX.out.cell 2
  simp only [List.getElem?_toArray, List.getElem?_cons_zero, List.getElem?_cons_succ] at x0 x1 x2
  go_wp2_with fail
  (with_reducible refine (step_nil _ _ _ _).mono ?_)
  rintro r2 w2 ⟨rfl, hb⟩
  clear x0 x1 x2
  go_upto_region 3 with (fail)
  have HB2 := Lib.hid ((HB.out.trans (hb.mono HB.out.size)).alloc (Nat.le_trans HB.out.size hb.size) (.cells #[.int .i64 0, .int .i64 0, .int .i64 0, .int .i64 0, .int .i64 0, .int .i64 0, .string ⟨#[]⟩, .int .i64 0] 38))
  have HX2 := Lib.hid ((HX.out.below hb HX.out.lt).alloc (.cells #[.int .i64 0, .int .i64 0, .int .i64 0, .int .i64 0, .int .i64 0, .int .i64 0, .string ⟨#[]⟩, .int .i64 0] 38))
  have HA := Has.new w2 #[.int .i64 0, .int .i64 0, .int .i64 0, .int .i64 0, .int .i64 0, .int .i64 0, .string ⟨#[]⟩, .int .i64 0] 38
  clear HB HX hb
  have HB := HB2
  have HX := HX2
  clear HB2 HX2
  generalize w2.alloc (.cells #[.int .i64 0, .int .i64 0, .int .i64 0, .int .i64 0, .int .i64 0, .int .i64 0, .string ⟨#[]⟩, .int .i64 0] 38) = w3 at *
  have a0 := HA.cell 0; have a1 := HA.cell 1; have a2 := HA.cell 2; have a3 := HA.cell 3; have a4 := HA.cell 4; have a5 := HA.cell 5; have a6 := HA.cell 6; have a7 := HA.cell 7
  simp only [List.getElem?_toArray, List.getElem?_cons_zero, List.getElem?_cons_succ] at a0 a1 a2 a3 a4 a5 a6 a7
  clear HA
  go_wp2_with fail
  clear a0 a1 a2 a3 a4 a5 a6 a7
  with_reducible refine (tenant_nil _).mono ?_
  rintro r4 w4 ⟨rfl, hb⟩
  have HB2 := Lib.hid (HB.out.trans (hb.mono HB.out.size))
  have HX2 := Lib.hid (HX.out.below hb HX.out.lt)
  clear HB HX hb
  have HB := HB2
  have HX := HX2
  clear HB2 HX2
  have x1 := HX.out.cell 1
  simp only [List.getElem?_toArray, List.getElem?_cons_zero, List.getElem?_cons_succ] at x1
  go_wp2_with fail
  clear x1
  with_reducible refine (opened_nil _).mono ?_
  rintro r5 w5 ⟨rfl, hb⟩
  have HB2 := Lib.hid (HB.out.trans (hb.mono HB.out.size))
  have HX2 := Lib.hid (HX.out.below hb HX.out.lt)
  clear HB HX hb
  have HB := HB2
  have HX := HX2
  clear HB2 HX2
  have x1 := HX.out.cell 1
  simp only [List.getElem?_toArray, List.getElem?_cons_zero, List.getElem?_cons_succ] at x1
  go_wp2_with fail
  clear x1
  with_reducible refine (ended_nil _ _).mono ?_
  rintro r6 w6 ⟨rfl, hb⟩
  have HB2 := Lib.hid (HB.out.trans (hb.mono HB.out.size))
  have HX2 := Lib.hid (HX.out.below hb HX.out.lt)
  clear HB HX hb
  have HB := HB2
  have HX := HX2
  clear HB2 HX2
  have x1 := HX.out.cell 1
  simp only [List.getElem?_toArray, List.getElem?_cons_zero, List.getElem?_cons_succ] at x1
  go_wp2_with fail
  clear x1
  with_reducible refine (cancelled_nil _ _).mono ?_
  rintro r7 w7 ⟨rfl, hb⟩
  have HB2 := Lib.hid (HB.out.trans (hb.mono HB.out.size))
  have HX2 := Lib.hid (HX.out.below hb HX.out.lt)
  clear HB HX hb
  have HB := HB2
  have HX := HX2
  clear HB2 HX2
  have x1 := HX.out.cell 1
  simp only [List.getElem?_toArray, List.getElem?_cons_zero, List.getElem?_cons_succ] at x1
  go_wp2_with fail
  clear x1
  with_reducible refine (key_walk _ (HT.out.keep HB.out)).mono ?_
  rintro r9 w9 ⟨rfl, hb⟩
  have HB2 := Lib.hid (HB.out.trans (hb.mono HB.out.size))
  clear HB HX hb
  go_wp2
  go_ret
  exact ⟨rfl, HB2.out⟩
end Go.Proofs.YtajalllecoclcaaDoor
