/- The small case that all five laws ask. -/
import Derived.Test.YtcogndjfalomjaaDoorStWalk9
import Derived.Test.YtcogndjfalomjaaDoorStCnt2
import Derived.Laws.StructEq
namespace Go.Proofs.YtcogndjfalomjaaDoor
open Go.RowKit
set_option linter.unusedVariables false
set_option linter.unusedSimpArgs false

theorem three_text : St.textL ⟨3, 1, 100, 500, 20⟩ = [51, 32, 49, 32, 49, 48, 48, 32, 53, 48, 48, 32, 50, 48] := by
  simp [St.textL, St.dg, St.digs]
theorem three_yes : St.parse [51, 32, 49, 32, 49, 48, 48, 32, 53, 48, 48, 32, 50, 48] = some ⟨3, 1, 100, 500, 20⟩ := by
  rw [← three_text]
  exact St.parse_text _ (by decide)
theorem three_no : St.parse [51, 32, 49, 32, 54, 48, 48, 32, 53, 48, 48, 32, 50, 48] = none := by
  rw [St.parse_five _ [51] [49] [54, 48, 48] [53, 48, 48] [50, 48] (by decide), if_neg]
  rintro ⟨h, -⟩
  revert h
  decide
theorem three_count : St.count [⟨66, 0, ⟨#[97, 98, 99]⟩, 0⟩, ⟨69, 0, ⟨#[]⟩, 34⟩] = ⟨0, 1, 0, 0, 1, 0, 3, 1⟩ := by kernel_rfl
theorem rows_two (w : World) (T : TypeId) : RowS (w.alloc (.cells #[.int .i64 66, .int .i64 0, .string ⟨#[97, 98, 99]⟩, .int .i64 0, .int .i64 69, .int .i64 0, .string ⟨#[]⟩, .int .i64 34] T)) 4 (some ⟨w.heap.size, 0, none⟩) 2 2 (([⟨66, 0, ⟨#[97, 98, 99]⟩, 0⟩, ⟨69, 0, ⟨#[]⟩, 34⟩] : List St.Ans).flatMap ancells) := by
  refine ⟨Nat.le_refl _, by decide, rfl, (fun h => nomatch h), fun x hx _ => ?_⟩
  cases hx
  refine ⟨_, _, rfl, by simp, fun i hi => ?_⟩
  rw [Nat.zero_add, (Has.new w _ T).cell i]
  have : i = 0 ∨ i = 1 ∨ i = 2 ∨ i = 3 ∨ i = 4 ∨ i = 5 ∨ i = 6 ∨ i = 7 := by omega
  rcases this with rfl | rfl | rfl | rfl | rfl | rfl | rfl | rfl <;> rfl
set_option maxRecDepth 100000 in
set_option maxHeartbeats 2000000 in
theorem three_walk (w : World) (hM : MaxL w) : Calls Tryd.prog 12 #[] w fun r w' => r = .returned (.bool true) ∧ Below w.heap.size w w' := by
  have HM := Lib.hid hM
  clear hM
  have HY := Lib.hid (fun w hM => parse_walk41 ⟨#[51, 32, 49, 32, 49, 48, 48, 32, 53, 48, 48, 32, 50, 48]⟩ w hM (by decide))
  have HN := Lib.hid (fun w hM => parse_walk41 ⟨#[51, 32, 49, 32, 54, 48, 48, 32, 53, 48, 48, 32, 50, 48]⟩ w hM (by decide))
  rw [show St.parse (⟨#[51, 32, 49, 32, 49, 48, 48, 32, 53, 48, 48, 32, 50, 48]⟩ : ByteArray).data.toList = some ⟨3, 1, 100, 500, 20⟩ from three_yes] at HY
  rw [show St.parse (⟨#[51, 32, 49, 32, 54, 48, 48, 32, 53, 48, 48, 32, 50, 48]⟩ : ByteArray).data.toList = none from three_no] at HN
  simp only [St.parsedV] at HY HN
  have HT := Lib.hid (fun w => Text_walk41 ⟨3, 1, 100, 500, 20⟩ w)
  rw [show St.may ⟨3, 1, 100, 500, 20⟩ = true by decide, three_text] at HT
  simp only [if_true] at HT
  rw [show Fr.bs [51, 32, 49, 32, 49, 48, 48, 32, 53, 48, 48, 32, 50, 48] = ⟨#[51, 32, 49, 32, 49, 48, 48, 32, 53, 48, 48, 32, 50, 48]⟩ from rfl] at HT
  have HC := Lib.hid (fun (w : World) b h => count_walk [⟨66, 0, ⟨#[97, 98, 99]⟩, 0⟩, ⟨69, 0, ⟨#[]⟩, 34⟩] (some ⟨b, 0, none⟩) 2 2 w rfl h (by decide))
  rw [three_count] at HC
  simp only [tlcells] at HC
  go_enter Tryd.func12, Tryd.ntmps12
  go_wp2_with fail
  (with_reducible refine (HY.out _ HM.out).mono ?_)
  rintro r1 w1 ⟨rfl, hb1⟩
  have HM1 := Lib.hid (HM.out.keep hb1)
  have hA := Has.new w1 #[.int .i64 3, .int .i64 1, .int .i64 100, .int .i64 500, .int .i64 20] 23
  have HB := Lib.hid (hb1.alloc hb1.size (.cells #[.int .i64 3, .int .i64 1, .int .i64 100, .int .i64 500, .int .i64 20] 23))
  have HM2 := Lib.hid (HM1.out.keep ((Below.refl w1.heap.size w1).alloc (Nat.le_refl _) (.cells #[.int .i64 3, .int .i64 1, .int .i64 100, .int .i64 500, .int .i64 20] 23)))
  clear hb1 HM1
  go_upto_region 2 with (fail)
  generalize w1.heap.size = q at *
  generalize w1.alloc (.cells #[.int .i64 3, .int .i64 1, .int .i64 100, .int .i64 500, .int .i64 20] 23) = w2 at *
  have HA := Lib.hid hA
  clear hA
  have z0 := HA.out.cell 0; have z1 := HA.out.cell 1; have z2 := HA.out.cell 2; have z3 := HA.out.cell 3; have z4 := HA.out.cell 4
  simp only [List.getElem?_toArray, List.getElem?_cons_zero, List.getElem?_cons_succ] at z0 z1 z2 z3 z4
  go_wp2_with fail
  (with_reducible refine (HT.out _).mono ?_)
  rintro r3 w3 ⟨rfl, hb3⟩
  have HM3 := Lib.hid (HM2.out.keep hb3)
  have HA3 := Lib.hid (HA.out.below hb3 HA.out.lt)
  have HB3 := Lib.hid (HB.out.trans (hb3.mono HB.out.size))
  clear z0 z1 z2 z3 z4 hb3 HM2 HA HB
  go_wp2_with fail
  (with_reducible refine (HN.out _ HM3.out).mono ?_)
  rintro r4 w4 ⟨rfl, hb4⟩
  have HA4 := Lib.hid ((HA3.out.below hb4 HA3.out.lt).alloc (.cells #[.int .i64 0, .int .i64 0, .int .i64 0, .int .i64 0, .int .i64 0] 23))
  have hb4' := HB3.out.trans (hb4.mono HB3.out.size)
  have HB4 := Lib.hid (hb4'.alloc hb4'.size (.cells #[.int .i64 0, .int .i64 0, .int .i64 0, .int .i64 0, .int .i64 0] 23))
  clear hb4 hb4' HM3 HA3 HB3
  go_upto_region 4 with (fail)
  generalize w4.heap.size = q4 at *
  generalize w4.alloc (.cells #[.int .i64 0, .int .i64 0, .int .i64 0, .int .i64 0, .int .i64 0] 23) = w5 at *
  have HR5 := Lib.hid (rows_two w5 46)
  have HA5 := Lib.hid (HA4.out.alloc (.cells #[.int .i64 66, .int .i64 0, .string ⟨#[97, 98, 99]⟩, .int .i64 0, .int .i64 69, .int .i64 0, .string ⟨#[]⟩, .int .i64 34] 46))
  have HB5 := Lib.hid (HB4.out.alloc HB4.out.size (.cells #[.int .i64 66, .int .i64 0, .string ⟨#[97, 98, 99]⟩, .int .i64 0, .int .i64 69, .int .i64 0, .string ⟨#[]⟩, .int .i64 34] 46))
  go_wp2_with fail
  with_reducible refine (HC.out _ _ HR5.out).mono ?_
  rintro r6 w6 ⟨rfl, hb6⟩
  have HA6 := Lib.hid ((HA5.out.below hb6 HA5.out.lt).alloc (.cells #[.int .i64 0, .int .i64 1, .int .i64 0, .int .i64 0, .int .i64 1, .int .i64 0, .int .i64 3, .int .i64 1] 41))
  have hb6' := HB5.out.trans (hb6.mono HB5.out.size)
  have HB6 := Lib.hid (hb6'.alloc hb6'.size (.cells #[.int .i64 0, .int .i64 1, .int .i64 0, .int .i64 0, .int .i64 1, .int .i64 0, .int .i64 3, .int .i64 1] 41))
  have hC := Has.new w6 #[.int .i64 0, .int .i64 1, .int .i64 0, .int .i64 0, .int .i64 1, .int .i64 0, .int .i64 3, .int .i64 1] 41
  clear hb6 hb6' HA4 HB4 HA5 HB5 HR5
  go_upto_region 5 with (fail)
  generalize w6.heap.size = q6 at *
  generalize w6.alloc (.cells #[.int .i64 0, .int .i64 1, .int .i64 0, .int .i64 0, .int .i64 1, .int .i64 0, .int .i64 3, .int .i64 1] 41) = w7 at *
  have z0 := HA6.out.cell 0; have z1 := HA6.out.cell 1; have z2 := HA6.out.cell 2; have z3 := HA6.out.cell 3; have z4 := HA6.out.cell 4
  have c0 := hC.cell 0; have c1 := hC.cell 1; have c2 := hC.cell 2; have c3 := hC.cell 3; have c4 := hC.cell 4; have c5 := hC.cell 5; have c6 := hC.cell 6; have c7 := hC.cell 7
  simp only [List.getElem?_toArray, List.getElem?_cons_zero, List.getElem?_cons_succ] at z0 z1 z2 z3 z4 c0 c1 c2 c3 c4 c5 c6 c7
  have heq1 : ∀ w, (binOp .eql 23 (.agg #[.int .i64 3, .int .i64 1, .int .i64 100, .int .i64 500, .int .i64 20]) (.agg #[.int .i64 3, .int .i64 1, .int .i64 100, .int .i64 500, .int .i64 20])).run Tryd.prog w = .ok (.bool true) w := fun w => by kernel_rfl
  have heq2 : ∀ w, (binOp .eql 41 (.agg #[.int .i64 0, .int .i64 1, .int .i64 0, .int .i64 0, .int .i64 1, .int .i64 0, .int .i64 3, .int .i64 1]) (.agg #[.int .i64 0, .int .i64 1, .int .i64 0, .int .i64 0, .int .i64 1, .int .i64 0, .int .i64 3, .int .i64 1])).run Tryd.prog w = .ok (.bool true) w := fun w => by kernel_rfl
  go_wp2
  go_ret
  exact ⟨rfl, HB6.out⟩
end Go.Proofs.YtcogndjfalomjaaDoor
