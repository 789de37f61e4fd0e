/- The law of parses. -/
import Derived.Test.YtcogndjfalomjaaDoorStEq
import Derived.Test.YtcogndjfalomjaaDoorLater
namespace Go.Proofs.YtcogndjfalomjaaDoor
open Go.RowKit
set_option linter.unusedVariables false
set_option linter.unusedSimpArgs false

theorem has_six {w : World} {q : Nat} {cs : Array Value} {T : TypeId} (h : Has w q cs T) (i : Nat) (v : Value) (hv : cs[i]? = some v) : w.cell? ⟨q, i, none⟩ = some v := (h.cell i).trans hv
set_option maxRecDepth 100000 in
set_option maxHeartbeats 2000000 in
theorem statusParses_walk (s : ByteArray) (w : World) (hs0 : s.size ≤ maxLen) (hM : MaxL w) :
    Calls Tryd.prog 4 #[.string s] w fun r w' => r = .returned (.bool true) ∧ Below w.heap.size w w' := by
  have HM := Lib.hid hM
  have H3 := Lib.hid (fun w h => three_walk w h)
  clear hM hs0
  by_cases h300 : 300 < s.size
  · have h300' : (300 : Int) < (s.size : Int) := by omega
    clear h300
    go_enter Tryd.func4, Tryd.ntmps4
    go_wp2_with fail
    with_reducible refine (H3.out _ HM.out).mono ?_
    rintro r2 w2 ⟨rfl, hb⟩
    go_wp2
    go_ret
    exact ⟨rfl, hb⟩
  have h300' : ¬ (300 : Int) < (s.size : Int) := by omega
  have HPS := Lib.hid (fun w hM => parse_walk41 s w hM (by omega))
  have HRP := Lib.hid (fun w => refparse_walk s w (by omega))
  clear h300
  cases hp : St.parse s.data.toList with
  | none =>
    rw [hp] at HPS HRP
    simp only [St.parsedV, St.refV] at HPS HRP
    clear hp
    have hEN := eqnum 0 0 0 0 0
    go_enter Tryd.func4, Tryd.ntmps4
    go_wp2_with fail
    with_reducible refine (HPS.out _ HM.out).mono ?_
    rintro r2 w2 ⟨rfl, hb⟩
    have hm2 := (HM.out.keep hb).keep ((Below.refl w2.heap.size w2).alloc (Nat.le_refl _) (.cells #[.int .i64 0, .int .i64 0, .int .i64 0, .int .i64 0, .int .i64 0] 23))
    have hb3 := hb.alloc hb.size (.cells #[.int .i64 0, .int .i64 0, .int .i64 0, .int .i64 0, .int .i64 0] 23)
    have hq2 := Has.new w2 #[.int .i64 0, .int .i64 0, .int .i64 0, .int .i64 0, .int .i64 0] 23
    clear HM hb
    have HM := Lib.hid hm2; have HB := Lib.hid hb3; have HQ := Lib.hid hq2
    clear hm2 hb3 hq2
    go_upto_region 4 with (fail)
    generalize w2.heap.size = q2 at *
    generalize w2.alloc (.cells #[.int .i64 0, .int .i64 0, .int .i64 0, .int .i64 0, .int .i64 0] 23) = w3 at *
    go_wp2_with fail
    (with_reducible refine (HRP.out _).mono ?_)
    rintro r4 w4 ⟨rfl, hb⟩
    have hm2 := (HM.out.keep hb).keep ((Below.refl w4.heap.size w4).alloc (Nat.le_refl _) (.cells #[.int .i64 0, .int .i64 0, .int .i64 0, .int .i64 0, .int .i64 0, .bool false] 36))
    have hb2 := HB.out.trans (hb.mono HB.out.size)
    have hb3 := hb2.alloc hb2.size (.cells #[.int .i64 0, .int .i64 0, .int .i64 0, .int .i64 0, .int .i64 0, .bool false] 36)
    have hq4 := Has.new w4 #[.int .i64 0, .int .i64 0, .int .i64 0, .int .i64 0, .int .i64 0, .bool false] 36
    have hq2 := (HQ.out.below hb HQ.out.lt).alloc (.cells #[.int .i64 0, .int .i64 0, .int .i64 0, .int .i64 0, .int .i64 0, .bool false] 36)
    clear HM HB hb hb2 HQ
    have HM := Lib.hid hm2; have HB := Lib.hid hb3
    clear hm2 hb3
    go_upto_region 5 with (fail)
    generalize w4.heap.size = q4 at *
    generalize w4.alloc (.cells #[.int .i64 0, .int .i64 0, .int .i64 0, .int .i64 0, .int .i64 0, .bool false] 36) = w5 at *
    have p0 := hq2.cell 0; have p1 := hq2.cell 1; have p2 := hq2.cell 2; have p3 := hq2.cell 3; have p4 := hq2.cell 4
    have o5 := hq4.cell 5
    simp only [List.getElem?_toArray, List.getElem?_cons_zero, List.getElem?_cons_succ] at p0 p1 p2 p3 p4 o5
    clear hq2 hq4
    go_wp2_with fail
    with_reducible refine (H3.out _ HM.out).mono ?_
    rintro r6 w6 ⟨rfl, hb⟩
    have HBX := Lib.hid (HB.out.trans (hb.mono HB.out.size))
    clear hb
    go_wp2
    go_ret
    exact ⟨rfl, HBX.out⟩
  | some n =>
    obtain ⟨hm, ht⟩ := St.parse_sound _ _ hp
    obtain ⟨a, b, c, d, e⟩ := n
    rw [hp] at HPS HRP
    simp only [St.parsedV, St.refV] at HPS HRP
    have HTX := Lib.hid (fun w => Text_walk41 ⟨a, b, c, d, e⟩ w)
    rw [hm, ht] at HTX
    simp only [if_true, Fr.bs_list] at HTX
    have HRF := Lib.hid (fun w => ref41_walk a b c d e w)
    have hEA := eqarr5 a b c d e
    clear hp hm ht
    go_enter Tryd.func4, Tryd.ntmps4
    go_wp2_with fail
    with_reducible refine (HPS.out _ HM.out).mono ?_
    rintro r2 w2 ⟨rfl, hb⟩
    have hm2 := (HM.out.keep hb).keep ((Below.refl w2.heap.size w2).alloc (Nat.le_refl _) (.cells #[.int .i64 a, .int .i64 b, .int .i64 c, .int .i64 d, .int .i64 e] 23))
    have hb3 := hb.alloc hb.size (.cells #[.int .i64 a, .int .i64 b, .int .i64 c, .int .i64 d, .int .i64 e] 23)
    have hq2 := Has.new w2 #[.int .i64 a, .int .i64 b, .int .i64 c, .int .i64 d, .int .i64 e] 23
    clear HM hb
    have HM := Lib.hid hm2; have HB := Lib.hid hb3; have HQ := Lib.hid hq2
    clear hm2 hb3 hq2
    go_upto_region 4 with (fail)
    generalize w2.heap.size = q2 at *
    generalize w2.alloc (.cells #[.int .i64 a, .int .i64 b, .int .i64 c, .int .i64 d, .int .i64 e] 23) = w3 at *
    go_wp2_with fail
    (with_reducible refine (HRP.out _).mono ?_)
    rintro r4 w4 ⟨rfl, hb⟩
    have hm2 := (HM.out.keep hb).keep ((Below.refl w4.heap.size w4).alloc (Nat.le_refl _) (.cells #[.int .i64 a, .int .i64 b, .int .i64 c, .int .i64 d, .int .i64 e, .bool true] 36))
    have hb2 := HB.out.trans (hb.mono HB.out.size)
    have hb3 := hb2.alloc hb2.size (.cells #[.int .i64 a, .int .i64 b, .int .i64 c, .int .i64 d, .int .i64 e, .bool true] 36)
    have hq4 := Has.new w4 #[.int .i64 a, .int .i64 b, .int .i64 c, .int .i64 d, .int .i64 e, .bool true] 36
    have hq2 := (HQ.out.below hb HQ.out.lt).alloc (.cells #[.int .i64 a, .int .i64 b, .int .i64 c, .int .i64 d, .int .i64 e, .bool true] 36)
    clear HM HB hb hb2 HQ
    have HM := Lib.hid hm2; have HB := Lib.hid hb3; have HQ := Lib.hid hq2; have HO := Lib.hid hq4
    clear hm2 hb3 hq2 hq4
    go_upto_region 5 with (fail)
    generalize w4.heap.size = q4 at *
    generalize w4.alloc (.cells #[.int .i64 a, .int .i64 b, .int .i64 c, .int .i64 d, .int .i64 e, .bool true] 36) = w5 at *
    have p0 := HQ.out.cell 0; have p1 := HQ.out.cell 1; have p2 := HQ.out.cell 2; have p3 := HQ.out.cell 3; have p4 := HQ.out.cell 4
    have o5 := HO.out.cell 5
    simp only [List.getElem?_toArray, List.getElem?_cons_zero, List.getElem?_cons_succ] at p0 p1 p2 p3 p4 o5
    go_wp2_with fail
    (with_reducible refine (HTX.out _).mono ?_)
    rintro r6 w6 ⟨rfl, hb⟩
    have hq2 := HQ.out.below hb HQ.out.lt
    have hq4 := HO.out.below hb HO.out.lt
    have hm2 := HM.out.keep hb
    have hb3 := HB.out.trans (hb.mono HB.out.size)
    clear HM HB hb HQ HO p0 p1 p2 p3 p4 o5
    have HM := Lib.hid hm2; have HB := Lib.hid hb3; have HQ := Lib.hid hq2; have HO := Lib.hid hq4
    clear hm2 hb3 hq2 hq4
    go_upto_region 8 with (fail)
    have p0 : ∀ x : Later w6, x.at.cell? ⟨q2, 0, none⟩ = some (.int .i64 a) := fun x => x.cell (HQ.out.cell 0)
    have p1 : ∀ x : Later w6, x.at.cell? ⟨q2, 1, none⟩ = some (.int .i64 b) := fun x => x.cell (HQ.out.cell 1)
    have p2 : ∀ x : Later w6, x.at.cell? ⟨q2, 2, none⟩ = some (.int .i64 c) := fun x => x.cell (HQ.out.cell 2)
    have p3 : ∀ x : Later w6, x.at.cell? ⟨q2, 3, none⟩ = some (.int .i64 d) := fun x => x.cell (HQ.out.cell 3)
    have p4 : ∀ x : Later w6, x.at.cell? ⟨q2, 4, none⟩ = some (.int .i64 e) := fun x => x.cell (HQ.out.cell 4)
    have o0 : ∀ x : Later w6, x.at.cell? ⟨q4, 0, none⟩ = some (.int .i64 a) := fun x => x.cell (HO.out.cell 0)
    have o1 : ∀ x : Later w6, x.at.cell? ⟨q4, 1, none⟩ = some (.int .i64 b) := fun x => x.cell (HO.out.cell 1)
    have o2 : ∀ x : Later w6, x.at.cell? ⟨q4, 2, none⟩ = some (.int .i64 c) := fun x => x.cell (HO.out.cell 2)
    have o3 : ∀ x : Later w6, x.at.cell? ⟨q4, 3, none⟩ = some (.int .i64 d) := fun x => x.cell (HO.out.cell 3)
    have o4 : ∀ x : Later w6, x.at.cell? ⟨q4, 4, none⟩ = some (.int .i64 e) := fun x => x.cell (HO.out.cell 4)
    have HR1 := Lib.hid (fun x : Later w6 => later_call (x := x) (HRF.out x.at))
    have HR3 := Lib.hid (fun x : Later w6 => later_call (x := x) (H3.out x.at (HM.out.keep x.below)))
    refine region_later 22 (by kernel_rfl) (by kernel_rfl) ?_
    simp only [List.take_succ_cons, List.take_zero, List.drop_succ_cons, List.drop_zero]
    repeat (go_big_quiet_step ((first | (with_reducible exact HR1.out _) | (with_reducible exact HR3.out _))))
    refine wpQuiet_nil ?_
    rintro w' ⟨x, rfl⟩
    have HBX := Lib.hid (HB.out.trans (x.below.mono HB.out.size))
    clear p0 p1 p2 p3 p4 o0 o1 o2 o3 o4 HR1 HR3
    generalize x.at = w7 at *
    go_wp2
    go_ret
    exact ⟨rfl, HBX.out⟩
end Go.Proofs.YtcogndjfalomjaaDoor
