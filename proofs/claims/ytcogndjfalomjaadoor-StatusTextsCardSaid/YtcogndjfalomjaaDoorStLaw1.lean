/- The law of texts. -/
import Derived.Test.YtcogndjfalomjaaDoorStEq
namespace Go.Proofs.YtcogndjfalomjaaDoor
open Go.RowKit
set_option linter.unusedVariables false
set_option linter.unusedSimpArgs false

set_option maxRecDepth 100000 in
set_option maxHeartbeats 2000000 in
theorem statusTexts_walk (a b c d e : Int) (w : World) (_ : (Lit.int .i64 a).wf = true) (_ : (Lit.int .i64 b).wf = true) (_ : (Lit.int .i64 c).wf = true) (_ : (Lit.int .i64 d).wf = true) (_ : (Lit.int .i64 e).wf = true) (hM : MaxL w) :
    Calls Tryd.prog 3 #[.agg #[.int .i64 a, .int .i64 b, .int .i64 c, .int .i64 d, .int .i64 e]] w fun r w' => r = .returned (.bool true) ∧ Below w.heap.size w w' := by
  have HM := Lib.hid hM
  have HTX := Lib.hid (fun w => Text_walk41 ⟨a, b, c, d, e⟩ w)
  have HRF := Lib.hid (fun w => ref41_walk a b c d e w)
  have HRM := Lib.hid (fun w => refmay41 ⟨a, b, c, d, e⟩ w)
  have HMY := Lib.hid (fun w => may41 ⟨a, b, c, d, e⟩ w)
  have HRT := Lib.hid (fun h w => reftext_walk ⟨a, b, c, d, e⟩ h w)
  have H3 := Lib.hid (fun w h => three_walk w h)
  have hmy : St.may ⟨a, b, c, d, e⟩ = true → St.parse (St.textL ⟨a, b, c, d, e⟩) = some ⟨a, b, c, d, e⟩ ∧ (Fr.bs (St.textL ⟨a, b, c, d, e⟩)).size ≤ 69 := fun h => ⟨St.parse_text _ h, by
    obtain ⟨h1, h2, h3, h4, h5⟩ := St.may_ok h
    have f : ∀ x : Int, St.okI x = true → (St.dg x).length ≤ 13 := fun x hx => by
      have : 0 ≤ x ∧ x ≤ 1099511627776 := of_decide_eq_true hx
      exact St.digs_13 _ (by omega)
    have := f a h1; have := f b h2; have := f c h3; have := f d h4; have := f e h5
    rw [← Fr.size_list, Fr.list_bs, St.textL]
    simp only [List.length_append, List.length_cons, List.length_nil]
    omega⟩
  have hEN := eqnum a b c d e
  clear hM
  simp only at *
  go_enter Tryd.func3, Tryd.ntmps3
  go_upto_region 1 with (fail)
  have HP := Lib.hid (Has.new w #[.int .i64 a, .int .i64 b, .int .i64 c, .int .i64 d, .int .i64 e] 23)
  have hb0 := (Below.refl w.heap.size w).alloc (Nat.le_refl _) (.cells #[.int .i64 a, .int .i64 b, .int .i64 c, .int .i64 d, .int .i64 e] 23)
  have HM0 := Lib.hid (HM.out.keep hb0)
  have HB0 := Lib.hid hb0
  obtain ⟨q, hq⟩ : ∃ q, q = w.heap.size := ⟨_, rfl⟩
  rw [← hq] at HP
  rw [← hq]
  clear hq hb0 HM
  generalize w.alloc (.cells #[.int .i64 a, .int .i64 b, .int .i64 c, .int .i64 d, .int .i64 e] 23) = w1 at *
  by_cases hm : St.may ⟨a, b, c, d, e⟩ = true
  · obtain ⟨hpt, hsz⟩ := hmy hm
    rw [hm] at HTX HRM HMY
    have HT := Lib.hid (fun w => HRT.out hm w)
    have HPS := Lib.hid (fun w hM => parse_walk41 (Fr.bs (St.textL ⟨a, b, c, d, e⟩)) w hM (by omega))
    rw [Fr.list_bs, hpt] at HPS
    simp only [St.parsedV] at HPS
    simp only [if_true] at HTX
    generalize Fr.bs (St.textL ⟨a, b, c, d, e⟩) = X at *
    clear hmy hpt hsz hm HRT
    have p0 := HP.out.cell 0; have p1 := HP.out.cell 1; have p2 := HP.out.cell 2; have p3 := HP.out.cell 3; have p4 := HP.out.cell 4
    simp only [List.getElem?_toArray, List.getElem?_cons_zero, List.getElem?_cons_succ] at p0 p1 p2 p3 p4
    go_wp2_with fail
    (with_reducible refine (HTX.out _).mono ?_)
    rintro r2 w2 ⟨rfl, hb⟩
    have HPX := HP.out.below hb HP.out.lt
    have HBX := HB0.out.trans (hb.mono HB0.out.size)
    have HMX := HM0.out.keep hb
    clear p0 p1 p2 p3 p4 hb HP HB0 HM0
    have HP := Lib.hid HPX; have HB0 := Lib.hid HBX; have HM0 := Lib.hid HMX
    clear HPX HBX HMX
    have p0 := HP.out.cell 0; have p1 := HP.out.cell 1; have p2 := HP.out.cell 2; have p3 := HP.out.cell 3; have p4 := HP.out.cell 4
    simp only [List.getElem?_toArray, List.getElem?_cons_zero, List.getElem?_cons_succ] at p0 p1 p2 p3 p4
    go_wp2_with fail
    (with_reducible refine (HRF.out _).mono ?_)
    rintro r2 w2 ⟨rfl, hb⟩
    have HPX := HP.out.below hb HP.out.lt
    have HBX := HB0.out.trans (hb.mono HB0.out.size)
    have HMX := HM0.out.keep hb
    clear p0 p1 p2 p3 p4 hb HP HB0 HM0
    have HP := Lib.hid HPX; have HB0 := Lib.hid HBX; have HM0 := Lib.hid HMX
    clear HPX HBX HMX
    have p0 := HP.out.cell 0; have p1 := HP.out.cell 1; have p2 := HP.out.cell 2; have p3 := HP.out.cell 3; have p4 := HP.out.cell 4
    simp only [List.getElem?_toArray, List.getElem?_cons_zero, List.getElem?_cons_succ] at p0 p1 p2 p3 p4
    go_wp2_with fail
    (with_reducible refine (HRM.out _).mono ?_)
    rintro r2 w2 ⟨rfl, hb⟩
    have HPX := HP.out.below hb HP.out.lt
    have HBX := HB0.out.trans (hb.mono HB0.out.size)
    have HMX := HM0.out.keep hb
    clear p0 p1 p2 p3 p4 hb HP HB0 HM0
    have HP := Lib.hid HPX; have HB0 := Lib.hid HBX; have HM0 := Lib.hid HMX
    clear HPX HBX HMX
    have p0 := HP.out.cell 0; have p1 := HP.out.cell 1; have p2 := HP.out.cell 2; have p3 := HP.out.cell 3; have p4 := HP.out.cell 4
    simp only [List.getElem?_toArray, List.getElem?_cons_zero, List.getElem?_cons_succ] at p0 p1 p2 p3 p4
    go_wp2_with fail
    (with_reducible refine (HMY.out _).mono ?_)
    rintro r2 w2 ⟨rfl, hb⟩
    have HPX := HP.out.below hb HP.out.lt
    have HBX := HB0.out.trans (hb.mono HB0.out.size)
    have HMX := HM0.out.keep hb
    clear p0 p1 p2 p3 p4 hb HP HB0 HM0
    have HP := Lib.hid HPX; have HB0 := Lib.hid HBX; have HM0 := Lib.hid HMX
    clear HPX HBX HMX
    go_wp2_with fail
    with_reducible refine (HPS.out _ HM0.out).mono ?_
    rintro r2 w2 ⟨rfl, hb⟩
    have hb2 := HB0.out.trans (hb.mono HB0.out.size)
    have hP2 := (HP.out.below hb HP.out.lt).alloc (.cells #[.int .i64 a, .int .i64 b, .int .i64 c, .int .i64 d, .int .i64 e] 23)
    have hm2 := (HM0.out.keep hb).keep ((Below.refl w2.heap.size w2).alloc (Nat.le_refl _) (.cells #[.int .i64 a, .int .i64 b, .int .i64 c, .int .i64 d, .int .i64 e] 23))
    have hb3 := hb2.alloc hb2.size (.cells #[.int .i64 a, .int .i64 b, .int .i64 c, .int .i64 d, .int .i64 e] 23)
    have hq2 := Has.new w2 #[.int .i64 a, .int .i64 b, .int .i64 c, .int .i64 d, .int .i64 e] 23
    clear HP HB0 HM0 hb hb2
    have HP := Lib.hid hP2; have HM0 := Lib.hid hm2; have HB0 := Lib.hid hb3; have HQ := Lib.hid hq2
    clear hP2 hm2 hb3 hq2
    go_upto_region 8 with (fail)
    generalize w2.heap.size = q2 at *
    generalize w2.alloc (.cells #[.int .i64 a, .int .i64 b, .int .i64 c, .int .i64 d, .int .i64 e] 23) = w3 at *
    have p0 := HP.out.cell 0; have p1 := HP.out.cell 1; have p2 := HP.out.cell 2; have p3 := HP.out.cell 3; have p4 := HP.out.cell 4
    simp only [List.getElem?_toArray, List.getElem?_cons_zero, List.getElem?_cons_succ] at p0 p1 p2 p3 p4
    go_wp2_with fail
    (with_reducible refine (HRF.out _).mono ?_)
    rintro r2 w2 ⟨rfl, hb⟩
    have HPX := HP.out.below hb HP.out.lt
    have HQX := HQ.out.below hb HQ.out.lt
    have HBX := HB0.out.trans (hb.mono HB0.out.size)
    have HMX := HM0.out.keep hb
    clear p0 p1 p2 p3 p4 hb HP HB0 HM0 HQ
    have HP := Lib.hid HPX; have HB0 := Lib.hid HBX; have HM0 := Lib.hid HMX; have HQ := Lib.hid HQX
    clear HPX HBX HMX HQX
    go_wp2_with fail
    (with_reducible refine (HT.out _).mono ?_)
    rintro r2 w2 ⟨rfl, hb⟩
    have HPX := HP.out.below hb HP.out.lt
    have HQX := HQ.out.below hb HQ.out.lt
    have HBX := HB0.out.trans (hb.mono HB0.out.size)
    have HMX := HM0.out.keep hb
    clear hb HP HB0 HM0 HQ
    have HP := Lib.hid HPX; have HB0 := Lib.hid HBX; have HM0 := Lib.hid HMX
    have q0 := HQX.cell 0; have q1 := HQX.cell 1; have q2 := HQX.cell 2; have q3 := HQX.cell 3; have q4 := HQX.cell 4
    simp only [List.getElem?_toArray, List.getElem?_cons_zero, List.getElem?_cons_succ] at q0 q1 q2 q3 q4
    have p0 := HP.out.cell 0; have p1 := HP.out.cell 1; have p2 := HP.out.cell 2; have p3 := HP.out.cell 3; have p4 := HP.out.cell 4
    simp only [List.getElem?_toArray, List.getElem?_cons_zero, List.getElem?_cons_succ] at p0 p1 p2 p3 p4
    clear HPX HBX HMX HQX
    go_wp2_with fail
    with_reducible refine (H3.out _ HM0.out).mono ?_
    rintro r2 w2 ⟨rfl, hb⟩
    have HBX := Lib.hid (HB0.out.trans (hb.mono HB0.out.size))
    clear hb
    go_wp2
    go_ret
    exact ⟨rfl, HBX.out⟩
  · have hm2 : St.may ⟨a, b, c, d, e⟩ = false := by simpa using hm
    rw [hm2] at HTX HRM HMY
    simp only [Bool.false_eq_true, if_false] at HTX
    clear hmy hm hm2 HRT
    have p0 := HP.out.cell 0; have p1 := HP.out.cell 1; have p2 := HP.out.cell 2; have p3 := HP.out.cell 3; have p4 := HP.out.cell 4
    simp only [List.getElem?_toArray, List.getElem?_cons_zero, List.getElem?_cons_succ] at p0 p1 p2 p3 p4
    go_wp2_with fail
    (with_reducible refine (HTX.out _).mono ?_)
    rintro r2 w2 ⟨rfl, hb⟩
    have HPX := HP.out.below hb HP.out.lt
    have HBX := HB0.out.trans (hb.mono HB0.out.size)
    have HMX := HM0.out.keep hb
    clear p0 p1 p2 p3 p4 hb HP HB0 HM0
    have HP := Lib.hid HPX; have HB0 := Lib.hid HBX; have HM0 := Lib.hid HMX
    clear HPX HBX HMX
    have p0 := HP.out.cell 0; have p1 := HP.out.cell 1; have p2 := HP.out.cell 2; have p3 := HP.out.cell 3; have p4 := HP.out.cell 4
    simp only [List.getElem?_toArray, List.getElem?_cons_zero, List.getElem?_cons_succ] at p0 p1 p2 p3 p4
    go_wp2_with fail
    (with_reducible refine (HRF.out _).mono ?_)
    rintro r2 w2 ⟨rfl, hb⟩
    have HPX := HP.out.below hb HP.out.lt
    have HBX := HB0.out.trans (hb.mono HB0.out.size)
    have HMX := HM0.out.keep hb
    clear p0 p1 p2 p3 p4 hb HP HB0 HM0
    have HP := Lib.hid HPX; have HB0 := Lib.hid HBX; have HM0 := Lib.hid HMX
    clear HPX HBX HMX
    have p0 := HP.out.cell 0; have p1 := HP.out.cell 1; have p2 := HP.out.cell 2; have p3 := HP.out.cell 3; have p4 := HP.out.cell 4
    simp only [List.getElem?_toArray, List.getElem?_cons_zero, List.getElem?_cons_succ] at p0 p1 p2 p3 p4
    go_wp2_with fail
    (with_reducible refine (HRM.out _).mono ?_)
    rintro r2 w2 ⟨rfl, hb⟩
    have HPX := HP.out.below hb HP.out.lt
    have HBX := HB0.out.trans (hb.mono HB0.out.size)
    have HMX := HM0.out.keep hb
    clear p0 p1 p2 p3 p4 hb HP HB0 HM0
    have HP := Lib.hid HPX; have HB0 := Lib.hid HBX; have HM0 := Lib.hid HMX
    clear HPX HBX HMX
    have p0 := HP.out.cell 0; have p1 := HP.out.cell 1; have p2 := HP.out.cell 2; have p3 := HP.out.cell 3; have p4 := HP.out.cell 4
    simp only [List.getElem?_toArray, List.getElem?_cons_zero, List.getElem?_cons_succ] at p0 p1 p2 p3 p4
    go_wp2_with fail
    (with_reducible refine (HMY.out _).mono ?_)
    rintro r2 w2 ⟨rfl, hb⟩
    have HPX := HP.out.below hb HP.out.lt
    have HBX := HB0.out.trans (hb.mono HB0.out.size)
    have HMX := HM0.out.keep hb
    clear p0 p1 p2 p3 p4 hb HP HB0 HM0
    have HP := Lib.hid HPX; have HB0 := Lib.hid HBX; have HM0 := Lib.hid HMX
    clear HPX HBX HMX
    go_wp2_with fail
    with_reducible refine (H3.out _ HM0.out).mono ?_
    rintro r2 w2 ⟨rfl, hb⟩
    have HBX := Lib.hid (HB0.out.trans (hb.mono HB0.out.size))
    clear hb
    go_wp2
    go_ret
    exact ⟨rfl, HBX.out⟩
end Go.Proofs.YtcogndjfalomjaaDoor
