/- The law of joins. -/
import Derived.Test.YtcogndjfalomjaaDoorStIn
namespace Go.Proofs.YtcogndjfalomjaaDoor
open Go.RowKit
set_option linter.unusedVariables false
set_option linter.unusedSimpArgs false

set_option maxRecDepth 100000 in
set_option maxHeartbeats 4000000 in
theorem statusJoins_walk (l : List St.Ans) (a : Option Addr) (len cap : Nat) (l2 : List St.Ans) (a2 : Option Addr) (len2 cap2 : Nat) (w : World) (hl : l.length = len) (hr : RowS w 4 a len cap (l.flatMap ancells)) (_ : ∀ x ∈ l, x.d.size ≤ maxLen) (hl2 : l2.length = len2) (hr2 : RowS w 4 a2 len2 cap2 (l2.flatMap ancells)) (_ : ∀ x ∈ l2, x.d.size ≤ maxLen) (hM : MaxL w) :
    Calls Tryd.prog 5 #[.slice a len cap, .slice a2 len2 cap2] w fun r w' => r = .returned (.bool true) ∧ Below w.heap.size w w' := by
  have HM := Lib.hid hM
  have H3 := Lib.hid (fun w h => three_walk w h)
  have HR := Lib.hid hr; have HR2 := Lib.hid hr2
  have HB := Lib.hid (Below.refl w.heap.size w)
  clear hM hr hr2
  by_cases h1 : 100 < len
  · have h1' : (100 : Int) < (len : Int) := by omega
    clear h1
    go_enter Tryd.func5, Tryd.ntmps5
    go_wp2_with fail
    with_reducible refine (H3.out _ HM.out).mono ?_
    rintro r9 w9 ⟨rfl, hb⟩
    have HBX := Lib.hid (HB.out.trans (hb.mono HB.out.size))
    clear hb
    go_wp2
    go_ret
    exact ⟨rfl, HBX.out⟩
  have h1' : ¬ (100 : Int) < (len : Int) := by omega
  by_cases h2 : 100 < len2
  · have h2' : (100 : Int) < (len2 : Int) := by omega
    clear h2
    go_enter Tryd.func5, Tryd.ntmps5
    go_wp2_with fail
    with_reducible refine (H3.out _ HM.out).mono ?_
    rintro r9 w9 ⟨rfl, hb⟩
    have HBX := Lib.hid (HB.out.trans (hb.mono HB.out.size))
    clear hb
    go_wp2
    go_ret
    exact ⟨rfl, HBX.out⟩
  have h2' : ¬ (100 : Int) < (len2 : Int) := by omega
  have HC := Lib.hid (fun w h => count_walk l a len cap w hl h (by omega))
  have HC2 := Lib.hid (fun w h => count_walk l2 a2 len2 cap2 w hl2 h (by omega))
  have HC3 := Lib.hid (fun a3 c3 w h => count_walk (l ++ l2) a3 (len + len2) c3 w (by rw [List.length_append]; omega) h (by omega))
  rw [St.count_app] at HC3
  have hs1 := St.count_sm l l.length (Nat.le_refl _)
  have hs2 := St.count_sm l2 l2.length (Nat.le_refl _)
  rw [St.count_all l _ (Nat.le_refl _), hl] at hs1
  rw [St.count_all l2 _ (Nat.le_refl _), hl2] at hs2
  generalize St.count l = T at *
  generalize St.count l2 = U at *
  have h1n : len ≤ 100 := by omega
  have h2n : len2 ≤ 100 := by omega
  clear h1 h2 hl hl2
  obtain ⟨re, ch, dn, fl, rf, td, bt, bs⟩ := T
  obtain ⟨re', ch', dn', fl', rf', td', bt', bs'⟩ := U
  obtain ⟨⟨m1, n1⟩, ⟨m2, n2⟩, ⟨m3, n3⟩, ⟨m4, n4⟩, ⟨m5, n5⟩, ⟨m6, n6⟩, ⟨m7, n7⟩, ⟨m8, n8⟩⟩ := hs1
  obtain ⟨⟨m1', n1'⟩, ⟨m2', n2'⟩, ⟨m3', n3'⟩, ⟨m4', n4'⟩, ⟨m5', n5'⟩, ⟨m6', n6'⟩, ⟨m7', n7'⟩, ⟨m8', n8'⟩⟩ := hs2
  simp only [tlcells, St.add] at *
  go_enter Tryd.func5, Tryd.ntmps5
  go_wp2_with fail
  with_reducible refine (HC.out _ HR.out).mono ?_
  rintro r1 w1 ⟨rfl, hb⟩
  have hbb := HB.out.trans (hb.mono HB.out.size)
  have ha := (Below.refl w1.heap.size w1).alloc (Nat.le_refl _) (.cells #[.int .i64 re, .int .i64 ch, .int .i64 dn, .int .i64 fl, .int .i64 rf, .int .i64 td, .int .i64 bt, .int .i64 bs] 41)
  have hmm := (HM.out.keep hb).keep ha
  have hrr := (HR.out.keep hb).keep ha
  have hrr2 := (HR2.out.keep hb).keep ha
  have hbc := hbb.alloc hbb.size (.cells #[.int .i64 re, .int .i64 ch, .int .i64 dn, .int .i64 fl, .int .i64 rf, .int .i64 td, .int .i64 bt, .int .i64 bs] 41)
  have hT := Has.new w1 #[.int .i64 re, .int .i64 ch, .int .i64 dn, .int .i64 fl, .int .i64 rf, .int .i64 td, .int .i64 bt, .int .i64 bs] 41
  clear HM HR HR2 HB hbb
  have HM := Lib.hid hmm; have HR := Lib.hid hrr; have HR2 := Lib.hid hrr2; have HB := Lib.hid hbc
  clear hmm hrr hrr2 hbc
  go_upto_region 4 with (fail)
  have HT1 := Lib.hid hT
  clear hb ha hT HC
  generalize w1.heap.size = q1 at *
  generalize w1.alloc (.cells #[.int .i64 re, .int .i64 ch, .int .i64 dn, .int .i64 fl, .int .i64 rf, .int .i64 td, .int .i64 bt, .int .i64 bs] 41) = w2 at *
  go_wp2_with fail
  with_reducible refine (HC2.out _ HR2.out).mono ?_
  rintro r3 w3 ⟨rfl, hb⟩
  have hbb := HB.out.trans (hb.mono HB.out.size)
  have ha := (Below.refl w3.heap.size w3).alloc (Nat.le_refl _) (.cells #[.int .i64 re', .int .i64 ch', .int .i64 dn', .int .i64 fl', .int .i64 rf', .int .i64 td', .int .i64 bt', .int .i64 bs'] 41)
  have hmm := (HM.out.keep hb).keep ha
  have hrr := (HR.out.keep hb).keep ha
  have hrr2 := (HR2.out.keep hb).keep ha
  have hbc := hbb.alloc hbb.size (.cells #[.int .i64 re', .int .i64 ch', .int .i64 dn', .int .i64 fl', .int .i64 rf', .int .i64 td', .int .i64 bt', .int .i64 bs'] 41)
  have hT := Has.new w3 #[.int .i64 re', .int .i64 ch', .int .i64 dn', .int .i64 fl', .int .i64 rf', .int .i64 td', .int .i64 bt', .int .i64 bs'] 41
  clear HM HR HR2 HB hbb
  have HM := Lib.hid hmm; have HR := Lib.hid hrr; have HR2 := Lib.hid hrr2; have HB := Lib.hid hbc
  clear hmm hrr hrr2 hbc
  go_upto_region 5 with (fail)
  have HT2 := Lib.hid hT
  have HT1b := Lib.hid ((HT1.out.below hb HT1.out.lt).below ha (Nat.lt_of_lt_of_le HT1.out.lt hb.size))
  clear hb ha hT HC2 HT1
  generalize w3.heap.size = q3 at *
  generalize w3.alloc (.cells #[.int .i64 re', .int .i64 ch', .int .i64 dn', .int .i64 fl', .int .i64 rf', .int .i64 td', .int .i64 bt', .int .i64 bs'] 41) = w4 at *
  have HO := Lib.hid (owns_empty w4 w4.heap.size 4 46 (Nat.le_refl _))
  have ha := (Below.refl w4.heap.size w4).alloc (Nat.le_refl _) (.cells #[] 46)
  have HRb := Lib.hid (HR.out.keep ha); have HR2b := Lib.hid (HR2.out.keep ha)
  have HA := Lib.hid ha
  clear ha
  go_wp2_with (at_builtin; refine appendAny Tryd.underlying39 info_ans41 rfl (by decide) rfl _ _ rfl w4.heap.size 0 len cap _ a _ _ rfl rfl HO.out HRb.out (ancells_one l) (by unfold maxLen; omega) (by omega) HA.out.size ?_)
  intro v5 w5 ho hc hb
  have HO5 := Lib.hid ho
  have HA5 := Lib.hid (HA.out.trans hb)
  have HR25 := Lib.hid (HR2.out.keep HA5.out)
  clear ho hc hb HO HRb HR2b HA
  obtain ⟨a5, c5, rfl, -, -⟩ := rowS_owns HO5.out
  go_wp2_with (at_builtin; refine appendAny Tryd.underlying39 info_ans41 rfl (by decide) rfl _ _ rfl w4.heap.size len len2 cap2 _ a2 _ _ rfl rfl HO5.out HR25.out (ancells_one l2) (by unfold maxLen; omega) (by omega) HA5.out.size ?_)
  intro v6 w6 ho hc hb
  have HO6 := Lib.hid ho
  have HA6 := Lib.hid (HA5.out.trans hb)
  clear ho hc hb HO5 HR25 HA5
  obtain ⟨a6, c6, rfl, hr6, -⟩ := rowS_owns HO6.out
  rw [← List.flatMap_append] at hr6
  have HR6 := Lib.hid hr6
  clear hr6 HO6
  go_wp2_with fail
  with_reducible refine (HC3.out _ _ _ HR6.out).mono ?_
  rintro r7 w7 ⟨rfl, hb⟩
  have hb7 := HA6.out.trans (hb.mono HA6.out.size)
  clear hb HA6 HR6
  have h47 := hb7
  have hm7 := HM.out.keep hb7
  have hB7 := HB.out.trans (hb7.mono HB.out.size)
  have ht1 := HT1b.out.below hb7 HT1b.out.lt
  have ht2 := HT2.out.below hb7 HT2.out.lt
  clear HM HB HT1b HT2 HR HR2 hb7 h47
  have ha := (Below.refl w7.heap.size w7).alloc (Nat.le_refl _) (.cells #[.int .i64 (re + re'), .int .i64 (ch + ch'), .int .i64 (dn + dn'), .int .i64 (fl + fl'), .int .i64 (rf + rf'), .int .i64 (td + td'), .int .i64 (wrap64 (bt + bt')), .int .i64 (bs + bs')] 41)
  have HM := Lib.hid (hm7.keep ha)
  have HB := Lib.hid (hB7.trans (ha.mono hB7.size))
  have HT1 := Lib.hid (ht1.below ha ht1.lt)
  have HT2 := Lib.hid (ht2.below ha ht2.lt)
  have HT3 := Lib.hid (Has.new w7 #[.int .i64 (re + re'), .int .i64 (ch + ch'), .int .i64 (dn + dn'), .int .i64 (fl + fl'), .int .i64 (rf + rf'), .int .i64 (td + td'), .int .i64 (wrap64 (bt + bt')), .int .i64 (bs + bs')] 41)
  clear ha hm7 hB7 ht1 ht2
  go_upto_region 6 with (fail)
  generalize w7.heap.size = q7 at *
  generalize w7.alloc (.cells #[.int .i64 (re + re'), .int .i64 (ch + ch'), .int .i64 (dn + dn'), .int .i64 (fl + fl'), .int .i64 (rf + rf'), .int .i64 (td + td'), .int .i64 (wrap64 (bt + bt')), .int .i64 (bs + bs')] 41) = w8 at *
  have x0 := HT1.out.cell 0; have x1 := HT1.out.cell 1; have x2 := HT1.out.cell 2; have x3 := HT1.out.cell 3; have x4 := HT1.out.cell 4; have x5 := HT1.out.cell 5; have x6 := HT1.out.cell 6; have x7 := HT1.out.cell 7
  have y0 := HT2.out.cell 0; have y1 := HT2.out.cell 1; have y2 := HT2.out.cell 2; have y3 := HT2.out.cell 3; have y4 := HT2.out.cell 4; have y5 := HT2.out.cell 5; have y6 := HT2.out.cell 6; have y7 := HT2.out.cell 7
  have z0 := HT3.out.cell 0; have z1 := HT3.out.cell 1; have z2 := HT3.out.cell 2; have z3 := HT3.out.cell 3; have z4 := HT3.out.cell 4; have z5 := HT3.out.cell 5; have z6 := HT3.out.cell 6; have z7 := HT3.out.cell 7
  simp only [List.getElem?_toArray, List.getElem?_cons_zero, List.getElem?_cons_succ] at x0 x1 x2 x3 x4 x5 x6 x7 y0 y1 y2 y3 y4 y5 y6 y7 z0 z1 z2 z3 z4 z5 z6 z7
  go_wp2_with fail
  with_reducible refine (H3.out _ HM.out).mono ?_
  rintro r9 w9 ⟨rfl, hb⟩
  have HBX := Lib.hid (HB.out.trans (hb.mono HB.out.size))
  clear hb
  go_wp2
  go_ret
  exact ⟨rfl, HBX.out⟩
end Go.Proofs.YtcogndjfalomjaaDoor
