/- The reference's tally. -/
import Derived.Test.YtcogndjfalomjaaDoorStCnt1
namespace Go.Proofs.YtcogndjfalomjaaDoor
open Go.RowKit
set_option linter.unusedVariables false
set_option linter.unusedSimpArgs false

set_option maxRecDepth 100000 in
set_option maxHeartbeats 4000000 in
theorem refcount_walk (l : List St.Ans) (a : Option Addr) (len cap : Nat) (w : World) (hl : l.length = len) (hr : RowS w 4 a len cap (l.flatMap ancells)) (h100 : len ≤ 1000) :
    Calls Tryd.prog 18 #[.slice a len cap] w fun r w' => r = .returned (.agg (tlcells (St.count l))) ∧ Below w.heap.size w w' := by
  have HR := Lib.hid hr
  have HSM := Lib.hid (fun k h => St.count_sm l k h)
  have HT := Lib.hid (fun k h => St.count_take l k h)
  have HE := Lib.hid (St.count_all l l.length (Nat.le_refl _))
  subst hl
  clear hr
  go_enter Tryd.func18, Tryd.ntmps18
  go_upto_region 1 with (fail)
  have hR1 := Has.new w #[.int .i64 0, .int .i64 0, .int .i64 0, .int .i64 0, .int .i64 0, .int .i64 0, .int .i64 0, .int .i64 0] 48
  have hB1 := (Below.refl w.heap.size w).alloc (Nat.le_refl _) (.cells #[.int .i64 0, .int .i64 0, .int .i64 0, .int .i64 0, .int .i64 0, .int .i64 0, .int .i64 0, .int .i64 0] 48)
  obtain ⟨q, hq⟩ : ∃ q, q = w.heap.size := ⟨_, rfl⟩
  rw [← hq] at hR1
  rw [← hq]
  have hqw : w.heap.size ≤ q := by omega
  clear hq
  generalize w.alloc (.cells #[.int .i64 0, .int .i64 0, .int .i64 0, .int .i64 0, .int .i64 0, .int .i64 0, .int .i64 0, .int .i64 0] 48) = w1 at *
  go_upto_region 2 with (fail)
  have hR2 := hR1.alloc (.cells #[.int .i64 0, .int .i64 0, .int .i64 0, .int .i64 0, .int .i64 0, .int .i64 0, .int .i64 0, .int .i64 0] 48)
  have hB2 := hB1.alloc hB1.size (.cells #[.int .i64 0, .int .i64 0, .int .i64 0, .int .i64 0, .int .i64 0, .int .i64 0, .int .i64 0, .int .i64 0] 48)
  have hA2 := Has.new w1 #[.int .i64 0, .int .i64 0, .int .i64 0, .int .i64 0, .int .i64 0, .int .i64 0, .int .i64 0, .int .i64 0] 48
  have hqq : q ≠ w1.heap.size := Nat.ne_of_lt hR1.lt
  have hq2w : w.heap.size ≤ w1.heap.size := hB1.size
  generalize w1.heap.size = q2 at *
  have HA0 := Lib.hid hA2; have HR0 := Lib.hid hR2; have HB0 := Lib.hid hB2
  clear hA2 hR2 hB2 hR1 hB1
  generalize w1.alloc (.cells #[.int .i64 0, .int .i64 0, .int .i64 0, .int .i64 0, .int .i64 0, .int .i64 0, .int .i64 0, .int .i64 0] 48) = w2 at *
  go_wp2_with fail
  go_loopw [9] (fun vi wr => ∃ (k : Nat), k ≤ l.length ∧ vi = .int .i64 k ∧ Has wr q2 (tlcells (St.count (l.take k))) 48 ∧ Has wr q #[.int .i64 0, .int .i64 0, .int .i64 0, .int .i64 0, .int .i64 0, .int .i64 0, .int .i64 0, .int .i64 0] 48 ∧ Below w.heap.size w wr) (fun i _ => l.length - (intOf i).toNat)
  case atStart => exact ⟨0, Nat.zero_le _, rfl, HA0.out, HR0.out, HB0.out⟩
  case round =>
    obtain ⟨k, hk, rfl, hA, hR, hB⟩ := hrel
    have HA := Lib.hid hA; have HQ := Lib.hid hR; have HB := Lib.hid hB
    clear hA hR hB HA0 HR0 HB0
    by_cases hlt : k < l.length
    · have hlt' : (k : Int) < (l.length : Int) := by omega
      obtain ⟨b, off, rfl, hb, a0, a1, a2, a3⟩ := (HR.out.keep HB.out).ans k hlt rfl
      have hs := HT.out k hlt
      have hsm := HSM.out k hk
      generalize hT : St.count (l.take k) = T at *
      generalize l[k] = x at *
      obtain ⟨t, j, d, e⟩ := x
      simp only at a0 a1 a2 a3
      go_upto_region 5 with (fail)
      have HA1 := Lib.hid (HA.out.alloc (.cells #[.int .i64 t, .int .i64 j, .string d, .int .i64 e] 65))
      have HQ1 := Lib.hid (HQ.out.alloc (.cells #[.int .i64 t, .int .i64 j, .string d, .int .i64 e] 65))
      have HB1 := Lib.hid (HB.out.alloc HB.out.size (.cells #[.int .i64 t, .int .i64 j, .string d, .int .i64 e] 65))
      have HX := Has.new wr #[.int .i64 t, .int .i64 j, .string d, .int .i64 e] 65
      have hpq := Nat.ne_of_gt HA.out.lt
      clear a0 a1 a2 a3 HA HQ HB hT hb
      generalize wr.heap.size = p at *
      generalize wr.alloc (.cells #[.int .i64 t, .int .i64 j, .string d, .int .i64 e] 65) = w5 at *
      have x0 := HX.cell 0; have x2 := HX.cell 2; have x3 := HX.cell 3
      have HS := Lib.hid hs
      obtain ⟨⟨m1, n1⟩, ⟨m2, n2⟩, ⟨m3, n3⟩, ⟨m4, n4⟩, ⟨m5, n5⟩, ⟨m6, n6⟩, ⟨m7, n7⟩, ⟨m8, n8⟩⟩ := hsm
      clear hs
      obtain ⟨re, ch, dn, fl, rf, td, bt, bs⟩ := T
      simp only [tlcells] at HA1 m1 n1 m2 n2 m3 n3 m4 n4 m5 n5 m6 n6 m7 n7 m8 n8
      have y0 := HA1.out.cell 0; have y1 := HA1.out.cell 1; have y2 := HA1.out.cell 2; have y3 := HA1.out.cell 3; have y4 := HA1.out.cell 4; have y5 := HA1.out.cell 5; have y6 := HA1.out.cell 6; have y7 := HA1.out.cell 7
      have f0 := HA1.out.free 0; have f1 := HA1.out.free 1; have f2 := HA1.out.free 2; have f3 := HA1.out.free 3; have f4 := HA1.out.free 4; have f5 := HA1.out.free 5; have f6 := HA1.out.free 6; have f7 := HA1.out.free 7
      simp only [List.getElem?_toArray, List.getElem?_cons_zero, List.getElem?_cons_succ] at x0 x2 x3 y0 y1 y2 y3 y4 y5 y6 y7
      clear HX
      by_cases c65 : t = 65
      · subst c65
        have HST := Lib.hid (show St.count (l.take (k + 1)) = ⟨re + 1, ch, dn, fl, rf, td, bt, bs⟩ from HS.out.trans rfl)
        clear HS
        go_wp2_with fail
        go_roundw
        case rel =>
          refine ⟨k + 1, hlt, by go_num, ?_, ?_, ?_⟩
          · rw [HST.out]; exact HA1.out.setCell 0 _
          · exact HQ1.out.setCell_other _ _ hqq
          · exact cset1 HB1.out _ _ hq2w _
        case measure => simp [intOf]; omega
      by_cases c66 : t = 66
      · subst c66
        have HST := Lib.hid (show St.count (l.take (k + 1)) = ⟨re, ch + 1, dn, fl, rf, td, wrap64 (bt + d.size), bs⟩ from HS.out.trans rfl)
        clear HS
        go_wp2_with fail
        go_roundw
        case rel =>
          refine ⟨k + 1, hlt, by go_num, ?_, ?_, ?_⟩
          · rw [HST.out]; exact (HA1.out.setCell 1 _).setCell 6 _
          · exact (HQ1.out.setCell_other _ _ hqq).setCell_other _ _ hqq
          · exact cset1 (cset1 HB1.out _ _ hq2w _) _ _ hq2w _
        case measure => simp [intOf]; omega
      by_cases c67 : t = 67
      · subst c67
        have HST := Lib.hid (show St.count (l.take (k + 1)) = ⟨re, ch, dn + 1, fl, rf, td, bt, bs⟩ from HS.out.trans rfl)
        clear HS
        go_wp2_with fail
        go_roundw
        case rel =>
          refine ⟨k + 1, hlt, by go_num, ?_, ?_, ?_⟩
          · rw [HST.out]; exact HA1.out.setCell 2 _
          · exact HQ1.out.setCell_other _ _ hqq
          · exact cset1 HB1.out _ _ hq2w _
        case measure => simp [intOf]; omega
      by_cases c68 : t = 68
      · subst c68
        have HST := Lib.hid (show St.count (l.take (k + 1)) = ⟨re, ch, dn, fl + 1, rf, td, bt, bs⟩ from HS.out.trans rfl)
        clear HS
        go_wp2_with fail
        go_roundw
        case rel =>
          refine ⟨k + 1, hlt, by go_num, ?_, ?_, ?_⟩
          · rw [HST.out]; exact HA1.out.setCell 3 _
          · exact HQ1.out.setCell_other _ _ hqq
          · exact cset1 HB1.out _ _ hq2w _
        case measure => simp [intOf]; omega
      by_cases c69 : t = 69
      · subst c69
        by_cases c34 : e = 34
        · subst c34
          have HST := Lib.hid (show St.count (l.take (k + 1)) = ⟨re, ch, dn, fl, rf + 1, td, bt, bs + 1⟩ from HS.out.trans rfl)
          clear HS
          go_wp2_with fail
          go_roundw
          case rel =>
            refine ⟨k + 1, hlt, by go_num, ?_, ?_, ?_⟩
            · rw [HST.out]; exact (HA1.out.setCell 4 _).setCell 7 _
            · exact (HQ1.out.setCell_other _ _ hqq).setCell_other _ _ hqq
            · exact cset1 (cset1 HB1.out _ _ hq2w _) _ _ hq2w _
          case measure => simp [intOf]; omega
        · have d34 : (e == 34) = false := by simpa using c34
          have HSX := Lib.hid (show St.step ⟨re, ch, dn, fl, rf, td, bt, bs⟩ ⟨69, j, d, e⟩ = ⟨re, ch, dn, fl, rf + 1, td, bt, bs⟩ by
            simp [St.step, c34])
          rw [HSX.out] at HS
          clear c34 HSX
          have HST := Lib.hid (show St.count (l.take (k + 1)) = ⟨re, ch, dn, fl, rf + 1, td, bt, bs⟩ from HS.out.trans rfl)
          clear HS
          go_wp2_with fail
          go_roundw
          case rel =>
            refine ⟨k + 1, hlt, by go_num, ?_, ?_, ?_⟩
            · rw [HST.out]; exact HA1.out.setCell 4 _
            · exact HQ1.out.setCell_other _ _ hqq
            · exact cset1 HB1.out _ _ hq2w _
          case measure => simp [intOf]; omega
      by_cases c70 : t = 70
      · subst c70
        have HST := Lib.hid (show St.count (l.take (k + 1)) = ⟨re, ch, dn, fl, rf, td + 1, bt, bs⟩ from HS.out.trans rfl)
        clear HS
        go_wp2_with fail
        go_roundw
        case rel =>
          refine ⟨k + 1, hlt, by go_num, ?_, ?_, ?_⟩
          · rw [HST.out]; exact HA1.out.setCell 5 _
          · exact HQ1.out.setCell_other _ _ hqq
          · exact cset1 HB1.out _ _ hq2w _
        case measure => simp [intOf]; omega
      · have HSX := Lib.hid (show St.step ⟨re, ch, dn, fl, rf, td, bt, bs⟩ ⟨t, j, d, e⟩ = ⟨re, ch, dn, fl, rf, td, bt, bs⟩ by
          simp [St.step, c65, c66, c67, c68, c69, c70])
        rw [HSX.out] at HS
        have e66 : (t == 66) = false := by simpa using c66
        have e69 : (t == 69) = false := by simpa using c69
        have hout : t < 65 ∨ 70 < t := by omega
        clear HSX
        clear c65 c66 c67 c68 c69 c70
        by_cases g1 : t < 65
        · have g2 : ¬ (65 : Int) ≤ t := by omega
          have g3 : decide ((65 : Int) ≤ t) = false := decide_eq_false g2
          clear hout
          have HST := Lib.hid (show St.count (l.take (k + 1)) = ⟨re, ch, dn, fl, rf, td, bt, bs⟩ from HS.out.trans rfl)
          clear HS
          go_wp2_with fail
          go_roundw
          case rel =>
            refine ⟨k + 1, hlt, by go_num, ?_, ?_, ?_⟩
            · rw [HST.out]; exact HA1.out
            · exact HQ1.out
            · exact HB1.out
          case measure => simp [intOf]; omega
        · have g2 : (65 : Int) ≤ t := by omega
          have g3 : decide ((65 : Int) ≤ t) = true := decide_eq_true g2
          have g4 : ¬ t ≤ (70 : Int) := by omega
          have g5 : decide (t ≤ (70 : Int)) = false := decide_eq_false g4
          clear hout g1
          have HST := Lib.hid (show St.count (l.take (k + 1)) = ⟨re, ch, dn, fl, rf, td, bt, bs⟩ from HS.out.trans rfl)
          clear HS
          go_wp2_with fail
          go_roundw
          case rel =>
            refine ⟨k + 1, hlt, by go_num, ?_, ?_, ?_⟩
            · rw [HST.out]; exact HA1.out
            · exact HQ1.out
            · exact HB1.out
          case measure => simp [intOf]; omega
    · have hlt' : ¬ (k : Int) < (l.length : Int) := by omega
      have hke : k = l.length := by omega
      subst hke
      rw [HE.out] at HA
      generalize hTl : St.count l = T at *
      have HTL := Lib.hid hTl
      clear hTl
      obtain ⟨re, ch, dn, fl, rf, td, bt, bs⟩ := T
      simp only [tlcells] at HA
      have y0 := HA.out.cell 0; have y1 := HA.out.cell 1; have y2 := HA.out.cell 2; have y3 := HA.out.cell 3; have y4 := HA.out.cell 4; have y5 := HA.out.cell 5; have y6 := HA.out.cell 6; have y7 := HA.out.cell 7
      have z0 := HQ.out.cell 0; have z1 := HQ.out.cell 1; have z2 := HQ.out.cell 2; have z3 := HQ.out.cell 3; have z4 := HQ.out.cell 4; have z5 := HQ.out.cell 5; have z6 := HQ.out.cell 6; have z7 := HQ.out.cell 7
      have f0 := HQ.out.free 0; have f1 := HQ.out.free 1; have f2 := HQ.out.free 2; have f3 := HQ.out.free 3; have f4 := HQ.out.free 4; have f5 := HQ.out.free 5; have f6 := HQ.out.free 6; have f7 := HQ.out.free 7
      simp only [List.getElem?_toArray, List.getElem?_cons_zero, List.getElem?_cons_succ] at y0 y1 y2 y3 y4 y5 y6 y7 z0 z1 z2 z3 z4 z5 z6 z7
      go_wp2
      ((try simp only [Exit.inBlock, Exit.then]); refine bodyPost_ret (v := (.agg #[.int .i64 re, .int .i64 ch, .int .i64 dn, .int .i64 fl, .int .i64 rf, .int .i64 td, .int .i64 bt, .int .i64 bs])) ?_ rfl ⟨?_, ?_⟩; (rw [results_cell1 rfl]; go_simp))
      · rw [HTL.out]; rfl
      · exact cset1 (cset1 (cset1 (cset1 (cset1 (cset1 (cset1 (cset1 HB.out _ _ hqw _) _ _ hqw _) _ _ hqw _) _ _ hqw _) _ _ hqw _) _ _ hqw _) _ _ hqw _) _ _ hqw _
end Go.Proofs.YtcogndjfalomjaaDoor
