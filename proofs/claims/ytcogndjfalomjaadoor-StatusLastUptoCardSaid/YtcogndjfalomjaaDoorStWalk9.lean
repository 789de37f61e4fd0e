/- The reference's status of a text. -/
import Derived.Test.YtcogndjfalomjaaDoorStWalk7
import Derived.Test.YtcogndjfalomjaaDoorStWalk8
namespace Go.Proofs.YtcogndjfalomjaaDoor
open Go.RowKit
set_option linter.unusedVariables false
set_option linter.unusedSimpArgs false

namespace St
def refV : Option Nums → Value
  | some n => .agg #[.int .i64 n.at', .int .i64 n.jobs, .int .i64 n.used, .int .i64 n.limit, .int .i64 n.left, .bool true]
  | none => .agg #[.int .i64 0, .int .i64 0, .int .i64 0, .int .i64 0, .int .i64 0, .bool false]
/-- the array's cells -/
def arr (l : List Nat) : Array Value := #[.int .i64 ((l.getD 0 0 : Nat) : Int), .int .i64 ((l.getD 1 0 : Nat) : Int), .int .i64 ((l.getD 2 0 : Nat) : Int), .int .i64 ((l.getD 3 0 : Nat) : Int), .int .i64 ((l.getD 4 0 : Nat) : Int)]
theorem getD_zero (l : List Nat) (i : Nat) : (l ++ [0]).getD i 0 = l.getD i 0 := by
  rw [List.getD_eq_getElem?_getD, List.getD_eq_getElem?_getD, List.getElem?_append]
  by_cases h : i < l.length
  · rw [if_pos h]
  · rw [if_neg h, List.getElem?_eq_none (by omega : l.length ≤ i)]
    cases i - l.length <;> rfl
theorem arr_zero (l : List Nat) : arr (l ++ [0]) = arr l := by
  unfold arr
  simp only [getD_zero]
theorem scanR_blank (l : List UInt8) (k : Nat) (done : List Nat) (cur dig : Nat) (h : k < l.length) (hb : l[k] = 32) : scanR (l.drop k) done cur dig = scanR (l.drop (k + 1)) (done ++ [cur]) 0 0 := by
  rw [List.drop_eq_getElem_cons h, scanR, if_pos hb]
theorem scanR_no (l : List UInt8) (k : Nat) (done : List Nat) (cur dig : Nat) (h : k < l.length) (hb : ¬ l[k] = 32) (hn : ¬ (done.length ≤ 4 ∧ isDig l[k] = true ∧ dig < 13)) : scanR (l.drop k) done cur dig = none := by
  rw [List.drop_eq_getElem_cons h, scanR, if_neg hb, if_neg hn]
theorem scanR_yes (l : List UInt8) (k : Nat) (done : List Nat) (cur dig : Nat) (h : k < l.length) (hb : ¬ l[k] = 32) (hn : done.length ≤ 4 ∧ isDig l[k] = true ∧ dig < 13) : scanR (l.drop k) done cur dig = scanR (l.drop (k + 1)) done (10 * cur + (l[k].toNat - 48)) (dig + 1) := by
  rw [List.drop_eq_getElem_cons h, scanR, if_neg hb, if_pos hn]
theorem scanR_end (l : List UInt8) (k : Nat) (done : List Nat) (cur dig : Nat) (h : l.length ≤ k) : scanR (l.drop k) done cur dig = if done.length = 4 then some (done ++ [cur]) else none := by rw [List.drop_eq_nil_of_le h, scanR]
end St
theorem fset6 {w : World} {r : Nat} {x y z u v t : Value} {T : TypeId} (h : Has w r #[x, y, z, u, v, t] T) (a b c d e f : Value) : Has ((((((w.setCell ⟨r, 0, none⟩ a).setCell ⟨r, 1, none⟩ b).setCell ⟨r, 2, none⟩ c).setCell ⟨r, 3, none⟩ d).setCell ⟨r, 4, none⟩ e).setCell ⟨r, 5, none⟩ f) r #[a, b, c, d, e, f] T := (((((h.setCell 0 a).setCell 1 b).setCell 2 c).setCell 3 d).setCell 4 e).setCell 5 f
theorem bset6 {B : Nat} {w w' : World} {r : Nat} (h : Below B w w') (hr : B ≤ r) (a b c d e f : Value) : Below B w ((((((w'.setCell ⟨r, 0, none⟩ a).setCell ⟨r, 1, none⟩ b).setCell ⟨r, 2, none⟩ c).setCell ⟨r, 3, none⟩ d).setCell ⟨r, 4, none⟩ e).setCell ⟨r, 5, none⟩ f) := bset1 (bset5 h hr a b c d e) r 5 hr f
set_option maxRecDepth 100000 in
set_option maxHeartbeats 4000000 in
theorem refparse_walk (s : ByteArray) (w : World) (hs : s.size ≤ 300) : Calls Tryd.prog 15 #[.string s] w fun r w' => r = .returned (St.refV (St.parse s.data.toList)) ∧ Below w.heap.size w w' := by
  have HPS := Lib.hid (St.parse_scan s.data.toList)
  generalize hR : St.scanR s.data.toList [] 0 0 = R at *
  have HSC := Lib.hid hR
  generalize hP : St.parse s.data.toList = P at *
  have HMT := Lib.hid (fun n w => refmay41 n w)
  have HTT := Lib.hid (fun n h w => reftext_walk n h w)
  clear hR hP
  go_enter Tryd.func15, Tryd.ntmps15
  go_upto_region 1 with (fail)
  have hR1 := Has.new w #[.int .i64 0, .int .i64 0, .int .i64 0, .int .i64 0, .int .i64 0, .bool false] 36
  have hB1 := (Below.refl w.heap.size w).alloc (Nat.le_refl _) (.cells #[.int .i64 0, .int .i64 0, .int .i64 0, .int .i64 0, .int .i64 0, .bool false] 36)
  obtain ⟨q, hq⟩ : ∃ q, q = w.heap.size := ⟨_, rfl⟩
  rw [← hq] at hR1
  rw [← hq]
  have hqw : w.heap.size ≤ q := by omega
  clear hq
  generalize w.alloc (.cells #[.int .i64 0, .int .i64 0, .int .i64 0, .int .i64 0, .int .i64 0, .bool false] 36) = w1 at *
  go_upto_region 2 with (fail)
  have hR2 := hR1.alloc (.cells #[.int .i64 0, .int .i64 0, .int .i64 0, .int .i64 0, .int .i64 0] 28)
  have hB2 := hB1.alloc hB1.size (.cells #[.int .i64 0, .int .i64 0, .int .i64 0, .int .i64 0, .int .i64 0] 28)
  have hA2 := Has.new w1 #[.int .i64 0, .int .i64 0, .int .i64 0, .int .i64 0, .int .i64 0] 28
  have hqq : q ≠ w1.heap.size := Nat.ne_of_lt hR1.lt
  have hq2w : w.heap.size ≤ w1.heap.size := hB1.size
  generalize w1.heap.size = q2 at *
  have HA0 := Lib.hid hA2; have HR0 := Lib.hid hR2; have HB0 := Lib.hid hB2
  clear hA2 hR2 hB2 hR1 hB1
  generalize w1.alloc (.cells #[.int .i64 0, .int .i64 0, .int .i64 0, .int .i64 0, .int .i64 0] 28) = w2 at *
  go_wp2_with fail
  go_loopw [4, 5, 6] (fun vat vdig vi wr => ∃ (k : Nat) (done : List Nat) (cur dig A : Nat), k ≤ s.size ∧ vi = .int .i64 k ∧ vat = .int .i64 A ∧ vdig = .int .i64 dig ∧ done.length = A ∧ St.scanR (s.data.toList.drop k) done cur dig = R ∧ cur < 10 ^ dig ∧ dig ≤ 13 ∧ A ≤ k ∧ Has wr q2 (St.arr (done ++ [cur])) 28 ∧ Has wr q #[.int .i64 0, .int .i64 0, .int .i64 0, .int .i64 0, .int .i64 0, .bool false] 36 ∧ Below w.heap.size w wr) (fun _ _ i _ => s.size - (intOf i).toNat)
  case atStart => exact ⟨0, [], 0, 0, 0, Nat.zero_le _, rfl, rfl, rfl, rfl, HSC.out, by decide, by decide, Nat.le_refl _, HA0.out, HR0.out, HB0.out⟩
  case round =>
    obtain ⟨k, done, cur, dig, A, hk, rfl, rfl, rfl, hA, hsc, hpw, hdig, hAk, ha, hr, hb⟩ := hrel
    have HA := Lib.hid ha; have HR := Lib.hid hr; have HB := Lib.hid hb
    clear ha hr hb HA0 HR0 HB0 HSC
    have hA300 : A ≤ 300 := by omega
    by_cases hlt : k < s.size
    · have hlt' : (k : Int) < (s.size : Int) := by omega
      have hkl : k < s.data.toList.length := by rw [llen]; exact hlt
      have h1 := St.scanR_blank s.data.toList k done cur dig hkl
      have h2 := St.scanR_no s.data.toList k done cur dig hkl
      have h3 := St.scanR_yes s.data.toList k done cur dig hkl
      rw [hsc, lget s k hlt] at h1 h2 h3
      have hb8 := (s[k]'hlt).toNat_lt
      clear hsc
      by_cases h32 : (s[k]'hlt) = 32
      · have HS2 := Lib.hid (h1 h32).symm
        have c32 : (((s[k]'hlt).toNat : Int) == 32) = true := by rw [h32]; rfl
        clear h1 h2 h3 h32
        go_wp2_with fail
        go_roundw
        case rel =>
          refine ⟨k + 1, done ++ [cur], 0, 0, A + 1, hlt, by go_num, by go_num, rfl, by simp [hA], HS2.out, by decide, by decide, by omega, ?_, HR.out, HB.out⟩
          rw [St.arr_zero]; exact HA.out
        case measure => simp [intOf]; omega
      · have c32 : (((s[k]'hlt).toNat : Int) == 32) = false := by
          apply Bool.eq_false_iff.2
          intro e
          apply h32
          have := beq_iff_eq.1 e
          apply UInt8.toNat_inj.1
          show _ = 32
          omega
        by_cases hok : done.length ≤ 4 ∧ St.isDig (s[k]'hlt) = true ∧ dig < 13
        · have HS2 := Lib.hid (h3 h32 hok).symm
          have hdg : 48 ≤ (s[k]'hlt).toNat ∧ (s[k]'hlt).toNat ≤ 57 := of_decide_eq_true hok.2.1
          obtain ⟨hd4, -, hd13⟩ := hok
          have c1 : ¬ ((4 : Int) < (A : Int)) := by omega
          have c2 : ¬ (((s[k]'hlt).toNat : Int) < 48) := by omega
          have c3 : ¬ ((57 : Int) < ((s[k]'hlt).toNat : Int)) := by omega
          have c4 : ¬ ((13 : Int) < (dig : Int) + 1) := by omega
          have HPW := Lib.hid (show 10 * cur + ((s[k]'hlt).toNat - 48) < 10 ^ (dig + 1) by rw [Nat.pow_succ]; omega)
          have hp13 : (10 : Nat) ^ dig ≤ 10 ^ 13 := Nat.pow_le_pow_right (by decide) hdig
          have hten : (10 : Nat) ^ 13 = 10000000000000 := by decide
          have hcb : (cur : Int) < 10000000000000 := by omega
          have HV := Lib.hid (show 10 * (cur : Int) + ((s[k]'hlt).toNat : Int) - 48 = ((10 * cur + ((s[k]'hlt).toNat - 48) : Nat) : Int) by omega)
          have hnn : (0 : Int) ≤ 10 * (cur : Int) + ((s[k]'hlt).toNat : Int) - 48 := by omega
          have hge : (48 : Int) ≤ ((s[k]'hlt).toNat : Int) := by omega
          have hle : ((s[k]'hlt).toNat : Int) ≤ 57 := by omega
          clear h1 h2 h3 h32 hpw hp13 hdg hten
          rcases done with _ | ⟨a1, _ | ⟨a2, _ | ⟨a3, _ | ⟨a4, _ | ⟨a5, rest⟩⟩⟩⟩⟩
          · have d1 : ∀ x : Later wr, x.at.cell? ⟨q2, 0, none⟩ = some (.int .i64 (cur : Int)) := fun x => x.cell (HA.out.cell 0)
            obtain rfl : A = 0 := hA.symm
            go_wp2_with fail
            refine region_later 12 (by kernel_rfl) (by kernel_rfl) ?_
            simp only [List.take_succ_cons, List.take_zero, List.drop_succ_cons, List.drop_zero]
            repeat (go_big_quiet_step (fail))
            refine wpQuiet_nil ?_
            rintro w' ⟨x, rfl⟩
            have hb4 := x.below
            have HA4 := Lib.hid (HA.out.below hb4 HA.out.lt)
            have HR4 := Lib.hid (HR.out.below hb4 HR.out.lt)
            have HB4 := Lib.hid (HB.out.trans (hb4.mono HB.out.size))
            clear d1
            generalize x.at = w4 at *
            clear hb4 HA HR HB
            have z := HA4.out.cell 0
            have f := HA4.out.free 0
            simp only [St.arr, List.getElem?_toArray, List.getElem?_cons_zero, List.getElem?_cons_succ] at z
            go_wp2_with fail
            go_roundw
            case rel =>
              have HA5 := HA4.out.setCell 0 (.int .i64 (10 * (cur : Int) + ((s[k]'hlt).toNat : Int) - 48))
              have HR5 := HR4.out.setCell_other ⟨q2, 0, none⟩ (.int .i64 (10 * (cur : Int) + ((s[k]'hlt).toNat : Int) - 48)) hqq
              rw [HV.out] at HA5 HR5
              refine ⟨k + 1, [], 10 * cur + ((s[k]'hlt).toNat - 48), dig + 1, 0, hlt, by go_num, rfl, by go_num, rfl, HS2.out, HPW.out, by omega, by omega, ?_, ?_, ?_⟩
              · rw [HV.out]; exact HA5
              · rw [HV.out]; exact HR5
              · exact bset1 HB4.out q2 0 hq2w _
            case measure => simp [intOf]; omega
          · have d1 : ∀ x : Later wr, x.at.cell? ⟨q2, 1, none⟩ = some (.int .i64 (cur : Int)) := fun x => x.cell (HA.out.cell 1)
            obtain rfl : A = 1 := hA.symm
            go_wp2_with fail
            refine region_later 12 (by kernel_rfl) (by kernel_rfl) ?_
            simp only [List.take_succ_cons, List.take_zero, List.drop_succ_cons, List.drop_zero]
            repeat (go_big_quiet_step (fail))
            refine wpQuiet_nil ?_
            rintro w' ⟨x, rfl⟩
            have hb4 := x.below
            have HA4 := Lib.hid (HA.out.below hb4 HA.out.lt)
            have HR4 := Lib.hid (HR.out.below hb4 HR.out.lt)
            have HB4 := Lib.hid (HB.out.trans (hb4.mono HB.out.size))
            clear d1
            generalize x.at = w4 at *
            clear hb4 HA HR HB
            have z := HA4.out.cell 1
            have f := HA4.out.free 1
            simp only [St.arr, List.getElem?_toArray, List.getElem?_cons_zero, List.getElem?_cons_succ] at z
            go_wp2_with fail
            go_roundw
            case rel =>
              have HA5 := HA4.out.setCell 1 (.int .i64 (10 * (cur : Int) + ((s[k]'hlt).toNat : Int) - 48))
              have HR5 := HR4.out.setCell_other ⟨q2, 1, none⟩ (.int .i64 (10 * (cur : Int) + ((s[k]'hlt).toNat : Int) - 48)) hqq
              rw [HV.out] at HA5 HR5
              refine ⟨k + 1, [a1], 10 * cur + ((s[k]'hlt).toNat - 48), dig + 1, 1, hlt, by go_num, rfl, by go_num, rfl, HS2.out, HPW.out, by omega, by omega, ?_, ?_, ?_⟩
              · rw [HV.out]; exact HA5
              · rw [HV.out]; exact HR5
              · exact bset1 HB4.out q2 1 hq2w _
            case measure => simp [intOf]; omega
          · have d1 : ∀ x : Later wr, x.at.cell? ⟨q2, 2, none⟩ = some (.int .i64 (cur : Int)) := fun x => x.cell (HA.out.cell 2)
            obtain rfl : A = 2 := hA.symm
            go_wp2_with fail
            refine region_later 12 (by kernel_rfl) (by kernel_rfl) ?_
            simp only [List.take_succ_cons, List.take_zero, List.drop_succ_cons, List.drop_zero]
            repeat (go_big_quiet_step (fail))
            refine wpQuiet_nil ?_
            rintro w' ⟨x, rfl⟩
            have hb4 := x.below
            have HA4 := Lib.hid (HA.out.below hb4 HA.out.lt)
            have HR4 := Lib.hid (HR.out.below hb4 HR.out.lt)
            have HB4 := Lib.hid (HB.out.trans (hb4.mono HB.out.size))
            clear d1
            generalize x.at = w4 at *
            clear hb4 HA HR HB
            have z := HA4.out.cell 2
            have f := HA4.out.free 2
            simp only [St.arr, List.getElem?_toArray, List.getElem?_cons_zero, List.getElem?_cons_succ] at z
            go_wp2_with fail
            go_roundw
            case rel =>
              have HA5 := HA4.out.setCell 2 (.int .i64 (10 * (cur : Int) + ((s[k]'hlt).toNat : Int) - 48))
              have HR5 := HR4.out.setCell_other ⟨q2, 2, none⟩ (.int .i64 (10 * (cur : Int) + ((s[k]'hlt).toNat : Int) - 48)) hqq
              rw [HV.out] at HA5 HR5
              refine ⟨k + 1, [a1, a2], 10 * cur + ((s[k]'hlt).toNat - 48), dig + 1, 2, hlt, by go_num, rfl, by go_num, rfl, HS2.out, HPW.out, by omega, by omega, ?_, ?_, ?_⟩
              · rw [HV.out]; exact HA5
              · rw [HV.out]; exact HR5
              · exact bset1 HB4.out q2 2 hq2w _
            case measure => simp [intOf]; omega
          · have d1 : ∀ x : Later wr, x.at.cell? ⟨q2, 3, none⟩ = some (.int .i64 (cur : Int)) := fun x => x.cell (HA.out.cell 3)
            obtain rfl : A = 3 := hA.symm
            go_wp2_with fail
            refine region_later 12 (by kernel_rfl) (by kernel_rfl) ?_
            simp only [List.take_succ_cons, List.take_zero, List.drop_succ_cons, List.drop_zero]
            repeat (go_big_quiet_step (fail))
            refine wpQuiet_nil ?_
            rintro w' ⟨x, rfl⟩
            have hb4 := x.below
            have HA4 := Lib.hid (HA.out.below hb4 HA.out.lt)
            have HR4 := Lib.hid (HR.out.below hb4 HR.out.lt)
            have HB4 := Lib.hid (HB.out.trans (hb4.mono HB.out.size))
            clear d1
            generalize x.at = w4 at *
            clear hb4 HA HR HB
            have z := HA4.out.cell 3
            have f := HA4.out.free 3
            simp only [St.arr, List.getElem?_toArray, List.getElem?_cons_zero, List.getElem?_cons_succ] at z
            go_wp2_with fail
            go_roundw
            case rel =>
              have HA5 := HA4.out.setCell 3 (.int .i64 (10 * (cur : Int) + ((s[k]'hlt).toNat : Int) - 48))
              have HR5 := HR4.out.setCell_other ⟨q2, 3, none⟩ (.int .i64 (10 * (cur : Int) + ((s[k]'hlt).toNat : Int) - 48)) hqq
              rw [HV.out] at HA5 HR5
              refine ⟨k + 1, [a1, a2, a3], 10 * cur + ((s[k]'hlt).toNat - 48), dig + 1, 3, hlt, by go_num, rfl, by go_num, rfl, HS2.out, HPW.out, by omega, by omega, ?_, ?_, ?_⟩
              · rw [HV.out]; exact HA5
              · rw [HV.out]; exact HR5
              · exact bset1 HB4.out q2 3 hq2w _
            case measure => simp [intOf]; omega
          · have d1 : ∀ x : Later wr, x.at.cell? ⟨q2, 4, none⟩ = some (.int .i64 (cur : Int)) := fun x => x.cell (HA.out.cell 4)
            obtain rfl : A = 4 := hA.symm
            go_wp2_with fail
            refine region_later 12 (by kernel_rfl) (by kernel_rfl) ?_
            simp only [List.take_succ_cons, List.take_zero, List.drop_succ_cons, List.drop_zero]
            repeat (go_big_quiet_step (fail))
            refine wpQuiet_nil ?_
            rintro w' ⟨x, rfl⟩
            have hb4 := x.below
            have HA4 := Lib.hid (HA.out.below hb4 HA.out.lt)
            have HR4 := Lib.hid (HR.out.below hb4 HR.out.lt)
            have HB4 := Lib.hid (HB.out.trans (hb4.mono HB.out.size))
            clear d1
            generalize x.at = w4 at *
            clear hb4 HA HR HB
            have z := HA4.out.cell 4
            have f := HA4.out.free 4
            simp only [St.arr, List.getElem?_toArray, List.getElem?_cons_zero, List.getElem?_cons_succ] at z
            go_wp2_with fail
            go_roundw
            case rel =>
              have HA5 := HA4.out.setCell 4 (.int .i64 (10 * (cur : Int) + ((s[k]'hlt).toNat : Int) - 48))
              have HR5 := HR4.out.setCell_other ⟨q2, 4, none⟩ (.int .i64 (10 * (cur : Int) + ((s[k]'hlt).toNat : Int) - 48)) hqq
              rw [HV.out] at HA5 HR5
              refine ⟨k + 1, [a1, a2, a3, a4], 10 * cur + ((s[k]'hlt).toNat - 48), dig + 1, 4, hlt, by go_num, rfl, by go_num, rfl, HS2.out, HPW.out, by omega, by omega, ?_, ?_, ?_⟩
              · rw [HV.out]; exact HA5
              · rw [HV.out]; exact HR5
              · exact bset1 HB4.out q2 4 hq2w _
            case measure => simp [intOf]; omega
          · exfalso; simp at hd4
        · have HN0 := h2 h32 hok
          rw [HN0] at HPS
          have HN := Lib.hid (show P = none from HPS.out)
          have HF : 4 < A ∨ (s[k]'hlt).toNat < 48 ∨ 57 < (s[k]'hlt).toNat ∨ 13 ≤ dig := by
            apply Classical.byContradiction
            intro h
            exact hok ⟨by omega, decide_eq_true (by omega), by omega⟩
          clear h1 h2 h3 h32 hok HN0
          by_cases g1 : 4 < A
          · have c1 : (4 : Int) < (A : Int) := by omega
            clear HF
            have z0 := HR.out.cell 0; have z1 := HR.out.cell 1; have z2 := HR.out.cell 2; have z3 := HR.out.cell 3; have z4 := HR.out.cell 4; have z5 := HR.out.cell 5
            have f0 := HR.out.free 0; have f1 := HR.out.free 1; have f2 := HR.out.free 2; have f3 := HR.out.free 3; have f4 := HR.out.free 4; have f5 := HR.out.free 5
            simp only [List.getElem?_toArray, List.getElem?_cons_zero, List.getElem?_cons_succ] at z0 z1 z2 z3 z4 z5
            have hlt := HR.out.lt
            go_wp2
            ((try simp only [Exit.inBlock, Exit.then]); refine bodyPost_ret (v := (.agg #[.int .i64 0, .int .i64 0, .int .i64 0, .int .i64 0, .int .i64 0, .bool false])) ?_ rfl ⟨?_, ?_⟩; (rw [results_cell1 rfl]; go_simp))
            · rw [HN.out]; rfl
            · exact bset6 HB.out hqw _ _ _ _ _ _
          · have c1 : ¬ (4 : Int) < (A : Int) := by omega
            by_cases g2 : (s[k]'hlt).toNat < 48
            · have c2 : ((s[k]'hlt).toNat : Int) < 48 := by omega
              clear HF
              have z0 := HR.out.cell 0; have z1 := HR.out.cell 1; have z2 := HR.out.cell 2; have z3 := HR.out.cell 3; have z4 := HR.out.cell 4; have z5 := HR.out.cell 5
              have f0 := HR.out.free 0; have f1 := HR.out.free 1; have f2 := HR.out.free 2; have f3 := HR.out.free 3; have f4 := HR.out.free 4; have f5 := HR.out.free 5
              simp only [List.getElem?_toArray, List.getElem?_cons_zero, List.getElem?_cons_succ] at z0 z1 z2 z3 z4 z5
              have hlt := HR.out.lt
              go_wp2
              ((try simp only [Exit.inBlock, Exit.then]); refine bodyPost_ret (v := (.agg #[.int .i64 0, .int .i64 0, .int .i64 0, .int .i64 0, .int .i64 0, .bool false])) ?_ rfl ⟨?_, ?_⟩; (rw [results_cell1 rfl]; go_simp))
              · rw [HN.out]; rfl
              · exact bset6 HB.out hqw _ _ _ _ _ _
            · have c2 : ¬ ((s[k]'hlt).toNat : Int) < 48 := by omega
              by_cases g3 : 57 < (s[k]'hlt).toNat
              · have c3 : (57 : Int) < ((s[k]'hlt).toNat : Int) := by omega
                clear HF
                have z0 := HR.out.cell 0; have z1 := HR.out.cell 1; have z2 := HR.out.cell 2; have z3 := HR.out.cell 3; have z4 := HR.out.cell 4; have z5 := HR.out.cell 5
                have f0 := HR.out.free 0; have f1 := HR.out.free 1; have f2 := HR.out.free 2; have f3 := HR.out.free 3; have f4 := HR.out.free 4; have f5 := HR.out.free 5
                simp only [List.getElem?_toArray, List.getElem?_cons_zero, List.getElem?_cons_succ] at z0 z1 z2 z3 z4 z5
                have hlt := HR.out.lt
                go_wp2
                ((try simp only [Exit.inBlock, Exit.then]); refine bodyPost_ret (v := (.agg #[.int .i64 0, .int .i64 0, .int .i64 0, .int .i64 0, .int .i64 0, .bool false])) ?_ rfl ⟨?_, ?_⟩; (rw [results_cell1 rfl]; go_simp))
                · rw [HN.out]; rfl
                · exact bset6 HB.out hqw _ _ _ _ _ _
              · have c3 : ¬ (57 : Int) < ((s[k]'hlt).toNat : Int) := by omega
                have c4 : (13 : Int) < (dig : Int) + 1 := by omega
                clear HF
                have z0 := HR.out.cell 0; have z1 := HR.out.cell 1; have z2 := HR.out.cell 2; have z3 := HR.out.cell 3; have z4 := HR.out.cell 4; have z5 := HR.out.cell 5
                have f0 := HR.out.free 0; have f1 := HR.out.free 1; have f2 := HR.out.free 2; have f3 := HR.out.free 3; have f4 := HR.out.free 4; have f5 := HR.out.free 5
                simp only [List.getElem?_toArray, List.getElem?_cons_zero, List.getElem?_cons_succ] at z0 z1 z2 z3 z4 z5
                have hlt := HR.out.lt
                go_wp2
                ((try simp only [Exit.inBlock, Exit.then]); refine bodyPost_ret (v := (.agg #[.int .i64 0, .int .i64 0, .int .i64 0, .int .i64 0, .int .i64 0, .bool false])) ?_ rfl ⟨?_, ?_⟩; (rw [results_cell1 rfl]; go_simp))
                · rw [HN.out]; rfl
                · exact bset6 HB.out hqw _ _ _ _ _ _
    · have hlt' : ¬ (k : Int) < (s.size : Int) := by omega
      rw [St.scanR_end _ _ _ _ _ (by rw [llen]; omega), hA] at hsc
      by_cases h4 : A = 4
      · rw [if_pos h4] at hsc
        rw [← hsc] at HPS
        have HP := Lib.hid (show P = if St.may (St.numsOf (done ++ [cur])) = true ∧ St.textL (St.numsOf (done ++ [cur])) = s.data.toList then some (St.numsOf (done ++ [cur])) else none from HPS.out)
        have HA2 := Lib.hid (show Has wr q2 #[.int .i64 (St.numsOf (done ++ [cur])).at', .int .i64 (St.numsOf (done ++ [cur])).jobs, .int .i64 (St.numsOf (done ++ [cur])).used, .int .i64 (St.numsOf (done ++ [cur])).limit, .int .i64 (St.numsOf (done ++ [cur])).left] 28 from HA.out)
        subst h4
        clear HPS hsc HA
        generalize St.numsOf (done ++ [cur]) = n at *
        have HMN := Lib.hid (fun w => HMT.out n w)
        have HTN := Lib.hid (fun h w => HTT.out n h w)
        clear HMT HTT hpw hdig hAk hA300
        obtain ⟨a, b, c, d, e⟩ := n
        simp only at *
        have z0 := HA2.out.cell 0; have z1 := HA2.out.cell 1; have z2 := HA2.out.cell 2; have z3 := HA2.out.cell 3; have z4 := HA2.out.cell 4
        simp only [List.getElem?_toArray, List.getElem?_cons_zero, List.getElem?_cons_succ] at z0 z1 z2 z3 z4
        go_wp2_with fail
        (with_reducible refine (HMN.out _).mono ?_)
        rintro r5 w5 ⟨rfl, hb5⟩
        have HA5 := Lib.hid (HA2.out.below hb5 HA2.out.lt)
        have HR5 := Lib.hid (HR.out.below hb5 HR.out.lt)
        have HB5 := Lib.hid (HB.out.trans (hb5.mono HB.out.size))
        clear z0 z1 z2 z3 z4 hb5 HA2 HR HB HMN
        by_cases hm : St.may ⟨a, b, c, d, e⟩ = true
        · have HT := Lib.hid (fun w => HTN.out hm w)
          rw [hm]
          have z0 := HA5.out.cell 0; have z1 := HA5.out.cell 1; have z2 := HA5.out.cell 2; have z3 := HA5.out.cell 3; have z4 := HA5.out.cell 4
          simp only [List.getElem?_toArray, List.getElem?_cons_zero, List.getElem?_cons_succ] at z0 z1 z2 z3 z4
          by_cases ht : St.textL ⟨a, b, c, d, e⟩ = s.data.toList
          · have HN := Lib.hid (show P = some ⟨a, b, c, d, e⟩ by rw [HP.out, if_pos ⟨hm, ht⟩])
            have hse : Fr.bs (St.textL ⟨a, b, c, d, e⟩) = s := by rw [ht, Fr.bs_list]
            rw [hse] at HT
            clear HTN HP hm ht hse
            go_wp2_with fail
            with_reducible refine (HT.out _).mono ?_
            rintro r6 w6 ⟨rfl, hb6⟩
            have HA6 := Lib.hid (HA5.out.below hb6 HA5.out.lt)
            have HR := Lib.hid (HR5.out.below hb6 HR5.out.lt)
            have HB := Lib.hid (HB5.out.trans (hb6.mono HB5.out.size))
            clear z0 z1 z2 z3 z4 hb6 HA5 HR5 HB5 HT
            have p0 := HA6.out.cell 0; have p1 := HA6.out.cell 1; have p2 := HA6.out.cell 2; have p3 := HA6.out.cell 3; have p4 := HA6.out.cell 4
            simp only [List.getElem?_toArray, List.getElem?_cons_zero, List.getElem?_cons_succ] at p0 p1 p2 p3 p4
            have hst : (s.toList == s.toList) = true := by simp
            have z0 := HR.out.cell 0; have z1 := HR.out.cell 1; have z2 := HR.out.cell 2; have z3 := HR.out.cell 3; have z4 := HR.out.cell 4; have z5 := HR.out.cell 5
            have f0 := HR.out.free 0; have f1 := HR.out.free 1; have f2 := HR.out.free 2; have f3 := HR.out.free 3; have f4 := HR.out.free 4; have f5 := HR.out.free 5
            simp only [List.getElem?_toArray, List.getElem?_cons_zero, List.getElem?_cons_succ] at z0 z1 z2 z3 z4 z5
            have hlt := HR.out.lt
            go_wp2
            ((try simp only [Exit.inBlock, Exit.then]); refine bodyPost_ret (v := (.agg #[.int .i64 a, .int .i64 b, .int .i64 c, .int .i64 d, .int .i64 e, .bool true])) ?_ rfl ⟨?_, ?_⟩; (rw [results_cell1 rfl]; go_simp))
            · rw [HN.out]; rfl
            · exact bset6 HB.out hqw _ _ _ _ _ _
          · have HN := Lib.hid (show P = none by rw [HP.out, if_neg (fun h => ht h.2)])
            have hbb := str_ne (a := Fr.bs (St.textL ⟨a, b, c, d, e⟩)) (b := s) (fun h => ht (by rw [← h, Fr.list_bs]))
            generalize Fr.bs (St.textL ⟨a, b, c, d, e⟩) = X at *
            clear HTN HP hm ht
            go_wp2_with fail
            with_reducible refine (HT.out _).mono ?_
            rintro r6 w6 ⟨rfl, hb6⟩
            have HR := Lib.hid (HR5.out.below hb6 HR5.out.lt)
            have HB := Lib.hid (HB5.out.trans (hb6.mono HB5.out.size))
            clear z0 z1 z2 z3 z4 hb6 HA5 HR5 HB5 HT
            have z0 := HR.out.cell 0; have z1 := HR.out.cell 1; have z2 := HR.out.cell 2; have z3 := HR.out.cell 3; have z4 := HR.out.cell 4; have z5 := HR.out.cell 5
            have f0 := HR.out.free 0; have f1 := HR.out.free 1; have f2 := HR.out.free 2; have f3 := HR.out.free 3; have f4 := HR.out.free 4; have f5 := HR.out.free 5
            simp only [List.getElem?_toArray, List.getElem?_cons_zero, List.getElem?_cons_succ] at z0 z1 z2 z3 z4 z5
            have hlt := HR.out.lt
            go_wp2
            ((try simp only [Exit.inBlock, Exit.then]); refine bodyPost_ret (v := (.agg #[.int .i64 0, .int .i64 0, .int .i64 0, .int .i64 0, .int .i64 0, .bool false])) ?_ rfl ⟨?_, ?_⟩; (rw [results_cell1 rfl]; go_simp))
            · rw [HN.out]; rfl
            · exact bset6 HB.out hqw _ _ _ _ _ _
        · have HN := Lib.hid (show P = none by rw [HP.out, if_neg (fun h => hm h.1)])
          have hm2 : St.may ⟨a, b, c, d, e⟩ = false := by simpa using hm
          rw [hm2]
          have HR := HR5
          have HB := HB5
          clear HTN HP hm hm2
          have z0 := HR.out.cell 0; have z1 := HR.out.cell 1; have z2 := HR.out.cell 2; have z3 := HR.out.cell 3; have z4 := HR.out.cell 4; have z5 := HR.out.cell 5
          have f0 := HR.out.free 0; have f1 := HR.out.free 1; have f2 := HR.out.free 2; have f3 := HR.out.free 3; have f4 := HR.out.free 4; have f5 := HR.out.free 5
          simp only [List.getElem?_toArray, List.getElem?_cons_zero, List.getElem?_cons_succ] at z0 z1 z2 z3 z4 z5
          have hlt := HR.out.lt
          go_wp2
          ((try simp only [Exit.inBlock, Exit.then]); refine bodyPost_ret (v := (.agg #[.int .i64 0, .int .i64 0, .int .i64 0, .int .i64 0, .int .i64 0, .bool false])) ?_ rfl ⟨?_, ?_⟩; (rw [results_cell1 rfl]; go_simp))
          · rw [HN.out]; rfl
          · exact bset6 HB.out hqw _ _ _ _ _ _
      · rw [if_neg h4] at hsc
        rw [← hsc] at HPS
        have HN := Lib.hid (show P = none from HPS.out)
        have c4 : ¬ (A : Int) = 4 := by omega
        have c4' : ((A : Int) == 4) = false := by simp; omega
        clear hsc h4
        have z0 := HR.out.cell 0; have z1 := HR.out.cell 1; have z2 := HR.out.cell 2; have z3 := HR.out.cell 3; have z4 := HR.out.cell 4; have z5 := HR.out.cell 5
        have f0 := HR.out.free 0; have f1 := HR.out.free 1; have f2 := HR.out.free 2; have f3 := HR.out.free 3; have f4 := HR.out.free 4; have f5 := HR.out.free 5
        simp only [List.getElem?_toArray, List.getElem?_cons_zero, List.getElem?_cons_succ] at z0 z1 z2 z3 z4 z5
        have hlt := HR.out.lt
        go_wp2
        ((try simp only [Exit.inBlock, Exit.then]); refine bodyPost_ret (v := (.agg #[.int .i64 0, .int .i64 0, .int .i64 0, .int .i64 0, .int .i64 0, .bool false])) ?_ rfl ⟨?_, ?_⟩; (rw [results_cell1 rfl]; go_simp))
        · rw [HN.out]; rfl
        · exact bset6 HB.out hqw _ _ _ _ _ _
end Go.Proofs.YtcogndjfalomjaaDoor
