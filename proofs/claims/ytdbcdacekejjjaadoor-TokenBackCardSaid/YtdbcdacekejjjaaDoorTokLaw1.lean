/- The small case of the laws of texts. -/
import Derived.Test.YtdbcdacekejjjaaDoorTokWalk4
namespace Go.Proofs.YtdbcdacekejjjaaDoor
open Go.RowKit
set_option linter.unusedVariables false
set_option linter.unusedSimpArgs false

theorem four_1 : (Tk.runes (⟨#[97, 195, 169, 255]⟩ : ByteArray).data.toList).map intV = [.int .i64 97, .int .i64 233, .int .i64 (-1)] := by kernel_rfl
theorem four_2 : maskB (⟨#[97, 98, 99]⟩ : ByteArray) = ⟨#[97, 42, 42]⟩ := by kernel_rfl
theorem four_3 : wordB (⟨#[107, 101, 121, 45, 195, 169]⟩ : ByteArray).data.toList = true := by kernel_rfl
theorem four_4 : wordB (⟨#[97, 58, 98]⟩ : ByteArray).data.toList = false := by kernel_rfl
theorem four_5 : (⟨#[97, 195, 169, 98]⟩ : ByteArray).extract 0 (cutN (Tk.runes (⟨#[97, 195, 169, 98]⟩ : ByteArray).data.toList) 2) = ⟨#[97, 195, 169]⟩ := by kernel_rfl
theorem four_n : (Tk.runes (⟨#[97, 195, 169, 255]⟩ : ByteArray).data.toList).length = 3 := by kernel_rfl
set_option maxRecDepth 100000 in
set_option maxHeartbeats 1600000 in
theorem tfour_walk (w : World) (hT : Tabs w) : Calls Tryd.prog 9 #[] w fun e w' => e = .returned (.bool true) ∧ Below w.heap.size w w' := by
  have HT := Lib.hid hT
  clear hT
  have H1 := Lib.hid (runes_walk (⟨#[97, 195, 169, 255]⟩ : ByteArray) w HT.out (by decide))
  rw [four_1, four_n] at H1
  have H2 := Lib.hid (fun w => masked_walk (⟨#[97, 98, 99]⟩ : ByteArray) w (by decide))
  rw [four_2] at H2
  have H3 := Lib.hid (fun w h => is_walk (⟨#[107, 101, 121, 45, 195, 169]⟩ : ByteArray) w h (by decide))
  rw [four_3] at H3
  have H4 := Lib.hid (fun w h => is_walk (⟨#[97, 58, 98]⟩ : ByteArray) w h (by decide))
  rw [four_4] at H4
  have H5 := Lib.hid (fun w => cut_walk (⟨#[97, 195, 169, 98]⟩ : ByteArray) 2 w (by decide) (by decide))
  rw [four_5] at H5
  go_enter Tryd.func9, Tryd.ntmps9
  go_wp2_with fail
  (with_reducible refine (H1.out).mono ?_)
  rintro e w1 ⟨v, rfl, ho, hb1⟩
  obtain ⟨a, c, rfl, hr1, -⟩ := rowAt_owns ho
  have HB1 := Lib.hid hb1
  have HA1 := Lib.hid (hr1.keep ((Below.refl _ _).alloc (Nat.le_refl _) (.cells #[.int .i64 97, .int .i64 233, .int .i64 (-1)] 3)))
  have HA2 := Lib.hid (rowAt_lit w1 [.int .i64 97, .int .i64 233, .int .i64 (-1)] 3 (by decide))
  have HBA := Lib.hid (HB1.out.alloc HB1.out.size (.cells #[.int .i64 97, .int .i64 233, .int .i64 (-1)] 3))
  have HIN := Lib.hid (ints_walk a (some ⟨w1.heap.size, 0, none⟩) 3 c 3 _ (w1.alloc (.cells #[.int .i64 97, .int .i64 233, .int .i64 (-1)] 3)) HA1.out HA2.out (fun i hi => by
    rcases (by omega : i = 0 ∨ i = 1 ∨ i = 2) with rfl | rfl | rfl
    · exact ⟨97, rfl⟩
    · exact ⟨233, rfl⟩
    · exact ⟨-1, rfl⟩) (by decide))
  clear ho hr1 hb1 H1 HA1 HA2
  go_wp2_with fail
  (with_reducible refine (HIN.out).mono ?_)
  rintro e w2 ⟨rfl, hb2⟩
  have HB2 := Lib.hid (HBA.out.trans (hb2.mono HBA.out.size))
  clear hb2 HIN
  go_wp2_with fail
  (with_reducible refine (H2.out _).mono ?_)
  rintro e w3 ⟨rfl, hb3⟩
  have HB3 := Lib.hid (HB2.out.trans (hb3.mono HB2.out.size))
  clear hb3
  go_wp2_with fail
  (with_reducible refine (H3.out _ (HT.out.keep HB3.out)).mono ?_)
  rintro e w4 ⟨rfl, hb4⟩
  have HB4 := Lib.hid (HB3.out.trans (hb4.mono HB3.out.size))
  clear hb4
  go_wp2_with fail
  (with_reducible refine (H4.out _ (HT.out.keep HB4.out)).mono ?_)
  rintro e w5 ⟨rfl, hb5⟩
  have HB5 := Lib.hid (HB4.out.trans (hb5.mono HB4.out.size))
  clear hb5
  go_wp2_with fail
  (with_reducible refine (H5.out _).mono ?_)
  rintro e w6 ⟨rfl, hb6⟩
  have HB6 := Lib.hid (HB5.out.trans (hb6.mono HB5.out.size))
  clear hb6
  go_wp2
  go_ret
  exact ⟨rfl, HB6.out⟩
theorem str_eq (a b : ByteArray) : (a.toList == b.toList) = decide (a = b) := by
  rw [Bool.eq_iff_iff, decide_eq_true_eq, beq_iff_eq, ByteArray.toList_eq, ByteArray.toList_eq]
  constructor
  · intro h
    apply ByteArray.ext
    exact Array.toList_inj.1 h
  · rintro rfl; rfl
set_option maxRecDepth 100000 in
set_option maxHeartbeats 400000 in
theorem tokenSame_walk (a b : ByteArray) (w : World) (_ : a.size ≤ maxLen) (_ : b.size ≤ maxLen) (hT : Tabs w) : Calls Tryd.prog 6 #[.string a, .string b] w fun e w' => e = .returned (.bool true) ∧ Below w.heap.size w w' := by
  have HT := Lib.hid hT
  clear hT
  by_cases ha : 1000 < a.size
  · have ha' : (1000 : Int) < (a.size : Int) := by omega
    clear ha
    go_enter Tryd.func6, Tryd.ntmps6
    go_wp2_with fail
    (with_reducible refine (tfour_walk _ HT.out).mono ?_)
    rintro e w1 ⟨rfl, hb1⟩
    go_wp2
    go_ret
    exact ⟨rfl, hb1⟩
  · have ha' : ¬ (1000 : Int) < (a.size : Int) := by omega
    by_cases hb : 1000 < b.size
    · have hb' : (1000 : Int) < (b.size : Int) := by omega
      clear ha hb
      go_enter Tryd.func6, Tryd.ntmps6
      go_wp2_with fail
      (with_reducible refine (tfour_walk _ HT.out).mono ?_)
      rintro e w1 ⟨rfl, hb1⟩
      go_wp2
      go_ret
      exact ⟨rfl, hb1⟩
    · have hb' : ¬ (1000 : Int) < (b.size : Int) := by omega
      have H1 := Lib.hid (fun w => tsame_walk a b w (by omega) (by omega))
      have H2 := Lib.hid (fun w => tsame_walk a a w (by omega) (by omega))
      rw [decide_eq_true (rfl : a = a)] at H2
      have hq := str_eq a b
      generalize decide (a = b) = D at *
      clear ha hb
      go_enter Tryd.func6, Tryd.ntmps6
      go_wp2_with fail
      (with_reducible refine (H1.out _).mono ?_)
      rintro e w1 ⟨rfl, hb1⟩
      have HB1 := Lib.hid hb1
      go_wp2_with fail
      (with_reducible refine (H2.out _).mono ?_)
      rintro e w2 ⟨rfl, hb2⟩
      have HB2 := Lib.hid (HB1.out.trans (hb2.mono HB1.out.size))
      clear hb1 hb2
      go_wp2_with fail
      (with_reducible refine (tfour_walk _ (HT.out.keep HB2.out)).mono ?_)
      rintro e w3 ⟨rfl, hb3⟩
      have HB3 := Lib.hid (HB2.out.trans (hb3.mono HB2.out.size))
      clear hb3
      go_wp2
      go_ret
      exact ⟨rfl, HB3.out⟩
end Go.Proofs.YtdbcdacekejjjaaDoor
