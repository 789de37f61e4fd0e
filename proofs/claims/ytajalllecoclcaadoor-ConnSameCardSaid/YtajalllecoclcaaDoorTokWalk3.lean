/- Texts rune by rune: Is, the reference's Word, Cut, Masked, Same, balerplain.Ints. -/
import Derived.Test.YtajalllecoclcaaDoorTokWalk2
namespace Go.Proofs.YtajalllecoclcaaDoor
open Go.RowKit
set_option linter.unusedVariables false
set_option linter.unusedSimpArgs false

theorem ret_bool {a b : Bool} (h : a = b) : Ending.returned (.bool a) = .returned (.bool b) := by rw [h]
def allMay (R : List (Int × Nat)) : Bool := R.all fun q => mayB q.1
theorem badAt_all : ∀ (R : List (Int × Nat)) (p : Nat), allMay R = true → badAt R p = (0, -1)
  | [], _, _ => rfl
  | q :: R, p, h => by
    unfold allMay at h
    rw [List.all_cons, Bool.and_eq_true] at h
    unfold badAt
    rw [if_pos h.1]
    exact badAt_all R _ h.2
theorem badAt_some : ∀ (R : List (Int × Nat)) (p : Nat), allMay R = false → 0 ≤ (badAt R p).2
  | [], _, h => by cases h
  | q :: R, p, h => by
    unfold badAt
    by_cases hq : mayB q.1 = true
    · rw [if_pos hq]
      refine badAt_some R _ ?_
      unfold allMay at h ⊢
      rw [List.all_cons, hq, Bool.true_and] at h
      exact h
    · rw [if_neg hq]; exact Int.natCast_nonneg p
/-- is a text a word? -/
def wordB (l : List UInt8) : Bool := allMay (Tk.runes l) && (decide (0 < l.length) && decide ((Tk.runes l).length ≤ 32))
theorem sempty (s : ByteArray) : s.toList.isEmpty = decide (s.size = 0) := by
  rw [ByteArray.toList_eq, Bool.eq_iff_iff, decide_eq_true_eq, List.isEmpty_iff, ← Fr.size_list]
  exact ⟨fun h => by rw [h]; rfl, fun h => List.eq_nil_of_length_eq_zero h⟩
set_option maxRecDepth 100000 in
set_option maxHeartbeats 800000 in
theorem is_walk (s : ByteArray) (w : World) (hT : Tabs w) (hs : s.size ≤ 1000000) : Calls Tryd.prog 41 #[.string s] w fun e w' => e = .returned (.bool (wordB s.data.toList)) ∧ Below w.heap.size w w' := by
  have HF := Lib.hid (tfirst_walk s w hT hs)
  have HL := Lib.hid (fun w => len_walk s w hs)
  have hw : wordB s.data.toList = (allMay (Tk.runes s.data.toList) && (decide (0 < s.size) && decide ((Tk.runes s.data.toList).length ≤ 32))) := by unfold wordB; rw [llen]
  have hse := sempty s
  have h1 := badAt_all (Tk.runes s.data.toList) 0
  have h2 := badAt_some (Tk.runes s.data.toList) 0
  have hlen := Tk.runes_le s.data.toList
  rw [llen] at hlen
  generalize wordB s.data.toList = W at *
  generalize allMay (Tk.runes s.data.toList) = am at *
  generalize badAt (Tk.runes s.data.toList) 0 = ba at *
  generalize (Tk.runes s.data.toList).length = n at *
  clear hT
  cases am with
  | false =>
    have h2' := h2 rfl
    obtain ⟨b1, b2⟩ := ba
    have e1 : decide (b2 < 0) = false := by simpa using h2'
    rw [Bool.false_and] at hw
    subst hw
    clear h1 h2 h2' hse
    go_enter Tryd.func41, Tryd.ntmps41
    go_wp2_with fail
    (with_reducible refine (HF.out).mono ?_)
    rintro e w1 ⟨rfl, hb1⟩
    go_wp2
    go_ret
    exact ⟨rfl, hb1⟩
  | true =>
    have h1' := h1 rfl
    subst h1'
    clear h1 h2
    by_cases h0 : s.size = 0
    · rw [h0] at hw hse
      have hse' : s.toList.isEmpty = true := hse
      have hw' : W = false := by rw [hw]; rfl
      subst hw'
      clear hw hse h0
      go_enter Tryd.func41, Tryd.ntmps41
      go_wp2_with fail
      (with_reducible refine (HF.out).mono ?_)
      rintro e w1 ⟨rfl, hb1⟩
      go_wp2
      go_ret
      exact ⟨rfl, hb1⟩
    · have hse' : s.toList.isEmpty = false := by rw [hse, decide_eq_false h0]
      rw [decide_eq_true (show 0 < s.size by omega), Bool.true_and, Bool.true_and] at hw
      have HW := Lib.hid hw
      clear hse hw
      have hn : (n : Int) ≤ 1000000 := by omega
      have hd : decide ((n : Int) ≤ 32) = decide (n ≤ 32) := by rw [Bool.eq_iff_iff, decide_eq_true_eq, decide_eq_true_eq]; omega
      generalize decide (n ≤ 32) = D at *
      go_enter Tryd.func41, Tryd.ntmps41
      go_wp2_with fail
      (with_reducible refine (HF.out).mono ?_)
      rintro e w1 ⟨rfl, hb1⟩
      have HB1 := Lib.hid hb1
      go_wp2_with fail
      (with_reducible refine (HL.out _).mono ?_)
      rintro e w2 ⟨rfl, hb2⟩
      have HB2 := Lib.hid (HB1.out.trans (hb2.mono HB1.out.size))
      clear hb1 hb2
      go_wp2
      go_ret
      exact ⟨ret_bool HW.out.symm, HB2.out⟩
theorem allMay_step (R : List (Int × Nat)) (k : Nat) (h : k < R.length) : allMay (R.take (k + 1)) = (allMay (R.take k) && mayB R[k].1) := by
  unfold allMay
  rw [List.take_add_one, List.getElem?_eq_getElem h, List.all_append]
  simp only [Option.toList_some, List.all_cons, List.all_nil, Bool.and_true]
theorem allMay_bad (R : List (Int × Nat)) (k : Nat) (h : k < R.length) (hb : mayB R[k].1 = false) : allMay R = false := by
  unfold allMay
  rw [List.all_eq_false]
  exact ⟨R[k], List.getElem_mem h, by rw [hb]; simp⟩
theorem runes_pos (l : List UInt8) : decide (0 < (Tk.runes l).length) = decide (0 < l.length) := by
  by_cases h : 0 < l.length
  · rw [Tk.runes_cons l h, decide_eq_true h]; simp
  · rw [List.length_eq_zero_iff.1 (by omega : l.length = 0)]; rfl
set_option maxRecDepth 100000 in
set_option maxHeartbeats 1600000 in
theorem word_walk (s : ByteArray) (w : World) (hs : s.size ≤ 100000) : Calls Tryd.prog 47 #[.string s] w fun e w' => e = .returned (.bool (wordB s.data.toList)) ∧ Below w.heap.size w w' := by
  have HR := Lib.hid (fun w => refrunes_walk s w hs)
  have hw : wordB s.data.toList = (allMay (Tk.runes s.data.toList) && (decide (0 < (Tk.runes s.data.toList).length) && decide ((Tk.runes s.data.toList).length ≤ 32))) := by unfold wordB; rw [runes_pos]
  have hlen := Tk.runes_le s.data.toList
  rw [llen] at hlen
  have HW := Lib.hid hw
  clear hw
  generalize wordB s.data.toList = W at *
  generalize Tk.runes s.data.toList = R at *
  go_enter Tryd.func47, Tryd.ntmps47
  go_wp2_with fail
  (with_reducible refine (HR.out _).mono ?_)
  rintro e w1 ⟨v, rfl, ho, hb1⟩
  obtain ⟨a, c, rfl, hr1, -⟩ := rowS_owns ho
  have HR1 := Lib.hid hr1
  have HB1 := Lib.hid hb1
  clear ho hr1 hb1 HR
  have hlb : (R.length : Int) ≤ 100000 := by omega
  go_wp2_with fail
  go_loopw [10] (fun i wr => ∃ k : Nat, i = .int .i64 (k : Int) ∧ k ≤ R.length ∧ allMay (R.take k) = true ∧ Below w1.heap.size w1 wr) (fun i _ => R.length - (intOf i).toNat)
  case atStart => exact ⟨0, rfl, Nat.zero_le _, rfl, Below.refl _ _⟩
  case round =>
    obtain ⟨k, rfl, hk, ham, hbr⟩ := hrel
    have HB := Lib.hid hbr
    by_cases hlt : k < R.length
    · have hlt' : (k : Int) < (R.length : Int) := by omega
      obtain ⟨ab, ao, rfl, hab, hac⟩ := (HR1.out.keep hbr).at k hlt
      have a0 := hac 0 (by decide); have a1 := hac 1 (by decide)
      rw [flat_getR R k 0 hlt (by decide)] at a0
      rw [flat_getR R k 1 hlt (by decide)] at a1
      have HST := Lib.hid (allMay_step R k hlt)
      have HBD := Lib.hid (allMay_bad R k hlt)
      generalize R[k] = q at *
      obtain ⟨q1, q2⟩ := q
      simp only [rnCells, List.getD_cons_zero, List.getD_cons_succ, Nat.add_zero] at a0 a1
      simp only [← Nat.add_assoc] at a1
      have HM := Lib.hid (fun w => tkrefmay_walk q1 w)
      have HAM := Lib.hid ham
      have hkb : (k : Int) ≤ 100000 := by omega
      clear hac hbr ham
      cases hmy : mayB q1 with
      | true =>
        rw [hmy] at HM
        have HA2 := Lib.hid (show allMay (R.take (k + 1)) = true by rw [HST.out, HAM.out, hmy]; rfl)
        clear hmy HST HBD
        go_upto_region 5 with (fail)
        have HB2 := Lib.hid (HB.out.alloc HB.out.size (.cells #[.int .i64 q1, .int .i64 (q2 : Int)] 101))
        have HX := Lib.hid (Has.new wr #[.int .i64 q1, .int .i64 (q2 : Int)] 101)
        clear a0 a1 HB
        generalize wr.heap.size = q at *
        generalize wr.alloc (.cells #[.int .i64 q1, .int .i64 (q2 : Int)] 101) = w2 at *
        have x0 := HX.out.cell 0
        simp only [List.getElem?_toArray, List.getElem?_cons_zero] at x0
        go_wp2_with fail
        (with_reducible refine (HM.out _).mono ?_)
        rintro e w3 ⟨rfl, rfl⟩
        go_wp2
        go_roundw
        case rel => exact ⟨k + 1, by go_num, hlt, HA2.out, HB2.out⟩
        case measure => simp [intOf]; omega
      | false =>
        rw [hmy] at HM
        have HWF := Lib.hid (show W = false by rw [HW.out, HBD.out hmy, Bool.false_and])
        clear hmy HST HBD
        go_upto_region 5 with (fail)
        have HB2 := Lib.hid (HB.out.alloc HB.out.size (.cells #[.int .i64 q1, .int .i64 (q2 : Int)] 101))
        have HX := Lib.hid (Has.new wr #[.int .i64 q1, .int .i64 (q2 : Int)] 101)
        clear a0 a1 HB
        generalize wr.heap.size = q at *
        generalize wr.alloc (.cells #[.int .i64 q1, .int .i64 (q2 : Int)] 101) = w2 at *
        have x0 := HX.out.cell 0
        simp only [List.getElem?_toArray, List.getElem?_cons_zero] at x0
        go_wp2_with fail
        (with_reducible refine (HM.out _).mono ?_)
        rintro e w3 ⟨rfl, rfl⟩
        go_wp2
        go_ret
        exact ⟨ret_bool HWF.out.symm, HB1.out.trans (HB2.out.mono HB1.out.size)⟩
    · have hlt' : ¬ (k : Int) < (R.length : Int) := by omega
      have hke : k = R.length := by omega
      rw [hke, List.take_length] at ham
      have hw := HW.out
      rw [ham, Bool.true_and] at hw
      have HW2 := Lib.hid hw
      have HB4 := Lib.hid (HB1.out.trans (hbr.mono HB1.out.size))
      clear hw hbr HB ham hke
      by_cases h0 : 0 < R.length
      · have e0 : decide ((0 : Int) < (R.length : Int)) = true := by simp; omega
        have hd : decide ((R.length : Int) ≤ 32) = decide (R.length ≤ 32) := by rw [Bool.eq_iff_iff, decide_eq_true_eq, decide_eq_true_eq]; omega
        have HW3 := Lib.hid (show W = decide (R.length ≤ 32) by rw [HW2.out, decide_eq_true h0, Bool.true_and])
        generalize decide (R.length ≤ 32) = D at *
        generalize R.length = n at *
        go_wp2
        go_ret
        exact ⟨ret_bool HW3.out.symm, HB4.out⟩
      · have hz : R.length = 0 := by omega
        have HW3 := Lib.hid (show W = false by rw [HW2.out, decide_eq_false h0, Bool.false_and])
        rw [hz]
        go_wp2
        go_ret
        exact ⟨ret_bool HW3.out.symm, HB4.out⟩
end Go.Proofs.YtajalllecoclcaaDoor
