/- TokenRunes, TokenWords. -/
import Derived.Test.YtdbcdacekejjjaaDoorTokLaw1
namespace Go.Proofs.YtdbcdacekejjjaaDoor
open Go.RowKit
set_option linter.unusedVariables false
set_option linter.unusedSimpArgs false

theorem map_get (R : List (Int × Nat)) (k : Nat) (h : k < R.length) : (R.map intV).getD k undef = .int .i64 R[k].1 := by
  rw [List.getD, List.getElem?_map, List.getElem?_eq_getElem h]; rfl
set_option maxRecDepth 100000 in
set_option maxHeartbeats 1600000 in
theorem tokenRunes_walk (s : ByteArray) (w : World) (_ : s.size ≤ maxLen) (hT : Tabs w) : Calls Tryd.prog 3 #[.string s] w fun e w' => e = .returned (.bool true) ∧ Below w.heap.size w w' := by
  have HT := Lib.hid hT
  clear hT
  by_cases hl : 300 < s.size
  · have hl' : (300 : Int) < (s.size : Int) := by omega
    clear hl
    go_enter Tryd.func3, Tryd.ntmps3
    go_wp2_with fail
    (with_reducible refine (tfour_walk _ HT.out).mono ?_)
    rintro e w1 ⟨rfl, hb1⟩
    go_wp2
    go_ret
    exact ⟨rfl, hb1⟩
  · have hl' : ¬ (300 : Int) < (s.size : Int) := by omega
    have H1 := Lib.hid (fun w h => runes_walk s w h (by omega))
    have H2 := Lib.hid (fun w => refrunes_walk s w (by omega))
    have H3 := Lib.hid (fun w => len_walk s w (by omega))
    have hlen := Tk.runes_le s.data.toList
    rw [llen] at hlen
    generalize Tk.runes s.data.toList = R at *
    have hlb : (R.length : Int) ≤ 300 := by omega
    clear hl
    go_enter Tryd.func3, Tryd.ntmps3
    go_wp2_with fail
    (with_reducible refine (H1.out _ HT.out).mono ?_)
    rintro e w1 ⟨v, rfl, ho, hb1⟩
    obtain ⟨a, c, rfl, hr1, -⟩ := rowAt_owns ho
    have HR1 := Lib.hid hr1
    have HB1 := Lib.hid hb1
    clear ho hr1 hb1 H1
    go_wp2_with fail
    (with_reducible refine (H2.out _).mono ?_)
    rintro e w2 ⟨v, rfl, ho, hb2⟩
    obtain ⟨a2, c2, rfl, hr2, -⟩ := rowS_owns ho
    have HR2 := Lib.hid hr2
    have HR1' := Lib.hid (HR1.out.keep hb2)
    have HB2 := Lib.hid (HB1.out.trans (hb2.mono HB1.out.size))
    clear ho hr2 hb2 H2 HR1 HB1
    go_wp2_with fail
    (with_reducible refine (H3.out _).mono ?_)
    rintro e w3 ⟨rfl, hb3⟩
    have HR2' := Lib.hid (HR2.out.keep hb3)
    have HR1 := Lib.hid (HR1'.out.keep hb3)
    have HB3 := Lib.hid (HB2.out.trans (hb3.mono HB2.out.size))
    clear hb3 HR2 HR1' HB2
    go_wp2_with fail
    go_loopw [29] (fun i wr => ∃ k : Nat, i = .int .i64 (k : Int) ∧ k ≤ R.length ∧ Below w3.heap.size w3 wr) (fun i _ => R.length - (intOf i).toNat)
    case atStart => exact ⟨0, rfl, Nat.zero_le _, Below.refl _ _⟩
    case round =>
      obtain ⟨k, rfl, hk, hbr⟩ := hrel
      have HB := Lib.hid hbr
      by_cases hlt : k < R.length
      · have hlt' : (k : Int) < (R.length : Int) := by omega
        obtain ⟨ab, ao, ha, a0⟩ := (HR1.out.keep hbr).at k hlt
        subst ha
        obtain ⟨tb, tq, rfl, htb, htc⟩ := (HR2'.out.keep hbr).at k hlt
        have t0 := htc 0 (by decide)
        rw [flat_getR R k 0 hlt (by decide)] at t0
        rw [map_get R k hlt] at a0
        generalize R[k] = q at *
        obtain ⟨q1, q2⟩ := q
        simp only [rnCells, List.getD_cons_zero, Nat.add_zero] at t0 a0
        have hkb : (k : Int) ≤ 300 := by omega
        clear htc hbr
        go_wp2
        go_roundw
        case rel => exact ⟨k + 1, by go_num, hlt, HB.out⟩
        case measure => simp [intOf]; omega
      · have hlt' : ¬ (k : Int) < (R.length : Int) := by omega
        have HB4 := Lib.hid (HB3.out.trans (hbr.mono HB3.out.size))
        clear hbr HB
        go_wp2_with fail
        (with_reducible refine (tfour_walk _ (HT.out.keep HB4.out)).mono ?_)
        rintro e w5 ⟨rfl, hb5⟩
        have HB5 := Lib.hid (HB4.out.trans (hb5.mono HB4.out.size))
        clear hb5
        go_wp2
        go_ret
        exact ⟨rfl, HB5.out⟩
def sumB : List (Int × Nat) → Nat
  | [] => 0
  | q :: R => q.2 + sumB R
theorem runes_sum : ∀ (m : Nat) (l : List UInt8), l.length ≤ m → sumB (Tk.runes l) = l.length
  | _, [], _ => rfl
  | 0, b :: l, h => by simp at h
  | m + 1, b :: l, h => by
    have hb := Tk.d_bd (b :: l) (by simp)
    rw [Tk.runes_cons _ (by simp)]
    show (Tk.d (b :: l)).2 + sumB _ = _
    rw [runes_sum m _ (by rw [List.length_drop]; simp at h ⊢; omega), List.length_drop]
    omega
set_option maxRecDepth 100000 in
set_option maxHeartbeats 2000000 in
theorem tokenWords_walk (s : ByteArray) (w : World) (_ : s.size ≤ maxLen) (hT : Tabs w) : Calls Tryd.prog 4 #[.string s] w fun e w' => e = .returned (.bool true) ∧ Below w.heap.size w w' := by
  have HT := Lib.hid hT
  clear hT
  by_cases hl : 300 < s.size
  · have hl' : (300 : Int) < (s.size : Int) := by omega
    clear hl
    go_enter Tryd.func4, Tryd.ntmps4
    go_wp2_with fail
    (with_reducible refine (tfour_walk _ HT.out).mono ?_)
    rintro e w1 ⟨rfl, hb1⟩
    go_wp2
    go_ret
    exact ⟨rfl, hb1⟩
  · have hl' : ¬ (300 : Int) < (s.size : Int) := by omega
    have H1 := Lib.hid (fun w h => tfirst_walk s w h (by omega))
    have H2 := Lib.hid (fun w h => is_walk s w h (by omega))
    have H3 := Lib.hid (fun w => word_walk s w (by omega))
    have H4 := Lib.hid (fun w => refrunes_walk s w (by omega))
    have hlen := Tk.runes_le s.data.toList
    have hsm := runes_sum s.size s.data.toList (by rw [llen]; exact Nat.le_refl _)
    rw [llen] at hlen hsm
    generalize wordB s.data.toList = W at *
    have HR0 := Lib.hid (show badAt (Tk.runes s.data.toList) 0 = badAt ((Tk.runes s.data.toList).drop 0) 0 by rw [List.drop_zero])
    have HS0 := Lib.hid (show 0 + sumB ((Tk.runes s.data.toList).drop 0) ≤ 300 by rw [List.drop_zero]; omega)
    generalize Tk.runes s.data.toList = R at *
    generalize badAt R 0 = ba at *
    obtain ⟨b1, b2⟩ := ba
    have hlb : (R.length : Int) ≤ 300 := by omega
    clear hl hsm
    go_enter Tryd.func4, Tryd.ntmps4
    go_wp2_with fail
    (with_reducible refine (H1.out _ HT.out).mono ?_)
    rintro e w1 ⟨rfl, hb1⟩
    have HB1 := Lib.hid hb1
    clear hb1
    go_wp2_with fail
    (with_reducible refine (H2.out _ (HT.out.keep HB1.out)).mono ?_)
    rintro e w2 ⟨rfl, hb2⟩
    have HB2 := Lib.hid (HB1.out.trans (hb2.mono HB1.out.size))
    clear hb2
    go_wp2_with fail
    (with_reducible refine (H3.out _).mono ?_)
    rintro e w3 ⟨rfl, hb3⟩
    have HB3 := Lib.hid (HB2.out.trans (hb3.mono HB2.out.size))
    clear hb3
    go_wp2_with fail
    (with_reducible refine (H4.out _).mono ?_)
    rintro e w4 ⟨v, rfl, ho, hb4⟩
    obtain ⟨a, c, rfl, hr1, -⟩ := rowS_owns ho
    have HR1 := Lib.hid hr1
    have HB4 := Lib.hid (HB3.out.trans (hb4.mono HB3.out.size))
    clear ho hr1 hb4 H1 H2 H3 H4 HB1 HB2 HB3
    go_wp2_with fail
    go_loopw [5, 25] (fun x i wr => ∃ k p : Nat, i = .int .i64 (k : Int) ∧ k ≤ R.length ∧ x = .int .i64 (p : Int) ∧ (b1, b2) = badAt (R.drop k) p ∧ p + sumB (R.drop k) ≤ 300 ∧ Below w4.heap.size w4 wr) (fun _ i _ => R.length - (intOf i).toNat)
    case atStart => exact ⟨0, 0, rfl, Nat.zero_le _, rfl, HR0.out, HS0.out, Below.refl _ _⟩
    case round =>
      obtain ⟨k, p, rfl, hk, rfl, hbd, hsm, hbr⟩ := hrel
      have HB := Lib.hid hbr
      by_cases hlt : k < R.length
      · have hlt' : (k : Int) < (R.length : Int) := by omega
        obtain ⟨tb, tq, rfl, htb, htc⟩ := (HR1.out.keep hbr).at k hlt
        have t0 := htc 0 (by decide); have t1 := htc 1 (by decide)
        rw [flat_getR R k 0 hlt (by decide)] at t0
        rw [flat_getR R k 1 hlt (by decide)] at t1
        rw [List.drop_eq_getElem_cons hlt] at hbd hsm
        generalize R[k] = q at *
        obtain ⟨q1, q2⟩ := q
        unfold badAt at hbd
        unfold sumB at hsm
        simp only [rnCells, List.getD_cons_zero, List.getD_cons_succ, Nat.add_zero] at t0 t1 hbd hsm
        simp only [← Nat.add_assoc] at t1
        have hkb : (k : Int) ≤ 300 := by omega
        have hpb : (p : Int) + (q2 : Int) ≤ 300 := by omega
        have HM := Lib.hid (fun w => refmay_walk q1 w)
        have HBD := Lib.hid hbd
        have HSM := Lib.hid hsm
        clear htc hbr hbd hsm
        go_upto_region 10 with (fail)
        have HBA := Lib.hid (HB.out.alloc HB.out.size (.cells #[.int .i64 q1, .int .i64 (q2 : Int)] 29))
        have HX := Lib.hid (Has.new wr #[.int .i64 q1, .int .i64 (q2 : Int)] 29)
        clear t0 t1 HB
        generalize wr.heap.size = q at *
        generalize wr.alloc (.cells #[.int .i64 q1, .int .i64 (q2 : Int)] 29) = w5 at *
        have x0 := HX.out.cell 0; have x1 := HX.out.cell 1
        simp only [List.getElem?_toArray, List.getElem?_cons_zero, List.getElem?_cons_succ] at x0 x1
        cases hmy : mayB q1 with
        | true =>
          rw [hmy] at HM
          have hh := HBD.out
          rw [if_pos hmy] at hh
          have HBD2 := Lib.hid hh
          clear hmy hh
          go_wp2_with fail
          (with_reducible refine (HM.out _).mono ?_)
          rintro e w6 ⟨rfl, rfl⟩
          go_wp2
          go_roundw
          case rel => exact ⟨k + 1, p + q2, by go_num, hlt, by go_num, HBD2.out, by have := HSM.out; omega, HBA.out⟩
          case measure => simp [intOf]; omega
        | false =>
          rw [hmy] at HM
          have hh := HBD.out
          rw [if_neg (by rw [hmy]; decide)] at hh
          have e1 : (b1 == q1) = true := by rw [show b1 = q1 from congrArg Prod.fst hh]; simp
          have e2 : (b2 == (p : Int)) = true := by rw [show b2 = (p : Int) from congrArg Prod.snd hh]; simp
          have HB6 := Lib.hid (HB4.out.trans (HBA.out.mono HB4.out.size))
          clear hmy hh
          go_wp2_with fail
          (with_reducible refine (HM.out _).mono ?_)
          rintro e w6 ⟨rfl, rfl⟩
          go_wp2_with fail
          (with_reducible refine (tfour_walk _ (HT.out.keep HB6.out)).mono ?_)
          rintro e w7 ⟨rfl, hb7⟩
          have HB7 := Lib.hid (HB6.out.trans (hb7.mono HB6.out.size))
          clear hb7
          go_wp2
          go_ret
          exact ⟨rfl, HB7.out⟩
      · have hlt' : ¬ (k : Int) < (R.length : Int) := by omega
        rw [List.drop_of_length_le (by omega : R.length ≤ k)] at hbd
        have e1 : (b1 == 0) = true := by rw [show b1 = 0 from congrArg Prod.fst hbd]; rfl
        have e2 : (b2 == -1) = true := by rw [show b2 = -1 from congrArg Prod.snd hbd]; rfl
        have HB6 := Lib.hid (HB4.out.trans (hbr.mono HB4.out.size))
        clear hbr HB hbd hsm
        go_wp2_with fail
        (with_reducible refine (tfour_walk _ (HT.out.keep HB6.out)).mono ?_)
        rintro e w7 ⟨rfl, hb7⟩
        have HB7 := Lib.hid (HB6.out.trans (hb7.mono HB6.out.size))
        clear hb7
        go_wp2
        go_ret
        exact ⟨rfl, HB7.out⟩
end Go.Proofs.YtdbcdacekejjjaaDoor
