/- TokenCuts. -/
import Derived.Test.YtdbcdacekejjjaaDoorTokLaw2
namespace Go.Proofs.YtdbcdacekejjjaaDoor
open Go.RowKit
set_option linter.unusedVariables false
set_option linter.unusedSimpArgs false

theorem cutN_step : ∀ (R : List (Int × Nat)) (n : Int) (k : Nat) (h : k < R.length), cutN (R.take (k + 1)) n = cutN (R.take k) n + (if (k : Int) < n then R[k].2 else 0)
  | [], _, _, h => absurd h (by simp)
  | q :: R, n, 0, _ => by
    show cutN [q] n = 0 + _
    unfold cutN
    by_cases hn : n < 1
    · rw [if_pos hn, if_neg (by omega)]
    · rw [if_neg hn, if_pos (by omega)]
      show q.2 + 0 = 0 + q.2
      omega
  | q :: R, n, k + 1, h => by
    have hk1 : k < R.length := by simpa using h
    rw [List.take_succ_cons, List.take_succ_cons]
    unfold cutN
    by_cases hn : n < 1
    · rw [if_pos hn, if_pos hn, if_neg (by omega)]
    · have ih := cutN_step R (n - 1) k hk1
      rw [if_neg hn, if_neg hn, ih]
      show q.2 + (_ + _) = q.2 + _ + if ((k + 1 : Nat) : Int) < n then R[k].2 else 0
      by_cases hk : (k : Int) < n - 1
      · rw [if_pos hk, if_pos (by omega)]; omega
      · rw [if_neg hk, if_neg (by omega)]; omega
theorem cutN_take_le (R : List (Int × Nat)) (n : Int) : ∀ k, cutN (R.take k) n ≤ sumB R := by
  intro k
  induction R generalizing n k with
  | nil => rw [List.take_nil]; exact Nat.le_refl _
  | cons q R ih =>
    cases k with
    | zero => exact Nat.zero_le _
    | succ k =>
      rw [List.take_succ_cons]
      unfold cutN
      split
      · exact Nat.zero_le _
      · have := ih (n - 1) k
        show q.2 + _ ≤ q.2 + sumB R
        omega
theorem rep42 (n : Nat) : (⟨(Lib.repeatL (⟨#[42]⟩ : ByteArray).data.toList n).toArray⟩ : ByteArray) = Fr.bs (List.replicate n 42) := by
  have : Lib.repeatL (⟨#[42]⟩ : ByteArray).data.toList n = List.replicate n 42 := by
    induction n with
    | zero => rfl
    | succ n ih => rw [List.replicate_succ, ← ih]; rfl
  rw [this]; rfl
theorem mask_eq (s : ByteArray) : maskB s = s.extract 0 (cutN ((Tk.runes s.data.toList).take 1) 1) ++ Fr.bs (List.replicate ((Tk.runes s.data.toList).length - 1) 42) := by
  unfold maskB
  rw [rep42]
  cases h0 : s.data.toList with
  | nil => rfl
  | cons b l =>
    have e1 : Tk.runes (b :: l) = (Tk.num (Tk.d (b :: l)), (Tk.d (b :: l)).2) :: Tk.runes ((b :: l).drop (Tk.d (b :: l)).2) := Tk.runes_cons _ (by simp)
    have c1 : cutN (Tk.runes (b :: l)) 1 = (Tk.d (b :: l)).2 := by
      rw [e1]
      unfold cutN
      rw [if_neg (by decide)]
      show (Tk.d (b :: l)).2 + cutN _ (1 - 1) = _
      have : ∀ R : List (Int × Nat), cutN R (1 - 1) = 0 := fun R => by cases R <;> rfl
      rw [this, Nat.add_zero]
    have c2 : cutN ((Tk.runes (b :: l)).take 1) 1 = (Tk.d (b :: l)).2 := by
      rw [e1]
      rfl
    rw [c1, c2, e1, List.length_cons, Nat.add_sub_cancel]
set_option maxRecDepth 100000 in
set_option maxHeartbeats 2000000 in
theorem tokenCuts_walk (s : ByteArray) (n : Int) (w : World) (_ : s.size ≤ maxLen) (hn : (Lit.int .i64 n).wf = true) (hT : Tabs w) : Calls Tryd.prog 5 #[.string s, .int .i64 n] w fun e w' => e = .returned (.bool true) ∧ Below w.heap.size w w' := by
  have HT := Lib.hid hT
  clear hT
  by_cases hl : 300 < s.size
  · have hl' : (300 : Int) < (s.size : Int) := by omega
    clear hl
    go_enter Tryd.func5, Tryd.ntmps5
    go_wp2_with fail
    (with_reducible refine (tfour_walk _ HT.out).mono ?_)
    rintro e w1 ⟨rfl, hb1⟩
    go_wp2
    go_ret
    exact ⟨rfl, hb1⟩
  · have hl' : ¬ (300 : Int) < (s.size : Int) := by omega
    have hnm : n ≤ 9223372036854775807 := by
      have : -9223372036854775808 ≤ n ∧ n ≤ 9223372036854775807 := by simpa [Lit.wf, IntKind.min, IntKind.max, IntKind.signed, IntKind.bits] using hn
      exact this.2
    have H1 := Lib.hid (fun w => cut_walk s n w (by omega) hnm)
    have H2 := Lib.hid (fun w => masked_walk s w (by omega))
    have H4 := Lib.hid (fun w => refrunes_walk s w (by omega))
    have hME := mask_eq s
    have hlen := Tk.runes_le s.data.toList
    have hsm := runes_sum s.size s.data.toList (by rw [llen]; exact Nat.le_refl _)
    rw [llen] at hlen hsm
    generalize maskB s = M at *
    generalize Tk.runes s.data.toList = R at *
    have HME := Lib.hid hME
    have HST := Lib.hid (cutN_step R n)
    have HS1 := Lib.hid (cutN_step R 1)
    have HTL := Lib.hid (cutN_take_le R n)
    have HTL1 := Lib.hid (cutN_take_le R 1)
    have HSM := Lib.hid hsm
    have hlb : (R.length : Int) ≤ 300 := by omega
    clear hl hsm hME
    go_enter Tryd.func5, Tryd.ntmps5
    go_wp2_with fail
    (with_reducible refine (H4.out _).mono ?_)
    rintro e w4 ⟨v, rfl, ho, hb4⟩
    obtain ⟨a, c, rfl, hr1, -⟩ := rowS_owns ho
    have HR1 := Lib.hid hr1
    have HB4 := Lib.hid hb4
    clear ho hr1 hb4 H4
    go_wp2_with fail
    go_loopw [5, 6, 7, 17] (fun x y z i wr => ∃ k : Nat, i = .int .i64 (k : Int) ∧ k ≤ R.length ∧ x = .int .i64 (cutN (R.take k) n : Int) ∧ y = .string (Fr.bs (List.replicate (k - 1) 42)) ∧ z = .int .i64 (cutN ((R.take k).take 1) 1 : Int) ∧ Below w4.heap.size w4 wr) (fun _ _ _ i _ => R.length - (intOf i).toNat)
    case atStart => exact ⟨0, rfl, Nat.zero_le _, rfl, rfl, rfl, Below.refl _ _⟩
    case round =>
      obtain ⟨k, rfl, hk, rfl, rfl, rfl, hbr⟩ := hrel
      have HB := Lib.hid hbr
      by_cases hlt : k < R.length
      · have hlt' : (k : Int) < (R.length : Int) := by omega
        obtain ⟨tb, tq, rfl, htb, htc⟩ := (HR1.out.keep hbr).at k hlt
        have t0 := htc 0 (by decide); have t1 := htc 1 (by decide)
        rw [flat_getR R k 0 hlt (by decide)] at t0
        rw [flat_getR R k 1 hlt (by decide)] at t1
        have hst := HST.out k hlt
        have htl := HTL.out (k + 1)
        rw [HSM.out] at htl
        generalize hq : R[k] = q at *
        obtain ⟨q1, q2⟩ := q
        simp only [rnCells, List.getD_cons_zero, List.getD_cons_succ, Nat.add_zero] at t0 t1 hst
        simp only [← Nat.add_assoc] at t1
        have hkb : (k : Int) ≤ 300 := by omega
        have HST2 := Lib.hid hst
        have HQ := Lib.hid hq
        have hz1 := bs_size (List.replicate (k - 1) (42 : UInt8))
        rw [List.length_replicate] at hz1
        have HCC := Lib.hid (bs_app (List.replicate (k - 1) (42 : UInt8)) [42])
        have hF1 : ∀ (h : 1 ≤ k), (R.take k).take 1 = (R.take (k + 1)).take 1 := fun h => by rw [List.take_take, List.take_take]; congr 1; omega
        have HF1 := Lib.hid hF1
        have HF0 := Lib.hid (fun (h : k = 0) => show cutN ((R.take (k + 1)).take 1) 1 = q2 by
          subst h
          have h1 := HS1.out 0 hlt
          rw [List.take_zero, hq] at h1
          rw [List.take_take]
          show cutN (R.take (0 + 1)) 1 = _
          rw [h1]
          show 0 + q2 = q2
          omega)
        clear htc hbr hF1 hq
        generalize cutN (R.take k) n = C at *
        generalize hC2 : cutN (R.take (k + 1)) n = C2 at *
        generalize hFV : cutN ((R.take k).take 1) 1 = F at *
        generalize hSTV : Fr.bs (List.replicate (k - 1) (42 : UInt8)) = ST at *
        have HC2V := Lib.hid hC2
        have HFV := Lib.hid hFV
        have HSTV := Lib.hid hSTV
        clear hC2 hFV hSTV
        by_cases hkn : (k : Int) < n
        · have e1 : decide ((k : Int) < n) = true := by simpa using hkn
          have HC2 := Lib.hid (show C2 = C + q2 by have := HST2.out; rw [if_pos hkn] at this; exact this)
          have hcb : (C : Int) + (q2 : Int) ≤ 300 := by have := HC2.out; omega
          clear hkn hst htl
          by_cases hk0 : k = 0
          · have e2 : ((k : Int) == 0) = true := by rw [hk0]; rfl
            have e2' : (k == 0) = true := by rw [hk0]; rfl
            have HF := Lib.hid (HF0.out hk0)
            have HSS := Lib.hid (show ST = Fr.bs (List.replicate (k + 1 - 1) (42 : UInt8)) by rw [← HSTV.out, hk0])
            clear hk0
            go_upto_region 9 with (fail)
            have HBA := Lib.hid (HB.out.alloc HB.out.size (.cells #[.int .i64 q1, .int .i64 (q2 : Int)] 29))
            have HX := Lib.hid (Has.new wr #[.int .i64 q1, .int .i64 (q2 : Int)] 29)
            clear t0 t1 HB
            generalize wr.heap.size = q at *
            generalize wr.alloc (.cells #[.int .i64 q1, .int .i64 (q2 : Int)] 29) = w5 at *
            have x0 := HX.out.cell 0; have x1 := HX.out.cell 1
            simp only [List.getElem?_toArray, List.getElem?_cons_zero, List.getElem?_cons_succ] at x0 x1
            go_wp2
            go_roundw
            case rel => exact ⟨k + 1, by go_num, hlt, by rw [HC2V.out, HC2.out]; go_num, by rw [HSS.out], by rw [HF.out], HBA.out⟩
            case measure => simp [intOf]; omega
          · have e2 : ((k : Int) == 0) = false := by simpa using hk0
            have e2' : (k == 0) = false := by simpa using hk0
            have HF := Lib.hid (show F = cutN ((R.take (k + 1)).take 1) 1 by rw [← HFV.out, HF1.out (by omega)])
            have HSS := Lib.hid (show ST ++ ⟨#[42]⟩ = Fr.bs (List.replicate (k + 1 - 1) (42 : UInt8)) by
              rw [show (⟨#[42]⟩ : ByteArray) = Fr.bs [42] from rfl, HCC.out, ← List.replicate_succ']
              congr 2; omega)
            have hcat : ST.size + 1 ≤ 10000000 := by omega
            clear hk0
            go_upto_region 9 with (fail)
            have HBA := Lib.hid (HB.out.alloc HB.out.size (.cells #[.int .i64 q1, .int .i64 (q2 : Int)] 29))
            have HX := Lib.hid (Has.new wr #[.int .i64 q1, .int .i64 (q2 : Int)] 29)
            clear t0 t1 HB
            generalize wr.heap.size = q at *
            generalize wr.alloc (.cells #[.int .i64 q1, .int .i64 (q2 : Int)] 29) = w5 at *
            have x0 := HX.out.cell 0; have x1 := HX.out.cell 1
            simp only [List.getElem?_toArray, List.getElem?_cons_zero, List.getElem?_cons_succ] at x0 x1
            go_wp2
            go_roundw
            case rel => exact ⟨k + 1, by go_num, hlt, by rw [HC2V.out, HC2.out]; go_num, by rw [← HSS.out], by rw [HF.out], HBA.out⟩
            case measure => simp [intOf]; omega
        · have e1 : decide ((k : Int) < n) = false := by simpa using hkn
          have HC2 := Lib.hid (show C2 = C by have := HST2.out; rw [if_neg hkn] at this; exact this)
          clear hkn hst htl
          by_cases hk0 : k = 0
          · have e2 : ((k : Int) == 0) = true := by rw [hk0]; rfl
            have e2' : (k == 0) = true := by rw [hk0]; rfl
            have HF := Lib.hid (HF0.out hk0)
            have HSS := Lib.hid (show ST = Fr.bs (List.replicate (k + 1 - 1) (42 : UInt8)) by rw [← HSTV.out, hk0])
            clear hk0
            go_upto_region 9 with (fail)
            have HBA := Lib.hid (HB.out.alloc HB.out.size (.cells #[.int .i64 q1, .int .i64 (q2 : Int)] 29))
            have HX := Lib.hid (Has.new wr #[.int .i64 q1, .int .i64 (q2 : Int)] 29)
            clear t0 t1 HB
            generalize wr.heap.size = q at *
            generalize wr.alloc (.cells #[.int .i64 q1, .int .i64 (q2 : Int)] 29) = w5 at *
            have x0 := HX.out.cell 0; have x1 := HX.out.cell 1
            simp only [List.getElem?_toArray, List.getElem?_cons_zero, List.getElem?_cons_succ] at x0 x1
            go_wp2
            go_roundw
            case rel => exact ⟨k + 1, by go_num, hlt, by rw [HC2V.out, HC2.out], by rw [HSS.out], by rw [HF.out], HBA.out⟩
            case measure => simp [intOf]; omega
          · have e2 : ((k : Int) == 0) = false := by simpa using hk0
            have e2' : (k == 0) = false := by simpa using hk0
            have HF := Lib.hid (show F = cutN ((R.take (k + 1)).take 1) 1 by rw [← HFV.out, HF1.out (by omega)])
            have HSS := Lib.hid (show ST ++ ⟨#[42]⟩ = Fr.bs (List.replicate (k + 1 - 1) (42 : UInt8)) by
              rw [show (⟨#[42]⟩ : ByteArray) = Fr.bs [42] from rfl, HCC.out, ← List.replicate_succ']
              congr 2; omega)
            have hcat : ST.size + 1 ≤ 10000000 := by omega
            clear hk0
            go_upto_region 9 with (fail)
            have HBA := Lib.hid (HB.out.alloc HB.out.size (.cells #[.int .i64 q1, .int .i64 (q2 : Int)] 29))
            have HX := Lib.hid (Has.new wr #[.int .i64 q1, .int .i64 (q2 : Int)] 29)
            clear t0 t1 HB
            generalize wr.heap.size = q at *
            generalize wr.alloc (.cells #[.int .i64 q1, .int .i64 (q2 : Int)] 29) = w5 at *
            have x0 := HX.out.cell 0; have x1 := HX.out.cell 1
            simp only [List.getElem?_toArray, List.getElem?_cons_zero, List.getElem?_cons_succ] at x0 x1
            go_wp2
            go_roundw
            case rel => exact ⟨k + 1, by go_num, hlt, by rw [HC2V.out, HC2.out], by rw [← HSS.out], by rw [HF.out], HBA.out⟩
            case measure => simp [intOf]; omega
      · have hlt' : ¬ (k : Int) < (R.length : Int) := by omega
        have hke : k = R.length := by omega
        subst hke
        rw [List.take_length] at *
        have HB5 := Lib.hid (HB4.out.trans (hbr.mono HB4.out.size))
        have hc1 := HTL.out R.length
        have hc2 := HTL1.out 1
        rw [List.take_length, HSM.out] at hc1
        rw [HSM.out] at hc2
        have hz1 := bs_size (List.replicate (R.length - 1) (42 : UInt8))
        rw [List.length_replicate] at hz1
        rw [HME.out] at H2
        generalize cutN R n = C at *
        generalize cutN (R.take 1) 1 = F at *
        generalize Fr.bs (List.replicate (R.length - 1) (42 : UInt8)) = ST at *
        have hs1 := run_slice_to Tryd.underlying9 s C (C : Int) rfl hc1
        have hs2 := run_slice_to Tryd.underlying9 s F (F : Int) rfl hc2
        have hzf : (s.extract 0 F).size = F := by rw [ByteArray.size_extract]; omega
        generalize s.extract 0 C = TC at *
        generalize s.extract 0 F = TF at *
        have hcat : TF.size + ST.size ≤ 10000000 := by omega
        clear hbr HB hzf hz1
        go_upto_region 15 with (fail)
        have V1 := Lib.hid (fun x : Later wr => later_call (x := x) (H1.out x.at))
        have V2 := Lib.hid (fun x : Later wr => later_call (x := x) (H2.out x.at))
        have V3 := Lib.hid (fun x : Later wr => later_call (x := x) (tfour_walk x.at (HT.out.keep (HB5.out.trans (x.below.mono HB5.out.size)))))
        refine region_later 20 (by kernel_rfl) (by kernel_rfl) ?_
        simp only [List.take_succ_cons, List.take_zero, List.drop_succ_cons, List.drop_zero]
        repeat (go_big_quiet_step (first | (with_reducible exact V1.out _) | (with_reducible exact V2.out _) | (with_reducible exact V3.out _)))
        refine wpQuiet_nil ?_
        rintro w' ⟨x, rfl⟩
        have HB6 := Lib.hid (HB5.out.trans (x.below.mono HB5.out.size))
        clear V1 V2 V3 HB5
        generalize x.at = w6 at *
        go_wp2
        go_ret
        exact ⟨rfl, HB6.out⟩
end Go.Proofs.YtdbcdacekejjjaaDoor
