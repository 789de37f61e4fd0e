/- TokenBack. -/
import Derived.Test.YtdbcdacekejjjaaDoorTokLaw4
namespace Go.Proofs.YtdbcdacekejjjaaDoor
open Go.RowKit
set_option linter.unusedVariables false
set_option linter.unusedSimpArgs false

theorem cut_count : ∀ (m : Nat) (l : List UInt8) (n : Int), l.length ≤ m → (Tk.runes (l.take (cutN (Tk.runes l) n))).length + (Tk.runes (l.drop (cutN (Tk.runes l) n))).length = (Tk.runes l).length
  | _, [], _, _ => rfl
  | 0, b :: l, _, h => by simp at h
  | m + 1, b :: l, n, h => by
    have hb := Tk.d_bd (b :: l) (by simp)
    have e := Tk.runes_cons (b :: l) (by simp)
    by_cases hn : n < 1
    · have c0 : cutN (Tk.runes (b :: l)) n = 0 := by rw [e]; unfold cutN; rw [if_pos hn]
      rw [c0, List.take_zero, List.drop_zero]
      show 0 + _ = _
      omega
    · have c1 : cutN (Tk.runes (b :: l)) n = (Tk.d (b :: l)).2 + cutN (Tk.runes ((b :: l).drop (Tk.d (b :: l)).2)) (n - 1) := by
        rw [e]
        show (if n < 1 then 0 else _) = _
        rw [if_neg hn]
      have ih := cut_count m ((b :: l).drop (Tk.d (b :: l)).2) (n - 1) (by rw [List.length_drop]; simp at h ⊢; omega)
      rw [c1, Tk.runes_take (b :: l) _ _ (by simp) rfl, ← List.drop_drop, e, List.length_cons]
      omega
theorem someBad_step (R : List (Int × Nat)) (k : Nat) (h : k < R.length) : Tk.someBad (R.take (k + 1)) = (Tk.someBad (R.take k) || decide (R[k].1 < 0)) := by
  unfold Tk.someBad
  rw [List.take_add_one, List.getElem?_eq_getElem h, List.any_append]
  simp only [Option.toList_some, List.any_cons, List.any_nil, Bool.or_false]
theorem map_intV (R : List (Int × Nat)) : R.map intV = (R.map (·.1)).map intI := by rw [List.map_map]; rfl
theorem list_take2 (t : ByteArray) (n : Nat) : (t.extract 0 n).data.toList = t.data.toList.take n := by
  simp only [ByteArray.data_extract, Array.toList_extract, List.extract_eq_take_drop, List.drop_zero, Nat.sub_zero]
theorem bs_data (s : ByteArray) : Fr.bs s.data.toList = s := rfl
set_option maxRecDepth 100000 in
set_option maxHeartbeats 4000000 in
theorem tokenBack_walk (s : ByteArray) (n : Int) (w : World) (_ : s.size ≤ maxLen) (hn : (Lit.int .i64 n).wf = true) (hT : Tabs w) : Calls Tryd.prog 8 #[.string s, .int .i64 n] w fun e w' => e = .returned (.bool true) ∧ Below w.heap.size w w' := by
  have HT := Lib.hid hT
  clear hT
  by_cases hl : 300 < s.size
  · have hl' : (300 : Int) < (s.size : Int) := by omega
    clear hl
    go_enter Tryd.func8, Tryd.ntmps8
    go_wp2_with fail
    (with_reducible refine (tfour_walk _ HT.out).mono ?_)
    rintro e w1 ⟨rfl, hb1⟩
    go_wp2
    go_ret
    exact ⟨rfl, hb1⟩
  · have hl' : ¬ (300 : Int) < (s.size : Int) := by omega
    have hnm : n ≤ 9223372036854775807 := by
      have : -9223372036854775808 ≤ n ∧ n ≤ 9223372036854775807 := by simpa [Lit.wf, IntKind.min, IntKind.max, IntKind.signed, IntKind.bits] using hn
      exact this.2
    have H1 := Lib.hid (fun w h => runes_walk s w h (by omega))
    have H2 := Lib.hid (fun w => cut_walk s n w (by omega) hnm)
    have H3 := Lib.hid (fun w => len_walk s w (by omega))
    have hlen := Tk.runes_le s.data.toList
    have hcc := cut_count s.size s.data.toList n (by rw [llen]; exact Nat.le_refl _)
    have hcl := cutN_le s.size s.data.toList n (by rw [llen]; exact Nat.le_refl _)
    rw [llen] at hlen hcl
    have HTR := Lib.hid (Tk.text_runes s.size s.data.toList (by rw [llen]; exact Nat.le_refl _))
    have HBS := Lib.hid (Tk.bad_some s.size s.data.toList (by rw [llen]; exact Nat.le_refl _))
    have hrl1 := Tk.runes_le (s.data.toList.take (cutN (Tk.runes s.data.toList) n))
    have hrl2 := Tk.runes_le (s.data.toList.drop (cutN (Tk.runes s.data.toList) n))
    rw [List.length_take, llen] at hrl1
    rw [List.length_drop, llen] at hrl2
    generalize hC : cutN (Tk.runes s.data.toList) n = C at *
    have H4 := Lib.hid (fun w => len_walk (s.extract 0 C) w (by rw [ByteArray.size_extract]; omega))
    have H5 := Lib.hid (fun w => len_walk (s.extract C s.size) w (by rw [ByteArray.size_extract]; omega))
    rw [list_take2] at H4
    rw [list_from] at H5
    generalize (Tk.runes (s.data.toList.take C)).length = n1 at *
    generalize (Tk.runes (s.data.toList.drop C)).length = n2 at *
    have HBD := Lib.hid (bs_data s)
    generalize Tk.runes s.data.toList = R at *
    rw [map_intV] at H1
    have hml : (R.map (·.1)).length = R.length := List.length_map ..
    have HX := Lib.hid (fun a c w h => ttext_walk (R.map (·.1)) a c w h (by rw [hml]; omega))
    rw [hml] at HX
    have HST := Lib.hid (someBad_step R)
    have HRT := Lib.hid (show Tk.someBad (R.take R.length) = Tk.someBad R by rw [List.take_length])
    have HAG := Lib.hid (all_good (R.map (·.1)))
    have HAB := Lib.hid (all_not (R.map (·.1)))
    have hlb : (R.length : Int) ≤ 300 := by omega
    have hsum : ((n1 : Int) + (n2 : Int) == (R.length : Int)) = true := by simp; omega
    have hn1b : (n1 : Int) + (n2 : Int) ≤ 300 := by omega
    have hs1 := run_slice_to Tryd.underlying9 s C ((s.extract 0 C).size : Int) (by rw [ByteArray.size_extract]; omega) hcl
    have hs2 := run_slice_from Tryd.underlying9 s C ((s.extract 0 C).size : Int) (by rw [ByteArray.size_extract]; omega) hcl
    have hts : (s.extract 0 C).size ≤ s.size := by rw [ByteArray.size_extract]; omega
    generalize s.extract 0 C = T at *
    generalize s.extract C s.size = U at *
    have hle : decide (T.size ≤ s.size) = true := by simpa using hts
    have hle' : decide ((T.size : Int) ≤ (s.size : Int)) = true := by simp; omega
    clear hl hcc hcl hrl1 hrl2 hC hn hnm
    go_enter Tryd.func8, Tryd.ntmps8
    go_wp2_with fail
    (with_reducible refine (H1.out _ HT.out).mono ?_)
    rintro e w1 ⟨v, rfl, ho, hb1⟩
    obtain ⟨a, c, rfl, hr1, -⟩ := rowAt_owns ho
    have HR1 := Lib.hid hr1
    have HB1 := Lib.hid hb1
    clear ho hr1 hb1 H1
    go_wp2_with fail
    go_loopw [6, 20] (fun x i wr => ∃ k : Nat, i = .int .i64 (k : Int) ∧ k ≤ R.length ∧ x = .bool (Tk.someBad (R.take k)) ∧ Below w1.heap.size w1 wr) (fun _ i _ => R.length - (intOf i).toNat)
    case atStart => exact ⟨0, rfl, Nat.zero_le _, rfl, Below.refl _ _⟩
    case round =>
      obtain ⟨k, rfl, hk, rfl, hbr⟩ := hrel
      have HB := Lib.hid hbr
      by_cases hlt : k < R.length
      · have hlt' : (k : Int) < (R.length : Int) := by omega
        obtain ⟨ab, ao, ha, a0⟩ := (HR1.out.keep hbr).at k hlt
        subst ha
        rw [intI_get (R.map (·.1)) k (by rw [hml]; exact hlt), List.getElem_map] at a0
        have hst := HST.out k hlt
        have hkb : (k : Int) ≤ 300 := by omega
        clear hbr
        generalize R[k].1 = z at *
        cases hb : Tk.someBad (R.take k) with
        | true =>
          rw [hb, Bool.true_or] at hst
          have HS := Lib.hid hst
          clear hst hb
          go_wp2
          go_roundw
          case rel => exact ⟨k + 1, by go_num, hlt, by rw [HS.out], HB.out⟩
          case measure => simp [intOf]; omega
        | false =>
          rw [hb, Bool.false_or] at hst
          have HS := Lib.hid hst
          clear hst hb
          go_wp2
          go_roundw
          case rel => exact ⟨k + 1, by go_num, hlt, by rw [HS.out], HB.out⟩
          case measure => simp [intOf]; omega
      · have hlt' : ¬ (k : Int) < (R.length : Int) := by omega
        have hke : k = R.length := by omega
        subst hke
        rw [HRT.out]
        have HB2 := Lib.hid (HB1.out.trans (hbr.mono HB1.out.size))
        have HX2 := Lib.hid (HX.out a c wr (HR1.out.keep hbr))
        clear hbr HB HR1 HX
        cases hb : Tk.someBad R with
        | true =>
          obtain ⟨z, hz1, hz2⟩ := HBS.out hb
          rw [HAB.out (fun h => hz2 (h z hz1))] at HX2
          clear hb hz1 hz2
          go_wp2_with fail
          (with_reducible refine (HX2.out).mono ?_)
          rintro e w2 ⟨rfl, hb2⟩
          have HB3 := Lib.hid (HB2.out.trans (hb2.mono HB2.out.size))
          clear hb2 HX2
          go_wp2_with fail
          (with_reducible refine (H2.out _).mono ?_)
          rintro e w3 ⟨rfl, hb3⟩
          have HB5 := Lib.hid (HB3.out.trans (hb3.mono HB3.out.size))
          clear hb3
          go_upto_region 14 with (fail)
          have V1 := Lib.hid (fun x : Later w3 => later_call (x := x) (H3.out x.at))
          have V2 := Lib.hid (fun x : Later w3 => later_call (x := x) (H4.out x.at))
          have V3 := Lib.hid (fun x : Later w3 => later_call (x := x) (H5.out x.at))
          have V4 := Lib.hid (fun x : Later w3 => later_call (x := x) (tfour_walk x.at (HT.out.keep (HB5.out.trans (x.below.mono HB5.out.size)))))
          refine region_later 29 (by kernel_rfl) (by kernel_rfl) ?_
          simp only [List.take_succ_cons, List.take_zero, List.drop_succ_cons, List.drop_zero]
          repeat (go_big_quiet_step (first | (with_reducible exact V1.out _) | (with_reducible exact V2.out _) | (with_reducible exact V3.out _) | (with_reducible exact V4.out _)))
          refine wpQuiet_nil ?_
          rintro w' ⟨x, rfl⟩
          have HB6 := Lib.hid (HB5.out.trans (x.below.mono HB5.out.size))
          clear V1 V2 V3 V4 HB5
          generalize x.at = w6 at *
          go_wp2
          go_ret
          exact ⟨rfl, HB6.out⟩
        | false =>
          obtain ⟨hg, ht⟩ := HTR.out hb
          rw [HAG.out hg, ht, HBD.out] at HX2
          clear hb hg ht
          go_wp2_with fail
          (with_reducible refine (HX2.out).mono ?_)
          rintro e w2 ⟨rfl, hb2⟩
          have HB3 := Lib.hid (HB2.out.trans (hb2.mono HB2.out.size))
          clear hb2 HX2
          go_wp2_with fail
          (with_reducible refine (H2.out _).mono ?_)
          rintro e w3 ⟨rfl, hb3⟩
          have HB5 := Lib.hid (HB3.out.trans (hb3.mono HB3.out.size))
          clear hb3
          go_upto_region 14 with (fail)
          have V1 := Lib.hid (fun x : Later w3 => later_call (x := x) (H3.out x.at))
          have V2 := Lib.hid (fun x : Later w3 => later_call (x := x) (H4.out x.at))
          have V3 := Lib.hid (fun x : Later w3 => later_call (x := x) (H5.out x.at))
          have V4 := Lib.hid (fun x : Later w3 => later_call (x := x) (tfour_walk x.at (HT.out.keep (HB5.out.trans (x.below.mono HB5.out.size)))))
          refine region_later 29 (by kernel_rfl) (by kernel_rfl) ?_
          simp only [List.take_succ_cons, List.take_zero, List.drop_succ_cons, List.drop_zero]
          repeat (go_big_quiet_step (first | (with_reducible exact V1.out _) | (with_reducible exact V2.out _) | (with_reducible exact V3.out _) | (with_reducible exact V4.out _)))
          refine wpQuiet_nil ?_
          rintro w' ⟨x, rfl⟩
          have HB6 := Lib.hid (HB5.out.trans (x.below.mono HB5.out.size))
          clear V1 V2 V3 V4 HB5
          generalize x.at = w6 at *
          go_wp2
          go_ret
          exact ⟨rfl, HB6.out⟩
end Go.Proofs.YtdbcdacekejjjaaDoor
