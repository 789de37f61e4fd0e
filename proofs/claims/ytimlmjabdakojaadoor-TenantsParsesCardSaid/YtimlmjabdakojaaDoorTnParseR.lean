/- The reference's table of a text. -/
import Derived.Test.YtimlmjabdakojaaDoorTnCut
namespace Go.Proofs.YtimlmjabdakojaaDoor
open Go.RowKit
set_option linter.unusedVariables false
set_option linter.unusedSimpArgs false

theorem own_cut {w : World} {B : Nat} {v : Value} {R : List (List UInt8)} (h : w.ownsRow B 9 1 v R.length (R.map strV)) (h0 : 0 < R.length) :
    ∃ g c, v = .slice (some ⟨g, 0, none⟩) R.length c ∧ B ≤ g ∧ g < w.heap.size ∧ R.length ≤ c ∧ ∀ k (hk : k < R.length), w.cell? ⟨g, k, none⟩ = some (.string (Fr.bs R[k])) := by
  obtain ⟨hl, h⟩ := h
  rcases h with ⟨rfl, hn⟩ | ⟨g, cap, cur, rfl, hB, hg, hn, hm, hs, ht⟩
  · omega
  · refine ⟨g, cap, rfl, hB, (Array.getElem?_eq_some_iff.1 hg).1, hn, fun k hk => ?_⟩
    rw [cell_of_row _ _ _ _ _ _ hg]
    have hi2 : k < cur.size := by omega
    rw [Array.getElem?_eq_getElem hi2]
    have e : (cur.toList.take (R.length * 1))[k]? = some (strV R[k]) := by
      rw [ht, List.getElem?_map, List.getElem?_eq_getElem hk]; rfl
    rw [List.getElem?_take, if_pos (by omega), List.getElem?_eq_getElem (by simpa using hi2)] at e
    show some cur[k] = some (strV R[k])
    simpa using e
theorem cut58 (s : ByteArray) (w : World) (hs : s.size ≤ 100000) :
    Calls Tryd.prog 35 #[.string s, .int .u8 58] w fun r w' => ∃ v, r = .returned v ∧ w'.ownsRow w.heap.size 9 1 v (St.splitC 58 s.data.toList).length ((St.splitC 58 s.data.toList).map strV) ∧ Below w.heap.size w w' := cut_walk32 s 58 w hs
theorem cut10 (s : ByteArray) (w : World) (hs : s.size ≤ 100000) :
    Calls Tryd.prog 35 #[.string s, .int .u8 10] w fun r w' => ∃ v, r = .returned v ∧ w'.ownsRow w.heap.size 9 1 v (St.splitC 10 s.data.toList).length ((St.splitC 10 s.data.toList).map strV) ∧ Below w.heap.size w w' := cut_walk32 s 10 w hs
theorem tnbset3 {B : Nat} {w w' : World} {r : Nat} (h : Below B w w') (hr : B ≤ r) (a b c : Value) : Below B w (((w'.setCell ⟨r, 0, none⟩ a).setCell ⟨r, 1, none⟩ b).setCell ⟨r, 2, none⟩ c) := bset1 (bset1 (bset1 h r 0 hr a) r 1 hr b) r 2 hr c
set_option maxRecDepth 100000 in
set_option maxHeartbeats 6000000 in
theorem refparse_walk (s : ByteArray) (w : World) (hs : s.size ≤ 100000) :
    Calls Tryd.prog 20 #[.string s] w fun r w' => ∃ v, r = .returned (.agg #[v, .int .i64 (Tn.parse s.data.toList).2.1, .int .i64 (Tn.parse s.data.toList).2.2]) ∧ w'.ownsRow w.heap.size 26 5 v (Tn.parse s.data.toList).1.length ((Tn.parse s.data.toList).1.flatMap tncells) ∧ Below w.heap.size w w' := by
  have hpz : Tn.parse s.data.toList = if s.data.toList = [] then ([], 0, 6) else Tn.go (St.splitC 10 s.data.toList) [] 0 := rfl
  have hcut := fun w => cut10 s w hs
  have hne := St.splitC_ne 10 s.data.toList
  have hle := Tn.split_le 10 s.data.toList
  have hcl := Tn.splitC_len 10 s.data.toList
  rw [llen] at hle hcl
  have hes : s.toList.isEmpty = decide (s.size = 0) := stempty32 s
  have hse : s.data.toList = [] ↔ s.size = 0 := by rw [← List.length_eq_zero_iff, llen]
  generalize Tn.parse s.data.toList = R at *
  generalize St.splitC 10 s.data.toList = L at *
  have hpos := List.length_pos_iff.2 hne
  obtain ⟨n, hn⟩ : ∃ n, L.length = n + 1 := ⟨L.length - 1, by omega⟩
  have hnL : n < 200000 := by omega
  have HCT := Lib.hid hcut
  have HAT := Lib.hid (fun k out (h : k < n) => Tn.go_at L k out (by omega))
  have HLAST := Lib.hid (fun out => Tn.go_last L n out hn.symm)
  have HSZ := Lib.hid (fun k (h : k < L.length) => hle L[k] (List.getElem_mem h))
  clear hcut hne hle hcl
  go_enter Tryd.func20, Tryd.ntmps20
  go_upto_region 1 with (fail)
  have hb := (Below.refl w.heap.size w).alloc (Nat.le_refl _) (.cells #[.slice none 0 0, .int .i64 0, .int .i64 0] 44)
  have HQ1 := Lib.hid (Has.new w #[.slice none 0 0, .int .i64 0, .int .i64 0] 44)
  have HB1 := Lib.hid hb
  obtain ⟨q, hq⟩ : ∃ q, q = w.heap.size := ⟨_, rfl⟩
  rw [← hq] at HQ1
  rw [← hq]
  have hqw : w.heap.size ≤ q := by omega
  clear hq hb
  generalize w.alloc (.cells #[.slice none 0 0, .int .i64 0, .int .i64 0] 44) = w1 at *
  go_wp2_with fail
  (with_reducible refine (HCT.out _).mono ?_)
  rintro r2 w2 ⟨v2, rfl, ho2, hb2⟩
  obtain ⟨g, c, rfl, hg1, hg2, hc, hcell⟩ := own_cut ho2 hpos
  have HCE := Lib.hid hcell
  have HQ := Lib.hid (HQ1.out.below hb2 HQ1.out.lt)
  have HB2 := Lib.hid (HB1.out.trans (hb2.mono HB1.out.size))
  clear ho2 hcell hb2 HQ1 HB1 HCT hg1
  have hqlt := HQ.out.lt
  by_cases h0 : s.size = 0
  · have HF := Lib.hid (show R = ([], 0, 6) by rw [hpz, if_pos (hse.2 h0)])
    have es : s.toList.isEmpty = true := by rw [hes, decide_eq_true h0]
    have HBC := Lib.hid (Below.refl w2.heap.size w2)
    clear hpz hes hse h0
    have HQZ := HQ.out.below HBC.out HQ.out.lt
    have z0 := HQZ.cell 0; have z1 := HQZ.cell 1; have z2 := HQZ.cell 2
    have f0 := HQZ.free 0; have f1 := HQZ.free 1; have f2 := HQZ.free 2
    simp only [List.getElem?_toArray, List.getElem?_cons_zero, List.getElem?_cons_succ] at z0 z1 z2
    clear HQZ
    have HBZ := Lib.hid (HB2.out.trans (HBC.out.mono HB2.out.size))
    go_wp2
    (try simp only [Exit.inBlock, Exit.then])
    refine bodyPost_ret (v := .agg #[.slice none 0 0, .int .i64 0, .int .i64 6]) ?_ rfl ⟨.slice none 0 0, ?_, ?_, ?_⟩
    · rw [results_cell1 rfl]; go_simp
    · rw [HF.out]
    · rw [HF.out]; exact World.ownsRow_nil _ _ _ _
    · exact tnbset3 HBZ.out hqw _ _ _
  have HRR := Lib.hid (show Tn.go (L.drop 0) [] 0 = R by rw [hpz, if_neg (fun h => h0 (hse.1 h)), List.drop_zero])
  have es : s.toList.isEmpty = false := by rw [hes, decide_eq_false h0]
  clear hpz hes hse h0
  have HN := Lib.hid hn
  obtain ⟨m, hm⟩ : ∃ m, m = L.length := ⟨_, rfl⟩
  rw [← hm]
  rw [← hm] at hc
  have HMM := Lib.hid (show m = n + 1 by omega)
  have hmb : m ≤ 200000 := by omega
  clear hpos hm
  go_wp2_with fail
  go_loopw [4, 18] (fun v4 vi wr => ∃ (k : Nat) (out : List Tn.Ten), k ≤ n ∧ vi = .int .i64 k ∧ Tn.go (L.drop k) out k = R ∧ out.length ≤ 16 ∧ wr.ownsRow w2.heap.size 26 5 v4 out.length (out.flatMap tncells) ∧ Below w2.heap.size w2 wr) (fun _ i _ => m - (intOf i).toNat)
  case atStart => exact ⟨0, [], Nat.zero_le _, rfl, HRR.out, by simp, World.ownsRow_nil _ _ _ _, Below.refl _ _⟩
  case round =>
    obtain ⟨k, out, hk, rfl, hgo, ho16, hown, hbr⟩ := hrel
    obtain ⟨a4, c4, rfl, hr4, -⟩ := rowS_owns hown
    have HO := Lib.hid hown; have HBR := Lib.hid hbr; have HR4 := Lib.hid hr4
    have hcap4 := hr4.le
    clear hown hbr hr4 HRR
    have hkm : k < m := by have := HMM.out; omega
    have hkm' : (k : Int) < (m : Int) := by omega
    have hkL : k < L.length := by have := HMM.out; have := HN.out; omega
    have hc0 := (Later.mk HBR.out).cell (HCE.out k hkL)
    have hc0' : wr.cell? ⟨g, k, none⟩ = some (.string (Fr.bs L[k])) := hc0
    clear hc0
    have hsz := HSZ.out k hkL
    have hXs : (Fr.bs L[k]).size ≤ 100000 := by rw [← Fr.size_list, Fr.list_bs]; omega
    by_cases hlt : k < n
    · have e1 : ((k : Int) + 1 == (m : Int)) = false := by
        apply Bool.eq_false_iff.2
        intro e
        have := beq_iff_eq.1 e
        have := HMM.out
        omega
      have e1n : ¬ ((k : Int) + 1 = (m : Int)) := by have := HMM.out; omega
      rw [HAT.out k out hlt, ← Tn.parseLineR_eq] at hgo
      have HCT := Lib.hid (fun w => cut58 (Fr.bs L[k]) w hXs)
      rw [Fr.list_bs] at HCT
      have hnot := Tn.parseLineR_not L[k]
      have hfive := Tn.parseLineR_five L[k]
      have hsm := Tn.split_le 58 L[k]
      have hL5 := List.length_pos_iff.2 (St.splitC_ne 58 L[k])
      generalize St.splitC 58 L[k] = L5 at *
      have hXL : Fr.bs L[k] = Fr.bs L[k] := rfl
      obtain ⟨Y, hY⟩ : ∃ Y, Y = L[k] := ⟨_, rfl⟩
      rw [← hY] at hgo HCT hnot hfive hsm hc0' hsz
      clear hY hXL hXs
      have HG := Lib.hid hgo
      clear hgo
      go_wp2_with fail
      with_reducible refine (HCT.out _).mono ?_
      rintro r3 w3 ⟨v3, rfl, ho3, hb3⟩
      obtain ⟨g3, c3, rfl, hg31, hg32, hc3, hcell3⟩ := own_cut ho3 hL5
      have HC3 := Lib.hid hcell3
      have HO3 := Lib.hid (ownsRow_keep HO.out hb3)
      have HR3 := Lib.hid (HR4.out.keep hb3)
      have HBC := Lib.hid (HBR.out.trans (hb3.mono HBR.out.size))
      clear ho3 hcell3 hb3 HO HR4 HBR HCT hc0' hg31 hL5
      by_cases h5 : L5.length = 5
      · obtain ⟨x1, x2, x3, x4, x5, rfl⟩ : ∃ x1 x2 x3 x4 x5, L5 = [x1, x2, x3, x4, x5] := by
          match L5, h5 with
          | [x1, x2, x3, x4, x5], _ => exact ⟨x1, x2, x3, x4, x5, rfl⟩
        have hp := hfive x1 x2 x3 x4 x5 rfl
        have k1 := hsm x1 (by simp)
        have k2 := hsm x2 (by simp)
        have k3 := hsm x3 (by simp)
        have k4 := hsm x4 (by simp)
        have k5 := hsm x5 (by simp)
        have b1 : (Fr.bs x1).size ≤ 100000 := by rw [← Fr.size_list, Fr.list_bs]; omega
        have b2 : (Fr.bs x2).size ≤ 100000 := by rw [← Fr.size_list, Fr.list_bs]; omega
        have HN3 := Lib.hid (fun w => refnumber_walk x3 w (by omega)); have HN4 := Lib.hid (fun w => refnumber_walk x4 w (by omega)); have HN5 := Lib.hid (fun w => refnumber_walk x5 w (by omega))
        have hq0 := HC3.out 0 (by simp); have hq1 := HC3.out 1 (by simp); have hq2 := HC3.out 2 (by simp); have hq3 := HC3.out 3 (by simp); have hq4 := HC3.out 4 (by simp)
        simp only [List.getElem_cons_zero, List.getElem_cons_succ] at hq0 hq1 hq2 hq3 hq4
        clear hfive hnot h5 hsm k1 k2 k3 k4 k5 HC3
        simp only [List.length_cons, List.length_nil, Nat.zero_add, Nat.reduceAdd] at hc3
        have HMY := Lib.hid (fun w => tnrefmay_walk ⟨Fr.bs x1, Fr.bs x2, Tn.numR x3, Tn.numR x4, Tn.numR x5⟩ w b1 b2)
        have HLN := Lib.hid (fun h w => refline_walk ⟨Fr.bs x1, Fr.bs x2, Tn.numR x3, Tn.numR x4, Tn.numR x5⟩ h b1 b2 w)
        generalize Tn.numR x3 = i3 at *
        generalize Tn.numR x4 = i4 at *
        generalize Tn.numR x5 = i5 at *
        generalize Fr.bs x1 = A1 at *
        generalize Fr.bs x2 = A2 at *
        generalize Fr.bs x3 = A3 at *
        generalize Fr.bs x4 = A4 at *
        generalize Fr.bs x5 = A5 at *
        simp only at HMY HLN
        have HP := Lib.hid hp
        have HQ0 := Lib.hid hq0; have HQ1 := Lib.hid hq1; have HQ2 := Lib.hid hq2; have HQ3 := Lib.hid hq3; have HQ4 := Lib.hid hq4
        clear hp b1 b2 hq0 hq1 hq2 hq3 hq4
        go_upto_region 14 with (fail)
        apply Quiet.region_make 19 8 (Psi := fun x w' => ∃ r, x = .pointer (some ⟨r, 0, none⟩) ∧ w3.heap.size ≤ r ∧ Has w' r #[.string ⟨#[]⟩, .string ⟨#[]⟩, .int .i64 0, .int .i64 0, .int .i64 0] 26) (by kernel_rfl) (by kernel_rfl) (by kernel_rfl)
        case H1 =>
          intro wb hwb
          have d0 : ∀ x : Later wb, x.at.cell? ⟨g3, 0, none⟩ = some (.string A1) := fun x => x.cell ((Later.mk hwb).cell HQ0.out)
          have d1 : ∀ x : Later wb, x.at.cell? ⟨g3, 1, none⟩ = some (.string A2) := fun x => x.cell ((Later.mk hwb).cell HQ1.out)
          have d2 : ∀ x : Later wb, x.at.cell? ⟨g3, 2, none⟩ = some (.string A3) := fun x => x.cell ((Later.mk hwb).cell HQ2.out)
          have d3 : ∀ x : Later wb, x.at.cell? ⟨g3, 3, none⟩ = some (.string A4) := fun x => x.cell ((Later.mk hwb).cell HQ3.out)
          have d4 : ∀ x : Later wb, x.at.cell? ⟨g3, 4, none⟩ = some (.string A5) := fun x => x.cell ((Later.mk hwb).cell HQ4.out)
          have H3 := Lib.hid (fun x : Later wb => later_call (x := x) (HN3.out x.at))
          have H4 := Lib.hid (fun x : Later wb => later_call (x := x) (HN4.out x.at))
          have H5 := Lib.hid (fun x : Later wb => later_call (x := x) (HN5.out x.at))
          show wpQuiet _ _ (fun w' => ∃ x : Later wb, w' = x.at) _ _ _
          simp only [List.take_succ_cons, List.take_zero]
          repeat (go_big_quiet_step (first | (with_reducible exact H3.out _) | (with_reducible exact H4.out _) | (with_reducible exact H5.out _)))
          exact rfl
        case make =>
          intro o ho wa hwa
          obtain rfl := Option.some.inj ho
          refine ⟨.pointer (some ⟨wa.heap.size, 0, none⟩), wa.alloc (.cells #[.string ⟨#[]⟩, .string ⟨#[]⟩, .int .i64 0, .int .i64 0, .int .i64 0] 26), ?_, ?_, ⟨wa.heap.size, rfl, hwa.size, Has.new wa _ _⟩⟩
          · kernel_rfl
          · exact (Below.refl _ _).alloc (Nat.le_refl _) _
        case mono =>
          rintro x wa wb ⟨r, hx, hr, hh⟩ hwb
          exact ⟨r, hx, hr, Has.below hh hwb (Has.lt hh)⟩
        rintro x wx hl3 ⟨r, rfl, hr1, hh⟩
        simp only [List.drop_succ_cons, List.drop_zero, Act.put, List.setIfInBounds_toArray, List.set_cons_succ, List.set_cons_zero]
        have hb4 := bset5 hl3 hr1 (.string A1) (.string A2) (.int .i64 i3) (.int .i64 i4) (.int .i64 i5)
        have HF3 := Lib.hid hh
        have z0 := HF3.out.cell 0; have z1 := HF3.out.cell 1; have z2 := HF3.out.cell 2; have z3 := HF3.out.cell 3; have z4 := HF3.out.cell 4
        have y0 := HF3.out.free 0; have y1 := HF3.out.free 1; have y2 := HF3.out.free 2; have y3 := HF3.out.free 3; have y4 := HF3.out.free 4
        simp only [List.getElem?_toArray, List.getElem?_cons_zero, List.getElem?_cons_succ] at z0 z1 z2 z3 z4
        have HT := Lib.hid (fset5 HF3.out (.string A1) (.string A2) (.int .i64 i3) (.int .i64 i4) (.int .i64 i5))
        have HO := Lib.hid (ownsRow_keep HO3.out hb4)
        have HR := Lib.hid (HR3.out.keep hb4)
        have hbx := HBC.out.trans (hb4.mono HBC.out.size)
        clear HBC
        have HBC := Lib.hid hbx
        clear hbx hb4 hl3 hh HO3 HR3 HN3 HN4 HN5 HQ0 HQ1 HQ2 HQ3 HQ4 hr1
        go_upto_region 15 with (fail)
        clear z0 z1 z2 z3 z4 y0 y1 y2 y3 y4 HF3
        generalize ((((wx.setCell ⟨r, 0, none⟩ (.string A1)).setCell ⟨r, 1, none⟩ (.string A2)).setCell ⟨r, 2, none⟩ (.int .i64 i3)).setCell ⟨r, 3, none⟩ (.int .i64 i4)).setCell ⟨r, 4, none⟩ (.int .i64 i5) = w4 at *
        have p0 := HT.out.cell 0; have p1 := HT.out.cell 1; have p2 := HT.out.cell 2; have p3 := HT.out.cell 3; have p4 := HT.out.cell 4
        simp only [List.getElem?_toArray, List.getElem?_cons_zero, List.getElem?_cons_succ] at p0 p1 p2 p3 p4
        go_wp2_with fail
        with_reducible refine (HMY.out _).mono ?_
        rintro r5 w5 ⟨rfl, hbN⟩
        have hxT := HT.out.below hbN HT.out.lt
        have hxO := ownsRow_keep HO.out hbN
        have hxR := HR.out.keep hbN
        have hxB := HBC.out.trans (hbN.mono HBC.out.size)
        clear HT HO HR HBC hbN p0 p1 p2 p3 p4
        have HT := Lib.hid hxT; have HO := Lib.hid hxO; have HR := Lib.hid hxR; have HBC := Lib.hid hxB
        clear hxT hxO hxR hxB
        cases hm : Tn.may ⟨A1, A2, i3, i4, i5⟩ with
        | false =>
          have HF := Lib.hid (show R = ([], (k : Int) + 1, 4) by
            have := HG.out
            rw [HP.out, if_neg (fun h => by rw [hm] at h; exact absurd h.1 (by decide))] at this
            exact this.symm)
          clear hm HG HP HLN HMY
          have HQZ := HQ.out.below HBC.out HQ.out.lt
          have z0 := HQZ.cell 0; have z1 := HQZ.cell 1; have z2 := HQZ.cell 2
          have f0 := HQZ.free 0; have f1 := HQZ.free 1; have f2 := HQZ.free 2
          simp only [List.getElem?_toArray, List.getElem?_cons_zero, List.getElem?_cons_succ] at z0 z1 z2
          clear HQZ
          have HBZ := Lib.hid (HB2.out.trans (HBC.out.mono HB2.out.size))
          go_wp2
          (try simp only [Exit.inBlock, Exit.then])
          refine bodyPost_ret (v := .agg #[.slice none 0 0, .int .i64 ((k : Int) + 1), .int .i64 4]) ?_ rfl ⟨.slice none 0 0, ?_, ?_, ?_⟩
          · rw [results_cell1 rfl]; go_simp
          · rw [HF.out]
          · rw [HF.out]; exact World.ownsRow_nil _ _ _ _
          · exact tnbset3 HBZ.out hqw _ _ _
        | true =>
          have HL := Lib.hid (fun w => HLN.out hm w)
          have p0 := HT.out.cell 0; have p1 := HT.out.cell 1; have p2 := HT.out.cell 2; have p3 := HT.out.cell 3; have p4 := HT.out.cell 4
          simp only [List.getElem?_toArray, List.getElem?_cons_zero, List.getElem?_cons_succ] at p0 p1 p2 p3 p4
          by_cases ht : Tn.lineL ⟨A1, A2, i3, i4, i5⟩ = Y
          · have HG2 := Lib.hid (show (if Tn.again out ⟨A1, A2, i3, i4, i5⟩ = true then ([], (k : Int) + 1, 8) else if out.length = 16 then ([], (k : Int) + 1, 2) else Tn.go (L.drop (k + 1)) (out ++ [⟨A1, A2, i3, i4, i5⟩]) (k + 1)) = R by
              have := HG.out
              rw [HP.out, if_pos ⟨hm, ht⟩] at this
              exact this)
            rw [ht] at HL
            clear hm ht HG HP HLN HMY
            have hst : ((Fr.bs Y).toList == (Fr.bs Y).toList) = true := by simp
            go_wp2_with fail
            with_reducible refine (HL.out _).mono ?_
            rintro r6 w6 ⟨rfl, hbN⟩
            have hxT := HT.out.below hbN HT.out.lt
            have hxO := ownsRow_keep HO.out hbN
            have hxR := HR.out.keep hbN
            have hxB := HBC.out.trans (hbN.mono HBC.out.size)
            clear HT HO HR HBC hbN p0 p1 p2 p3 p4
            have HT := Lib.hid hxT; have HO := Lib.hid hxO; have HR := Lib.hid hxR; have HBC := Lib.hid hxB
            clear hxT hxO hxR hxB
            clear HL
            have HAT2 := Lib.hid (fun j (h : j < out.length) => Tn.again_at out ⟨A1, A2, i3, i4, i5⟩ j h)
            have HAE := Lib.hid (fun j h => Tn.again_end out ⟨A1, A2, i3, i4, i5⟩ j h)
            have HAS := Lib.hid (show Tn.again (out.drop 0) ⟨A1, A2, i3, i4, i5⟩ = Tn.again out ⟨A1, A2, i3, i4, i5⟩ by rw [List.drop_zero])
            generalize Tn.again out ⟨A1, A2, i3, i4, i5⟩ = AG at *
            go_wp2_with fail
            go_loopw [74] (fun vj wr2 => ∃ (j : Nat), j ≤ out.length ∧ vj = .int .i64 j ∧ Tn.again (out.drop j) ⟨A1, A2, i3, i4, i5⟩ = AG ∧ Below w6.heap.size w6 wr2) (fun j _ => out.length - (intOf j).toNat)
            case atStart => exact ⟨0, Nat.zero_le _, rfl, HAS.out, Below.refl _ _⟩
            case round =>
              obtain ⟨j, hj, rfl, haj, hbN⟩ := hrel
              clear HAS
              have p0 : True := trivial; have p1 : True := trivial; have p2 : True := trivial; have p3 : True := trivial; have p4 : True := trivial
              have HB6 := Lib.hid hbN
              have hxT := HT.out.below hbN HT.out.lt
              have hxO := ownsRow_keep HO.out hbN
              have hxR := HR.out.keep hbN
              have hxB := HBC.out.trans (hbN.mono HBC.out.size)
              clear HT HO HR HBC hbN p0 p1 p2 p3 p4
              have HT := Lib.hid hxT; have HO := Lib.hid hxO; have HR := Lib.hid hxR; have HBC := Lib.hid hxB
              clear hxT hxO hxR hxB
              by_cases hjk : j < out.length
              · have hjk' : (j : Int) < (out.length : Int) := by omega
                obtain ⟨b', off', rfl, hb, a0, a1, a2, a3, a4⟩ := HR.out.ten j hjk hjk
                rw [HAT2.out j hjk] at haj
                generalize out[j]'hjk = y at *
                obtain ⟨n3, k3, m3, s3, q3⟩ := y
                simp only [Tn.like] at haj
                simp only at a0 a1 a2 a3 a4
                go_upto_region 20 with (fail)
                have ha := (Below.refl wr.heap.size wr).alloc (Nat.le_refl _) (.cells #[.string n3, .string k3, .int .i64 m3, .int .i64 s3, .int .i64 q3] 26)
                have HB7 := Lib.hid (HB6.out.trans (ha.mono HB6.out.size))
                have HT2 := Lib.hid (HT.out.below ha HT.out.lt)
                have hxB := HBC.out.trans (ha.mono HBC.out.size)
                have HY := Has.new wr #[.string n3, .string k3, .int .i64 m3, .int .i64 s3, .int .i64 q3] 26
                clear a0 a1 a2 a3 a4 HB6 HT ha hb HO HR HBC
                have HBC := Lib.hid hxB
                clear hxB
                generalize wr.heap.size = p3 at *
                generalize wr.alloc (.cells #[.string n3, .string k3, .int .i64 m3, .int .i64 s3, .int .i64 q3] 26) = w7 at *
                have y0 := HY.cell 0; have y1 := HY.cell 1
                have x0 := HT2.out.cell 0; have x1 := HT2.out.cell 1
                simp only [List.getElem?_toArray, List.getElem?_cons_zero, List.getElem?_cons_succ] at y0 y1 x0 x1
                clear HY
                have e3 := tstr_eq n3 A1
                have e2 := tstr_eq k3 A2
                by_cases c1 : n3 = A1
                · have d1 : decide (n3 = A1) = true := decide_eq_true c1
                  rw [d1, Bool.true_or, Bool.true_or] at haj
                  rw [d1] at e3
                  have HF := Lib.hid (show R = ([], (k : Int) + 1, 8) by have := HG2.out; rw [← haj, if_pos rfl] at this; exact this.symm)
                  clear haj c1 d1 e2 HG2
                  have HQZ := HQ.out.below HBC.out HQ.out.lt
                  have z0 := HQZ.cell 0; have z1 := HQZ.cell 1; have z2 := HQZ.cell 2
                  have f0 := HQZ.free 0; have f1 := HQZ.free 1; have f2 := HQZ.free 2
                  simp only [List.getElem?_toArray, List.getElem?_cons_zero, List.getElem?_cons_succ] at z0 z1 z2
                  clear HQZ
                  have HBZ := Lib.hid (HB2.out.trans (HBC.out.mono HB2.out.size))
                  go_wp2
                  (try simp only [Exit.inBlock, Exit.then])
                  refine bodyPost_ret (v := .agg #[.slice none 0 0, .int .i64 ((k : Int) + 1), .int .i64 8]) ?_ rfl ⟨.slice none 0 0, ?_, ?_, ?_⟩
                  · rw [results_cell1 rfl]; go_simp
                  · rw [HF.out]
                  · rw [HF.out]; exact World.ownsRow_nil _ _ _ _
                  · exact tnbset3 HBZ.out hqw _ _ _
                · have d1 : decide (n3 = A1) = false := decide_eq_false c1
                  rw [d1, Bool.false_or] at haj
                  rw [d1] at e3
                  clear c1 d1
                  by_cases c2 : k3 = A2
                  · have d2 : decide (k3 = A2) = true := decide_eq_true c2
                    rw [d2, Bool.true_or] at haj
                    rw [d2] at e2
                    have HF := Lib.hid (show R = ([], (k : Int) + 1, 8) by have := HG2.out; rw [← haj, if_pos rfl] at this; exact this.symm)
                    clear haj c2 d2 HG2
                    have HQZ := HQ.out.below HBC.out HQ.out.lt
                    have z0 := HQZ.cell 0; have z1 := HQZ.cell 1; have z2 := HQZ.cell 2
                    have f0 := HQZ.free 0; have f1 := HQZ.free 1; have f2 := HQZ.free 2
                    simp only [List.getElem?_toArray, List.getElem?_cons_zero, List.getElem?_cons_succ] at z0 z1 z2
                    clear HQZ
                    have HBZ := Lib.hid (HB2.out.trans (HBC.out.mono HB2.out.size))
                    go_wp2
                    (try simp only [Exit.inBlock, Exit.then])
                    refine bodyPost_ret (v := .agg #[.slice none 0 0, .int .i64 ((k : Int) + 1), .int .i64 8]) ?_ rfl ⟨.slice none 0 0, ?_, ?_, ?_⟩
                    · rw [results_cell1 rfl]; go_simp
                    · rw [HF.out]
                    · rw [HF.out]; exact World.ownsRow_nil _ _ _ _
                    · exact tnbset3 HBZ.out hqw _ _ _
                  · have d2 : decide (k3 = A2) = false := decide_eq_false c2
                    rw [d2, Bool.false_or] at haj
                    rw [d2] at e2
                    have HJ := Lib.hid haj
                    clear haj c2 d2
                    go_wp2_with fail
                    go_roundw
                    case rel => exact ⟨j + 1, hjk, by go_num, HJ.out, HB7.out⟩
                    case measure => simp [intOf]; omega
              · have hjk' : ¬ (j : Int) < (out.length : Int) := by omega
                rw [HAE.out j (by omega)] at haj
                have HG3 := Lib.hid (show (if out.length = 16 then ([], (k : Int) + 1, 2) else Tn.go (L.drop (k + 1)) (out ++ [⟨A1, A2, i3, i4, i5⟩]) (k + 1)) = R by
                  have := HG2.out; rw [← haj, if_neg (by decide)] at this; exact this)
                clear haj HG2 HAT2 HAE HB6
                by_cases h16 : out.length = 16
                · have HF := Lib.hid (show R = ([], (k : Int) + 1, 2) by rw [← HG3.out, if_pos h16])
                  have h16' : ((out.length : Int) == 16) = true := by rw [h16]; rfl
                  have h16n : (out.length : Int) = 16 := by omega
                  clear h16 HG3
                  have HQZ := HQ.out.below HBC.out HQ.out.lt
                  have z0 := HQZ.cell 0; have z1 := HQZ.cell 1; have z2 := HQZ.cell 2
                  have f0 := HQZ.free 0; have f1 := HQZ.free 1; have f2 := HQZ.free 2
                  simp only [List.getElem?_toArray, List.getElem?_cons_zero, List.getElem?_cons_succ] at z0 z1 z2
                  clear HQZ
                  have HBZ := Lib.hid (HB2.out.trans (HBC.out.mono HB2.out.size))
                  go_wp2
                  (try simp only [Exit.inBlock, Exit.then])
                  refine bodyPost_ret (v := .agg #[.slice none 0 0, .int .i64 ((k : Int) + 1), .int .i64 2]) ?_ rfl ⟨.slice none 0 0, ?_, ?_, ?_⟩
                  · rw [results_cell1 rfl]; go_simp
                  · rw [HF.out]
                  · rw [HF.out]; exact World.ownsRow_nil _ _ _ _
                  · exact tnbset3 HBZ.out hqw _ _ _
                · have HF := Lib.hid (show Tn.go (L.drop (k + 1)) (out ++ [⟨A1, A2, i3, i4, i5⟩]) (k + 1) = R by rw [← HG3.out, if_neg h16])
                  have h16' : ((out.length : Int) == 16) = false := by
                    apply Bool.eq_false_iff.2
                    intro e
                    have := beq_iff_eq.1 e
                    omega
                  have ho15 : out.length ≤ 15 := by omega
                  clear h16 HG3 HR
                  have p0 := HT.out.cell 0; have p1 := HT.out.cell 1; have p2 := HT.out.cell 2; have p3 := HT.out.cell 3; have p4 := HT.out.cell 4
                  simp only [List.getElem?_toArray, List.getElem?_cons_zero, List.getElem?_cons_succ] at p0 p1 p2 p3 p4
                  go_wp2_with (at_builtin; refine appendS Tryd.underlying22 info_ten rfl (by decide) rfl _ _ rfl w2.heap.size out.length _ _ rfl HO.out #[Value.string A1, Value.string A2, Value.int .i64 i3, Value.int .i64 i4, Value.int .i64 i5] rfl (by intro u hu; simp at hu; rcases hu with rfl | rfl | rfl | rfl | rfl <;> rfl) _ rfl rfl (by unfold maxLen; omega) (by omega) HBC.out.size ?_)
                  intro g9 cap' w9 ho hc6 hb6 _ _ _
                  have HO6 := Lib.hid (show w9.ownsRow w2.heap.size 26 5 (.slice (some ⟨g9, 0, none⟩) (out.length + 1) cap') (out ++ [(⟨A1, A2, i3, i4, i5⟩ : Tn.Ten)]).length ((out ++ [(⟨A1, A2, i3, i4, i5⟩ : Tn.Ten)]).flatMap tncells) by
                    rw [List.length_append, List.flatMap_append]; exact ho)
                  have HB9 := Lib.hid (HBC.out.trans hb6)
                  clear ho hc6 hb6 p0 p1 p2 p3 p4 HO HBC HT
                  go_wp2
                  go_roundw
                  case rel => exact ⟨k + 1, out ++ [⟨A1, A2, i3, i4, i5⟩], hlt, by go_num, HF.out, by rw [List.length_append]; show out.length + 1 ≤ 16; omega, HO6.out, HB9.out⟩
                  case measure => simp [intOf]; omega
          · have HF := Lib.hid (show R = ([], (k : Int) + 1, 4) by
              have := HG.out
              rw [HP.out, if_neg (fun h => ht h.2)] at this
              exact this.symm)
            have hbb := tstr_ne (a := Fr.bs (Tn.lineL ⟨A1, A2, i3, i4, i5⟩)) (b := Fr.bs Y) (fun h => ht (by have h2 := congrArg (fun z : ByteArray => z.data.toList) h; simp only [Fr.list_bs] at h2; exact h2))
            generalize Fr.bs (Tn.lineL ⟨A1, A2, i3, i4, i5⟩) = X at *
            clear hm ht HG HP HLN HMY
            go_wp2_with fail
            with_reducible refine (HL.out _).mono ?_
            rintro r6 w6 ⟨rfl, hbN⟩
            have hxT := HT.out.below hbN HT.out.lt
            have hxO := ownsRow_keep HO.out hbN
            have hxR := HR.out.keep hbN
            have hxB := HBC.out.trans (hbN.mono HBC.out.size)
            clear HT HO HR HBC hbN p0 p1 p2 p3 p4
            have HT := Lib.hid hxT; have HO := Lib.hid hxO; have HR := Lib.hid hxR; have HBC := Lib.hid hxB
            clear hxT hxO hxR hxB
            have HQZ := HQ.out.below HBC.out HQ.out.lt
            have z0 := HQZ.cell 0; have z1 := HQZ.cell 1; have z2 := HQZ.cell 2
            have f0 := HQZ.free 0; have f1 := HQZ.free 1; have f2 := HQZ.free 2
            simp only [List.getElem?_toArray, List.getElem?_cons_zero, List.getElem?_cons_succ] at z0 z1 z2
            clear HQZ
            have HBZ := Lib.hid (HB2.out.trans (HBC.out.mono HB2.out.size))
            go_wp2
            (try simp only [Exit.inBlock, Exit.then])
            refine bodyPost_ret (v := .agg #[.slice none 0 0, .int .i64 ((k : Int) + 1), .int .i64 4]) ?_ rfl ⟨.slice none 0 0, ?_, ?_, ?_⟩
            · rw [results_cell1 rfl]; go_simp
            · rw [HF.out]
            · rw [HF.out]; exact World.ownsRow_nil _ _ _ _
            · exact tnbset3 HBZ.out hqw _ _ _
      · have HF := Lib.hid (show R = ([], (k : Int) + 1, 4) by have := HG.out; rw [hnot h5] at this; exact this.symm)
        clear hnot hfive hsm HG HC3
        generalize L5.length = m5 at *
        have h5' : ((m5 : Int) == 5) = false := by simp; omega
        have h5n : ¬ (m5 : Int) = 5 := by omega
        clear h5
        have HQZ := HQ.out.below HBC.out HQ.out.lt
        have z0 := HQZ.cell 0; have z1 := HQZ.cell 1; have z2 := HQZ.cell 2
        have f0 := HQZ.free 0; have f1 := HQZ.free 1; have f2 := HQZ.free 2
        simp only [List.getElem?_toArray, List.getElem?_cons_zero, List.getElem?_cons_succ] at z0 z1 z2
        clear HQZ
        have HBZ := Lib.hid (HB2.out.trans (HBC.out.mono HB2.out.size))
        go_wp2
        (try simp only [Exit.inBlock, Exit.then])
        refine bodyPost_ret (v := .agg #[.slice none 0 0, .int .i64 ((k : Int) + 1), .int .i64 4]) ?_ rfl ⟨.slice none 0 0, ?_, ?_, ?_⟩
        · rw [results_cell1 rfl]; go_simp
        · rw [HF.out]
        · rw [HF.out]; exact World.ownsRow_nil _ _ _ _
        · exact tnbset3 HBZ.out hqw _ _ _
    · have hke : k = n := by omega
      subst hke
      have e1 : ((k : Int) + 1 == (m : Int)) = true := by
        apply beq_iff_eq.2
        have := HMM.out
        omega
      rw [HLAST.out out] at hgo
      have hx := stempty32 (Fr.bs L[k])
      have hxe : (Fr.bs L[k]).size = L[k].length := by rw [← Fr.size_list, Fr.list_bs]
      have HBC := Lib.hid HBR.out
      clear HR4 hXs hsz
      by_cases hl : L[k] = []
      · rw [if_pos hl] at hgo
        have HF := Lib.hid hgo.symm
        have hx2 : (Fr.bs []).toList.isEmpty = true := by rw [stempty32]; rfl
        rw [hl] at hc0'
        clear hgo hl hx hxe
        have HQZ := HQ.out.below HBC.out HQ.out.lt
        have z0 := HQZ.cell 0; have z1 := HQZ.cell 1; have z2 := HQZ.cell 2
        have f0 := HQZ.free 0; have f1 := HQZ.free 1; have f2 := HQZ.free 2
        simp only [List.getElem?_toArray, List.getElem?_cons_zero, List.getElem?_cons_succ] at z0 z1 z2
        clear HQZ
        have HBZ := Lib.hid (HB2.out.trans (HBC.out.mono HB2.out.size))
        go_wp2
        (try simp only [Exit.inBlock, Exit.then])
        refine bodyPost_ret (v := .agg #[.slice a4 out.length c4, .int .i64 0, .int .i64 0]) ?_ rfl ⟨.slice a4 out.length c4, ?_, ?_, ?_⟩
        · rw [results_cell1 rfl]; go_simp
        · rw [HF.out]
        · rw [HF.out]; exact ownsRow_mono (own_set (own_set (own_set HO.out ⟨q, 0, none⟩ _ hqlt) ⟨q, 1, none⟩ _ hqlt) ⟨q, 2, none⟩ _ hqlt) HB2.out.size
        · exact tnbset3 HBZ.out hqw _ _ _
      · rw [if_neg hl] at hgo
        have HF := Lib.hid hgo.symm
        have hx2 : (Fr.bs L[k]).toList.isEmpty = false := by
          rw [hx, hxe]
          exact decide_eq_false (fun h => hl (List.length_eq_zero_iff.1 h))
        generalize Fr.bs L[k] = X at *
        clear hgo hl hx hxe
        have HQZ := HQ.out.below HBC.out HQ.out.lt
        have z0 := HQZ.cell 0; have z1 := HQZ.cell 1; have z2 := HQZ.cell 2
        have f0 := HQZ.free 0; have f1 := HQZ.free 1; have f2 := HQZ.free 2
        simp only [List.getElem?_toArray, List.getElem?_cons_zero, List.getElem?_cons_succ] at z0 z1 z2
        clear HQZ
        have HBZ := Lib.hid (HB2.out.trans (HBC.out.mono HB2.out.size))
        go_wp2
        (try simp only [Exit.inBlock, Exit.then])
        refine bodyPost_ret (v := .agg #[.slice none 0 0, .int .i64 ((k : Int) + 1), .int .i64 4]) ?_ rfl ⟨.slice none 0 0, ?_, ?_, ?_⟩
        · rw [results_cell1 rfl]; go_simp
        · rw [HF.out]
        · rw [HF.out]; exact World.ownsRow_nil _ _ _ _
        · exact tnbset3 HBZ.out hqw _ _ _
end Go.Proofs.YtimlmjabdakojaaDoor
