/- ProtoTexts. -/
import Derived.Test.YtckdbkbecelgcaaDoorPrTxt1
import Derived.Test.YtckdbkbecelgcaaDoorPrLaw4
import Derived.Test.YtckdbkbecelgcaaDoorPrIn
namespace Go.Proofs.YtckdbkbecelgcaaDoor
open Go.RowKit
set_option linter.unusedVariables false
set_option linter.unusedSimpArgs false

theorem textsV_of (T : Option ByteArray) : ∃ S E, textsV T = .tuple #[.string S, .int .i64 E] ∧ (T = none → S = ⟨#[]⟩ ∧ E = 35) ∧ ∀ o, T = some o → S = o ∧ E = 0 := by
  cases T with
  | none => exact ⟨⟨#[]⟩, 35, rfl, fun _ => ⟨rfl, rfl⟩, (fun o h => nomatch h)⟩
  | some s => exact ⟨s, 0, rfl, (fun h => nomatch h), fun o h => ⟨Option.some.inj h, rfl⟩⟩
set_option maxRecDepth 100000 in
set_option maxHeartbeats 3000000 in
theorem protoTexts_walk (l : List Pr.Rq) (a : Option Addr) (len cap : Nat) (w : World) (hl : l.length = len) (ha : RowS w 7 a len cap (l.flatMap rcells)) (_ : ∀ x ∈ l, x.txt.size ≤ maxLen) (hT : Tabs w) : Calls Tryd.prog 7 #[.slice a len cap] w fun e w' => e = .returned (.bool true) ∧ Below w.heap.size w w' := by
  have HT := Lib.hid hT
  have HA := Lib.hid ha
  subst hl
  clear hT ha
  by_cases hl : 20 < l.length
  · have hl' : (20 : Int) < (l.length : Int) := by omega
    go_enter Tryd.func7, Tryd.ntmps7
    go_wp2_with fail
    (with_reducible refine (nine_walk _ HT.out).mono ?_)
    rintro e w1 ⟨rfl, hb⟩
    go_wp2
    go_ret
    exact ⟨rfl, hb⟩
  · have hl' : ¬ (20 : Int) < (l.length : Int) := by omega
    have HM := Lib.hid (show l.length ≤ 20 by omega)
    have HX := Lib.hid (text_walk l a l.length cap w HA.out rfl HM.out HT.out)
    obtain ⟨S, E, hSE, hSn, hSs⟩ := textsV_of (Pr.texts l Pr.e0)
    rw [hSE] at HX
    generalize hTT : Pr.texts l Pr.e0 = T at *
    have HTT := Lib.hid hTT
    have HSn := Lib.hid hSn
    have HSs := Lib.hid hSs
    clear hTT hSE hSn hSs hl
    go_enter Tryd.func7, Tryd.ntmps7
    go_wp2_with fail
    (with_reducible refine (HX.out).mono ?_)
    rintro e w1 ⟨rfl, hb1⟩
    have HB1 := Lib.hid hb1
    clear hb1
    go_wp2_with fail
    go_loopw [5, 21] (fun v i wr => ∃ (k : Nat) (o : ByteArray), k ≤ l.length ∧ v = .string o ∧ i = .int .i64 k ∧ Pr.texts (l.drop k) o = T ∧ o.size ≤ k * 70000 ∧ Below w.heap.size w wr) (fun _ i _ => l.length - (intOf i).toNat)
    case atStart => exact ⟨0, Pr.e0, Nat.zero_le _, rfl, rfl, HTT.out, Nat.zero_le _, HB1.out⟩
    case round =>
      obtain ⟨k, o, hk, rfl, rfl, htx, hos, hbr⟩ := hrel
      have HB := Lib.hid hbr
      clear hbr HTT
      have hm := HM.out
      by_cases hlt : k < l.length
      · obtain ⟨ba, oa, rfl, hba, hca⟩ := (HA.out.keep HB.out).at k hlt
        have hsome := Pr.texts_some l k o hlt
        have hnone := Pr.texts_none l k o hlt
        rw [htx] at hsome hnone
        have a0 := hca 0 (by decide); have a1 := hca 1 (by decide); have a2 := hca 2 (by decide); have a3 := hca 3 (by decide); have a4 := hca 4 (by decide); have a5 := hca 5 (by decide); have a6 := hca 6 (by decide)
        rw [flat_get rcells 7 (fun _ => rfl) l k _ hlt (by decide)] at a0 a1 a2 a3 a4 a5 a6
        clear hca htx
        generalize l[k] = r at *
        obtain ⟨t, j, tok, txt, kd, lv, n⟩ := r
        simp only [rcells, List.getD_cons_zero, List.getD_cons_succ] at a0 a1 a2 a3 a4 a5 a6
        simp only [← Nat.add_assoc, Nat.add_zero] at a0 a1 a2 a3 a4 a5 a6
        have hk1 : (k : Int) < (l.length : Int) := by omega
        have HL := Lib.hid (Hold.nil wr)
        go_upto_region 8 with (fail)
        have HBn := Lib.hid (HB.out.alloc HB.out.size (.cells #[.int .i64 t, .int .i64 j, .string tok, .string txt, .int .i64 kd, .int .i64 lv, .int .i64 n] 27))
        have HLn := Lib.hid (HL.out.add #[.int .i64 t, .int .i64 j, .string tok, .string txt, .int .i64 kd, .int .i64 lv, .int .i64 n] 27)
        clear HB HL
        have HB := HBn
        have HL := HLn
        clear HBn HLn
        generalize wr.heap.size = q0 at *
        generalize wr.alloc (.cells #[.int .i64 t, .int .i64 j, .string tok, .string txt, .int .i64 kd, .int .i64 lv, .int .i64 n] 27) = w3 at *
        clear a0 a1 a2 a3 a4 a5 a6
        have HP := Lib.hid (HL.out.at 0 rfl)
        have p0 := HP.out.cell 0; have p1 := HP.out.cell 1; have p2 := HP.out.cell 2; have p3 := HP.out.cell 3; have p4 := HP.out.cell 4; have p5 := HP.out.cell 5; have p6 := HP.out.cell 6
        simp only [List.getElem?_toArray, List.getElem?_cons_zero, List.getElem?_cons_succ] at p0 p1 p2 p3 p4 p5 p6
        clear HP
        by_cases hx : 100 < txt.size
        · have hx' : (100 : Int) < (txt.size : Int) := by omega
          clear hx
          go_wp2_with fail
          (with_reducible refine (nine_walk _ (HT.out.keep HB.out)).mono ?_)
          rintro e w8 ⟨rfl, hb⟩
          have HBn := Lib.hid (HB.out.trans (hb.mono HB.out.size))
          have HLn := Lib.hid (HL.out.keep hb)
          clear HB HL hb
          have HB := HBn
          have HL := HLn
          clear HBn HLn
          go_wp2
          go_ret
          exact ⟨rfl, HB.out⟩
        · have hx' : ¬ (100 : Int) < (txt.size : Int) := by omega
          clear hx
          by_cases hy : 100 < tok.size
          · have hy' : (100 : Int) < (tok.size : Int) := by omega
            clear hy
            go_wp2_with fail
            (with_reducible refine (nine_walk _ (HT.out.keep HB.out)).mono ?_)
            rintro e w8 ⟨rfl, hb⟩
            have HBn := Lib.hid (HB.out.trans (hb.mono HB.out.size))
            have HLn := Lib.hid (HL.out.keep hb)
            clear HB HL hb
            have HB := HBn
            have HL := HLn
            clear HBn HLn
            go_wp2
            go_ret
            exact ⟨rfl, HB.out⟩
          · have hy' : ¬ (100 : Int) < (tok.size : Int) := by omega
            clear hy
            have HREF := Lib.hid (fun w => reff_walk t j tok txt kd lv n w)
            have HDAT := Lib.hid (fun w => rdata_walk t j tok txt kd lv n w)
            have hak := Pr.ask_ref ⟨t, j, tok, txt, kd, lv, n⟩
            simp only at hak
            generalize Pr.rdt ⟨t, j, tok, txt, kd, lv, n⟩ = D at *
            have HRR := Lib.hid (fun w => rread_walk t j D w)
            rcases hak with ⟨hr, ha⟩ | ⟨hr, ha⟩
            · rw [hr] at HRR
              obtain ⟨hw0, hds⟩ := Pr.ask_wrong _ _ ha
              have hes := Pr.enc_size _ hds
              have Hsome := Lib.hid (hsome _ ha).symm
              have HENC := Lib.hid (fun w => refenc ⟨t, j, D⟩ w hw0)
              generalize Fr.enc ⟨t, j, D⟩ = N at *
              simp only [askV] at HRR
              simp only [fv] at HENC
              clear hr ha hsome hnone hw0 hds
              go_upto_region 10 with (fail)
              clear p0 p1 p2 p3 p4 p5 p6
              have l0 := (HL.out.at 0 rfl).lt
              have HBS := Lib.hid HB.out.size
              apply Quiet.region_make 8 8 (Psi := fun x w' => ∃ r, x = .pointer (some ⟨r, 0, none⟩) ∧ w3.heap.size ≤ r ∧ Has w' r #[.int .i64 0, .int .i64 0, .string ⟨#[]⟩] 23) (by kernel_rfl) (by kernel_rfl) (by kernel_rfl)
              case H1 =>
                intro wb hwb
                have HP := Lib.hid (HL.out.at 0 rfl)
                have d0 : ∀ x : Later wb, x.at.cell? ⟨q0, 0, none⟩ = some (.int .i64 t) := fun x => x.cell ((Later.mk hwb).cell (HP.out.cell 0))
                have d1 : ∀ x : Later wb, x.at.cell? ⟨q0, 1, none⟩ = some (.int .i64 j) := fun x => x.cell ((Later.mk hwb).cell (HP.out.cell 1))
                have d2 : ∀ x : Later wb, x.at.cell? ⟨q0, 2, none⟩ = some (.string tok) := fun x => x.cell ((Later.mk hwb).cell (HP.out.cell 2))
                have d3 : ∀ x : Later wb, x.at.cell? ⟨q0, 3, none⟩ = some (.string txt) := fun x => x.cell ((Later.mk hwb).cell (HP.out.cell 3))
                have d4 : ∀ x : Later wb, x.at.cell? ⟨q0, 4, none⟩ = some (.int .i64 kd) := fun x => x.cell ((Later.mk hwb).cell (HP.out.cell 4))
                have d5 : ∀ x : Later wb, x.at.cell? ⟨q0, 5, none⟩ = some (.int .i64 lv) := fun x => x.cell ((Later.mk hwb).cell (HP.out.cell 5))
                have d6 : ∀ x : Later wb, x.at.cell? ⟨q0, 6, none⟩ = some (.int .i64 n) := fun x => x.cell ((Later.mk hwb).cell (HP.out.cell 6))
                have HVX := Lib.hid (fun x : Later wb => later_call (x := x) (HREF.out x.at))
                have HVY := Lib.hid (fun x : Later wb => later_call (x := x) (HDAT.out x.at))
                clear HP
                show wpQuiet _ _ (fun w' => ∃ x : Later wb, w' = x.at) _ _ _
                simp only [List.take_succ_cons, List.take_zero]
                repeat (go_big_quiet_step (first | (with_reducible exact HVX.out _) | (with_reducible exact HVY.out _)))
                exact rfl
              case make =>
                intro o_ ho wa hwa
                obtain rfl := Option.some.inj ho
                refine ⟨.pointer (some ⟨wa.heap.size, 0, none⟩), wa.alloc (.cells #[.int .i64 0, .int .i64 0, .string ⟨#[]⟩] 23), ?_, ?_, ⟨wa.heap.size, rfl, hwa.size, Has.new wa _ _⟩⟩
                · kernel_rfl
                · exact (Below.refl _ _).alloc (Nat.le_refl _) _
              case mono =>
                rintro x wa wb ⟨r, hx, hr, hh⟩ hwb
                exact ⟨r, hx, hr, Has.below hh hwb (Has.lt hh)⟩
              rintro x w4 hl2 ⟨r, rfl, hr1, hh⟩
              simp only [List.drop_succ_cons, List.drop_zero, Act.put, List.setIfInBounds_toArray, List.set_cons_succ, List.set_cons_zero]
              have hb : Below w3.heap.size w3 w4 := hl2
              clear hl2
              have HBn := Lib.hid (HB.out.trans (hb.mono HB.out.size))
              have HLn := Lib.hid (HL.out.keep hb)
              clear HB HL hb
              have HB := HBn
              have HL := HLn
              clear HBn HLn
              have hrl := hh.lt
              have hrb : w.heap.size ≤ r := Nat.le_trans HBS.out hr1
              have HF := Lib.hid hh
              clear hh
              have z0 := HF.out.cell 0; have z1 := HF.out.cell 1; have z2 := HF.out.cell 2
              have y0 := HF.out.free 0; have y1 := HF.out.free 1; have y2 := HF.out.free 2
              simp only [List.getElem?_toArray, List.getElem?_cons_zero, List.getElem?_cons_succ] at z0 z1 z2
              go_upto_region 11 with (fail)
              have HF3 := Lib.hid (fset3 HF.out (.int .i64 t) (.int .i64 j) (.string D))
              have HLn := Lib.hid ((HL.out.set3 (r := r) (by intro x hx; simp only [List.mem_cons, List.not_mem_nil, or_false] at hx; obtain rfl := hx; simp only; omega) (.int .i64 t) (.int .i64 j) (.string D)).cons HF3.out)
              have HBn := Lib.hid (bset3 HB.out (r := r) hrb (.int .i64 t) (.int .i64 j) (.string D))
              clear z0 z1 z2 y0 y1 y2 HF HF3 HL HB l0
              have HL := HLn
              have HB := HBn
              clear HLn HBn hrl hr1 hrb HBS
              generalize ((w4.setCell ⟨r, 0, none⟩ (.int .i64 t)).setCell ⟨r, 1, none⟩ (.int .i64 j)).setCell ⟨r, 2, none⟩ (.string D) = w5 at *
              have HP := Lib.hid (HL.out.at 0 rfl)
              have z0 := HP.out.cell 0; have z1 := HP.out.cell 1; have z2 := HP.out.cell 2
              simp only [List.getElem?_toArray, List.getElem?_cons_zero, List.getElem?_cons_succ] at z0 z1 z2
              clear HP
              go_wp2_with fail
              (with_reducible refine (HRR.out _).mono ?_)
              rintro e w6 ⟨rfl, hb⟩
              have HBn := Lib.hid (HB.out.trans (hb.mono HB.out.size))
              have HLn := Lib.hid (HL.out.keep hb)
              clear HB HL hb
              have HB := HBn
              have HL := HLn
              clear HBn HLn
              clear z0 z1 z2
              go_upto_region 12 with (fail)
              have HBn := Lib.hid (HB.out.alloc HB.out.size (.cells #[.int .i64 t, .int .i64 j, .string tok, .string txt, .int .i64 kd, .int .i64 lv, .int .i64 n, .bool true] 33))
              have HLn := Lib.hid (HL.out.add #[.int .i64 t, .int .i64 j, .string tok, .string txt, .int .i64 kd, .int .i64 lv, .int .i64 n, .bool true] 33)
              clear HB HL
              have HB := HBn
              have HL := HLn
              clear HBn HLn
              generalize w6.heap.size = q3 at *
              generalize w6.alloc (.cells #[.int .i64 t, .int .i64 j, .string tok, .string txt, .int .i64 kd, .int .i64 lv, .int .i64 n, .bool true] 33) = w7 at *
              have HP := Lib.hid (HL.out.at 0 rfl)
              have s0 := HP.out.cell 0; have s1 := HP.out.cell 1; have s2 := HP.out.cell 2; have s3 := HP.out.cell 3; have s4 := HP.out.cell 4; have s5 := HP.out.cell 5; have s6 := HP.out.cell 6
              simp only [List.getElem?_toArray, List.getElem?_cons_zero, List.getElem?_cons_succ] at s0 s1 s2 s3 s4 s5 s6
              clear HP
              have HP := Lib.hid (HL.out.at 2 rfl)
              have p0 := HP.out.cell 0; have p1 := HP.out.cell 1; have p2 := HP.out.cell 2; have p3 := HP.out.cell 3; have p4 := HP.out.cell 4; have p5 := HP.out.cell 5; have p6 := HP.out.cell 6
              simp only [List.getElem?_toArray, List.getElem?_cons_zero, List.getElem?_cons_succ] at p0 p1 p2 p3 p4 p5 p6
              clear HP
              have s7 := (HL.out.at 0 rfl).cell 7
              simp only [List.getElem?_toArray, List.getElem?_cons_zero, List.getElem?_cons_succ] at s7
              have P0 : ∀ x : Later w7, x.at.cell? ⟨q0, 0, none⟩ = some (.int .i64 t) := fun x => x.cell p0
              have P1 : ∀ x : Later w7, x.at.cell? ⟨q0, 1, none⟩ = some (.int .i64 j) := fun x => x.cell p1
              have P2 : ∀ x : Later w7, x.at.cell? ⟨q0, 2, none⟩ = some (.string tok) := fun x => x.cell p2
              have P3 : ∀ x : Later w7, x.at.cell? ⟨q0, 3, none⟩ = some (.string txt) := fun x => x.cell p3
              have P4 : ∀ x : Later w7, x.at.cell? ⟨q0, 4, none⟩ = some (.int .i64 kd) := fun x => x.cell p4
              have P5 : ∀ x : Later w7, x.at.cell? ⟨q0, 5, none⟩ = some (.int .i64 lv) := fun x => x.cell p5
              have P6 : ∀ x : Later w7, x.at.cell? ⟨q0, 6, none⟩ = some (.int .i64 n) := fun x => x.cell p6
              have S0 : ∀ x : Later w7, x.at.cell? ⟨q3, 0, none⟩ = _ := fun x => x.cell s0
              have S1 : ∀ x : Later w7, x.at.cell? ⟨q3, 1, none⟩ = _ := fun x => x.cell s1
              have S2 : ∀ x : Later w7, x.at.cell? ⟨q3, 2, none⟩ = _ := fun x => x.cell s2
              have S3 : ∀ x : Later w7, x.at.cell? ⟨q3, 3, none⟩ = _ := fun x => x.cell s3
              have S4 : ∀ x : Later w7, x.at.cell? ⟨q3, 4, none⟩ = _ := fun x => x.cell s4
              have S5 : ∀ x : Later w7, x.at.cell? ⟨q3, 5, none⟩ = _ := fun x => x.cell s5
              have S6 : ∀ x : Later w7, x.at.cell? ⟨q3, 6, none⟩ = _ := fun x => x.cell s6
              have S7 : ∀ x : Later w7, x.at.cell? ⟨q3, 7, none⟩ = _ := fun x => x.cell s7
              have V1 := Lib.hid (fun x : Later w7 => later_call (x := x) (HREF.out x.at))
              clear p0 p1 p2 p3 p4 p5 p6 s0 s1 s2 s3 s4 s5 s6 s7
              refine region_later 10 (by kernel_rfl) (by kernel_rfl) ?_
              simp only [List.take_succ_cons, List.take_zero, List.drop_succ_cons, List.drop_zero]
              repeat (go_big_quiet_step ((with_reducible exact V1.out _)))
              refine wpQuiet_nil ?_
              rintro w' ⟨x, rfl⟩
              have hb : Below w7.heap.size w7 x.at := x.below
              have HBn := Lib.hid (HB.out.trans (hb.mono HB.out.size))
              have HLn := Lib.hid (HL.out.keep hb)
              clear HB HL hb
              have HB := HBn
              have HL := HLn
              clear HBn HLn
              clear V1 P0 P1 P2 P3 P4 P5 P6 S0 S1 S2 S3 S4 S5 S6 S7
              generalize x.at = w8 at *
              have HP := Lib.hid (HL.out.at 1 rfl)
              have z0 := HP.out.cell 0; have z1 := HP.out.cell 1; have z2 := HP.out.cell 2
              simp only [List.getElem?_toArray, List.getElem?_cons_zero, List.getElem?_cons_succ] at z0 z1 z2
              clear HP
              go_wp2_with fail
              (with_reducible refine (HENC.out _).mono ?_)
              rintro e w9 ⟨rfl, hb⟩
              have HBn := Lib.hid (HB.out.trans (hb.mono HB.out.size))
              have HLn := Lib.hid (HL.out.keep hb)
              clear HB HL hb
              have HB := HBn
              have HL := HLn
              clear HBn HLn
              clear z0 z1 z2
              have hcat : o.size + N.size ≤ maxLen := by unfold maxLen; omega
              go_wp2
              go_roundw
              case rel => exact ⟨k + 1, o ++ N, hlt, rfl, by go_num, Hsome.out, by rw [ByteArray.size_append]; omega, HB.out⟩
              case measure => simp [intOf]; omega
            · have hN := hnone ha
              obtain ⟨rfl, rfl⟩ := HSn.out hN
              cases hrd : Pr.rd ⟨t, j, D⟩ with
              | none =>
                rw [hrd] at HRR
                simp only [askV] at HRR
                clear hr ha hrd hsome hnone hN
                go_upto_region 10 with (fail)
                clear p0 p1 p2 p3 p4 p5 p6
                have l0 := (HL.out.at 0 rfl).lt
                have HBS := Lib.hid HB.out.size
                apply Quiet.region_make 8 8 (Psi := fun x w' => ∃ r, x = .pointer (some ⟨r, 0, none⟩) ∧ w3.heap.size ≤ r ∧ Has w' r #[.int .i64 0, .int .i64 0, .string ⟨#[]⟩] 23) (by kernel_rfl) (by kernel_rfl) (by kernel_rfl)
                case H1 =>
                  intro wb hwb
                  have HP := Lib.hid (HL.out.at 0 rfl)
                  have d0 : ∀ x : Later wb, x.at.cell? ⟨q0, 0, none⟩ = some (.int .i64 t) := fun x => x.cell ((Later.mk hwb).cell (HP.out.cell 0))
                  have d1 : ∀ x : Later wb, x.at.cell? ⟨q0, 1, none⟩ = some (.int .i64 j) := fun x => x.cell ((Later.mk hwb).cell (HP.out.cell 1))
                  have d2 : ∀ x : Later wb, x.at.cell? ⟨q0, 2, none⟩ = some (.string tok) := fun x => x.cell ((Later.mk hwb).cell (HP.out.cell 2))
                  have d3 : ∀ x : Later wb, x.at.cell? ⟨q0, 3, none⟩ = some (.string txt) := fun x => x.cell ((Later.mk hwb).cell (HP.out.cell 3))
                  have d4 : ∀ x : Later wb, x.at.cell? ⟨q0, 4, none⟩ = some (.int .i64 kd) := fun x => x.cell ((Later.mk hwb).cell (HP.out.cell 4))
                  have d5 : ∀ x : Later wb, x.at.cell? ⟨q0, 5, none⟩ = some (.int .i64 lv) := fun x => x.cell ((Later.mk hwb).cell (HP.out.cell 5))
                  have d6 : ∀ x : Later wb, x.at.cell? ⟨q0, 6, none⟩ = some (.int .i64 n) := fun x => x.cell ((Later.mk hwb).cell (HP.out.cell 6))
                  have HVX := Lib.hid (fun x : Later wb => later_call (x := x) (HREF.out x.at))
                  have HVY := Lib.hid (fun x : Later wb => later_call (x := x) (HDAT.out x.at))
                  clear HP
                  show wpQuiet _ _ (fun w' => ∃ x : Later wb, w' = x.at) _ _ _
                  simp only [List.take_succ_cons, List.take_zero]
                  repeat (go_big_quiet_step (first | (with_reducible exact HVX.out _) | (with_reducible exact HVY.out _)))
                  exact rfl
                case make =>
                  intro o_ ho wa hwa
                  obtain rfl := Option.some.inj ho
                  refine ⟨.pointer (some ⟨wa.heap.size, 0, none⟩), wa.alloc (.cells #[.int .i64 0, .int .i64 0, .string ⟨#[]⟩] 23), ?_, ?_, ⟨wa.heap.size, rfl, hwa.size, Has.new wa _ _⟩⟩
                  · kernel_rfl
                  · exact (Below.refl _ _).alloc (Nat.le_refl _) _
                case mono =>
                  rintro x wa wb ⟨r, hx, hr, hh⟩ hwb
                  exact ⟨r, hx, hr, Has.below hh hwb (Has.lt hh)⟩
                rintro x w4 hl2 ⟨r, rfl, hr1, hh⟩
                simp only [List.drop_succ_cons, List.drop_zero, Act.put, List.setIfInBounds_toArray, List.set_cons_succ, List.set_cons_zero]
                have hb : Below w3.heap.size w3 w4 := hl2
                clear hl2
                have HBn := Lib.hid (HB.out.trans (hb.mono HB.out.size))
                have HLn := Lib.hid (HL.out.keep hb)
                clear HB HL hb
                have HB := HBn
                have HL := HLn
                clear HBn HLn
                have hrl := hh.lt
                have hrb : w.heap.size ≤ r := Nat.le_trans HBS.out hr1
                have HF := Lib.hid hh
                clear hh
                have z0 := HF.out.cell 0; have z1 := HF.out.cell 1; have z2 := HF.out.cell 2
                have y0 := HF.out.free 0; have y1 := HF.out.free 1; have y2 := HF.out.free 2
                simp only [List.getElem?_toArray, List.getElem?_cons_zero, List.getElem?_cons_succ] at z0 z1 z2
                go_upto_region 11 with (fail)
                have HF3 := Lib.hid (fset3 HF.out (.int .i64 t) (.int .i64 j) (.string D))
                have HLn := Lib.hid ((HL.out.set3 (r := r) (by intro x hx; simp only [List.mem_cons, List.not_mem_nil, or_false] at hx; obtain rfl := hx; simp only; omega) (.int .i64 t) (.int .i64 j) (.string D)).cons HF3.out)
                have HBn := Lib.hid (bset3 HB.out (r := r) hrb (.int .i64 t) (.int .i64 j) (.string D))
                clear z0 z1 z2 y0 y1 y2 HF HF3 HL HB l0
                have HL := HLn
                have HB := HBn
                clear HLn HBn hrl hr1 hrb HBS
                generalize ((w4.setCell ⟨r, 0, none⟩ (.int .i64 t)).setCell ⟨r, 1, none⟩ (.int .i64 j)).setCell ⟨r, 2, none⟩ (.string D) = w5 at *
                have HP := Lib.hid (HL.out.at 0 rfl)
                have z0 := HP.out.cell 0; have z1 := HP.out.cell 1; have z2 := HP.out.cell 2
                simp only [List.getElem?_toArray, List.getElem?_cons_zero, List.getElem?_cons_succ] at z0 z1 z2
                clear HP
                go_wp2_with fail
                (with_reducible refine (HRR.out _).mono ?_)
                rintro e w6 ⟨rfl, hb⟩
                have HBn := Lib.hid (HB.out.trans (hb.mono HB.out.size))
                have HLn := Lib.hid (HL.out.keep hb)
                clear HB HL hb
                have HB := HBn
                have HL := HLn
                clear HBn HLn
                clear z0 z1 z2
                go_upto_region 12 with (fail)
                have HBn := Lib.hid (HB.out.alloc HB.out.size (.cells #[.int .i64 0, .int .i64 0, .string ⟨#[]⟩, .string ⟨#[]⟩, .int .i64 0, .int .i64 0, .int .i64 0, .bool false] 33))
                have HLn := Lib.hid (HL.out.add #[.int .i64 0, .int .i64 0, .string ⟨#[]⟩, .string ⟨#[]⟩, .int .i64 0, .int .i64 0, .int .i64 0, .bool false] 33)
                clear HB HL
                have HB := HBn
                have HL := HLn
                clear HBn HLn
                generalize w6.heap.size = q3 at *
                generalize w6.alloc (.cells #[.int .i64 0, .int .i64 0, .string ⟨#[]⟩, .string ⟨#[]⟩, .int .i64 0, .int .i64 0, .int .i64 0, .bool false] 33) = w7 at *
                have HP := Lib.hid (HL.out.at 0 rfl)
                have s0 := HP.out.cell 0; have s1 := HP.out.cell 1; have s2 := HP.out.cell 2; have s3 := HP.out.cell 3; have s4 := HP.out.cell 4; have s5 := HP.out.cell 5; have s6 := HP.out.cell 6
                simp only [List.getElem?_toArray, List.getElem?_cons_zero, List.getElem?_cons_succ] at s0 s1 s2 s3 s4 s5 s6
                clear HP
                have HP := Lib.hid (HL.out.at 2 rfl)
                have p0 := HP.out.cell 0; have p1 := HP.out.cell 1; have p2 := HP.out.cell 2; have p3 := HP.out.cell 3; have p4 := HP.out.cell 4; have p5 := HP.out.cell 5; have p6 := HP.out.cell 6
                simp only [List.getElem?_toArray, List.getElem?_cons_zero, List.getElem?_cons_succ] at p0 p1 p2 p3 p4 p5 p6
                clear HP
                have s7 := (HL.out.at 0 rfl).cell 7
                simp only [List.getElem?_toArray, List.getElem?_cons_zero, List.getElem?_cons_succ] at s7
                have P0 : ∀ x : Later w7, x.at.cell? ⟨q0, 0, none⟩ = some (.int .i64 t) := fun x => x.cell p0
                have P1 : ∀ x : Later w7, x.at.cell? ⟨q0, 1, none⟩ = some (.int .i64 j) := fun x => x.cell p1
                have P2 : ∀ x : Later w7, x.at.cell? ⟨q0, 2, none⟩ = some (.string tok) := fun x => x.cell p2
                have P3 : ∀ x : Later w7, x.at.cell? ⟨q0, 3, none⟩ = some (.string txt) := fun x => x.cell p3
                have P4 : ∀ x : Later w7, x.at.cell? ⟨q0, 4, none⟩ = some (.int .i64 kd) := fun x => x.cell p4
                have P5 : ∀ x : Later w7, x.at.cell? ⟨q0, 5, none⟩ = some (.int .i64 lv) := fun x => x.cell p5
                have P6 : ∀ x : Later w7, x.at.cell? ⟨q0, 6, none⟩ = some (.int .i64 n) := fun x => x.cell p6
                have S0 : ∀ x : Later w7, x.at.cell? ⟨q3, 0, none⟩ = _ := fun x => x.cell s0
                have S1 : ∀ x : Later w7, x.at.cell? ⟨q3, 1, none⟩ = _ := fun x => x.cell s1
                have S2 : ∀ x : Later w7, x.at.cell? ⟨q3, 2, none⟩ = _ := fun x => x.cell s2
                have S3 : ∀ x : Later w7, x.at.cell? ⟨q3, 3, none⟩ = _ := fun x => x.cell s3
                have S4 : ∀ x : Later w7, x.at.cell? ⟨q3, 4, none⟩ = _ := fun x => x.cell s4
                have S5 : ∀ x : Later w7, x.at.cell? ⟨q3, 5, none⟩ = _ := fun x => x.cell s5
                have S6 : ∀ x : Later w7, x.at.cell? ⟨q3, 6, none⟩ = _ := fun x => x.cell s6
                have S7 : ∀ x : Later w7, x.at.cell? ⟨q3, 7, none⟩ = _ := fun x => x.cell s7
                have V1 := Lib.hid (fun x : Later w7 => later_call (x := x) (HREF.out x.at))
                clear p0 p1 p2 p3 p4 p5 p6 s0 s1 s2 s3 s4 s5 s6 s7
                refine region_later 10 (by kernel_rfl) (by kernel_rfl) ?_
                simp only [List.take_succ_cons, List.take_zero, List.drop_succ_cons, List.drop_zero]
                repeat (go_big_quiet_step ((with_reducible exact V1.out _)))
                refine wpQuiet_nil ?_
                rintro w' ⟨x, rfl⟩
                have hb : Below w7.heap.size w7 x.at := x.below
                have HBn := Lib.hid (HB.out.trans (hb.mono HB.out.size))
                have HLn := Lib.hid (HL.out.keep hb)
                clear HB HL hb
                have HB := HBn
                have HL := HLn
                clear HBn HLn
                clear V1 P0 P1 P2 P3 P4 P5 P6 S0 S1 S2 S3 S4 S5 S6 S7
                generalize x.at = w8 at *
                go_wp2_with fail
                (with_reducible refine (nine_walk _ (HT.out.keep HB.out)).mono ?_)
                rintro e w9 ⟨rfl, hb⟩
                have HBn := Lib.hid (HB.out.trans (hb.mono HB.out.size))
                have HLn := Lib.hid (HL.out.keep hb)
                clear HB HL hb
                have HB := HBn
                have HL := HLn
                clear HBn HLn
                go_wp2
                go_ret
                exact ⟨rfl, HB.out⟩
              | some x =>
                rw [hrd] at HRR hr
                have hx : x ≠ ⟨t, j, tok, txt, kd, lv, n⟩ := fun e => hr (by rw [e])
                have hne := fun w => rrq_neq x ⟨t, j, tok, txt, kd, lv, n⟩ hx w
                obtain ⟨b1, b2, b3, b4, b5, b6, b7⟩ := x
                simp only [askV, rqV] at HRR hne
                clear hr ha hrd hx hsome hnone hN
                go_upto_region 10 with (fail)
                clear p0 p1 p2 p3 p4 p5 p6
                have l0 := (HL.out.at 0 rfl).lt
                have HBS := Lib.hid HB.out.size
                apply Quiet.region_make 8 8 (Psi := fun x w' => ∃ r, x = .pointer (some ⟨r, 0, none⟩) ∧ w3.heap.size ≤ r ∧ Has w' r #[.int .i64 0, .int .i64 0, .string ⟨#[]⟩] 23) (by kernel_rfl) (by kernel_rfl) (by kernel_rfl)
                case H1 =>
                  intro wb hwb
                  have HP := Lib.hid (HL.out.at 0 rfl)
                  have d0 : ∀ x : Later wb, x.at.cell? ⟨q0, 0, none⟩ = some (.int .i64 t) := fun x => x.cell ((Later.mk hwb).cell (HP.out.cell 0))
                  have d1 : ∀ x : Later wb, x.at.cell? ⟨q0, 1, none⟩ = some (.int .i64 j) := fun x => x.cell ((Later.mk hwb).cell (HP.out.cell 1))
                  have d2 : ∀ x : Later wb, x.at.cell? ⟨q0, 2, none⟩ = some (.string tok) := fun x => x.cell ((Later.mk hwb).cell (HP.out.cell 2))
                  have d3 : ∀ x : Later wb, x.at.cell? ⟨q0, 3, none⟩ = some (.string txt) := fun x => x.cell ((Later.mk hwb).cell (HP.out.cell 3))
                  have d4 : ∀ x : Later wb, x.at.cell? ⟨q0, 4, none⟩ = some (.int .i64 kd) := fun x => x.cell ((Later.mk hwb).cell (HP.out.cell 4))
                  have d5 : ∀ x : Later wb, x.at.cell? ⟨q0, 5, none⟩ = some (.int .i64 lv) := fun x => x.cell ((Later.mk hwb).cell (HP.out.cell 5))
                  have d6 : ∀ x : Later wb, x.at.cell? ⟨q0, 6, none⟩ = some (.int .i64 n) := fun x => x.cell ((Later.mk hwb).cell (HP.out.cell 6))
                  have HVX := Lib.hid (fun x : Later wb => later_call (x := x) (HREF.out x.at))
                  have HVY := Lib.hid (fun x : Later wb => later_call (x := x) (HDAT.out x.at))
                  clear HP
                  show wpQuiet _ _ (fun w' => ∃ x : Later wb, w' = x.at) _ _ _
                  simp only [List.take_succ_cons, List.take_zero]
                  repeat (go_big_quiet_step (first | (with_reducible exact HVX.out _) | (with_reducible exact HVY.out _)))
                  exact rfl
                case make =>
                  intro o_ ho wa hwa
                  obtain rfl := Option.some.inj ho
                  refine ⟨.pointer (some ⟨wa.heap.size, 0, none⟩), wa.alloc (.cells #[.int .i64 0, .int .i64 0, .string ⟨#[]⟩] 23), ?_, ?_, ⟨wa.heap.size, rfl, hwa.size, Has.new wa _ _⟩⟩
                  · kernel_rfl
                  · exact (Below.refl _ _).alloc (Nat.le_refl _) _
                case mono =>
                  rintro x wa wb ⟨r, hx, hr, hh⟩ hwb
                  exact ⟨r, hx, hr, Has.below hh hwb (Has.lt hh)⟩
                rintro x w4 hl2 ⟨r, rfl, hr1, hh⟩
                simp only [List.drop_succ_cons, List.drop_zero, Act.put, List.setIfInBounds_toArray, List.set_cons_succ, List.set_cons_zero]
                have hb : Below w3.heap.size w3 w4 := hl2
                clear hl2
                have HBn := Lib.hid (HB.out.trans (hb.mono HB.out.size))
                have HLn := Lib.hid (HL.out.keep hb)
                clear HB HL hb
                have HB := HBn
                have HL := HLn
                clear HBn HLn
                have hrl := hh.lt
                have hrb : w.heap.size ≤ r := Nat.le_trans HBS.out hr1
                have HF := Lib.hid hh
                clear hh
                have z0 := HF.out.cell 0; have z1 := HF.out.cell 1; have z2 := HF.out.cell 2
                have y0 := HF.out.free 0; have y1 := HF.out.free 1; have y2 := HF.out.free 2
                simp only [List.getElem?_toArray, List.getElem?_cons_zero, List.getElem?_cons_succ] at z0 z1 z2
                go_upto_region 11 with (fail)
                have HF3 := Lib.hid (fset3 HF.out (.int .i64 t) (.int .i64 j) (.string D))
                have HLn := Lib.hid ((HL.out.set3 (r := r) (by intro x hx; simp only [List.mem_cons, List.not_mem_nil, or_false] at hx; obtain rfl := hx; simp only; omega) (.int .i64 t) (.int .i64 j) (.string D)).cons HF3.out)
                have HBn := Lib.hid (bset3 HB.out (r := r) hrb (.int .i64 t) (.int .i64 j) (.string D))
                clear z0 z1 z2 y0 y1 y2 HF HF3 HL HB l0
                have HL := HLn
                have HB := HBn
                clear HLn HBn hrl hr1 hrb HBS
                generalize ((w4.setCell ⟨r, 0, none⟩ (.int .i64 t)).setCell ⟨r, 1, none⟩ (.int .i64 j)).setCell ⟨r, 2, none⟩ (.string D) = w5 at *
                have HP := Lib.hid (HL.out.at 0 rfl)
                have z0 := HP.out.cell 0; have z1 := HP.out.cell 1; have z2 := HP.out.cell 2
                simp only [List.getElem?_toArray, List.getElem?_cons_zero, List.getElem?_cons_succ] at z0 z1 z2
                clear HP
                go_wp2_with fail
                (with_reducible refine (HRR.out _).mono ?_)
                rintro e w6 ⟨rfl, hb⟩
                have HBn := Lib.hid (HB.out.trans (hb.mono HB.out.size))
                have HLn := Lib.hid (HL.out.keep hb)
                clear HB HL hb
                have HB := HBn
                have HL := HLn
                clear HBn HLn
                clear z0 z1 z2
                go_upto_region 12 with (fail)
                have HBn := Lib.hid (HB.out.alloc HB.out.size (.cells #[.int .i64 b1, .int .i64 b2, .string b3, .string b4, .int .i64 b5, .int .i64 b6, .int .i64 b7, .bool true] 33))
                have HLn := Lib.hid (HL.out.add #[.int .i64 b1, .int .i64 b2, .string b3, .string b4, .int .i64 b5, .int .i64 b6, .int .i64 b7, .bool true] 33)
                clear HB HL
                have HB := HBn
                have HL := HLn
                clear HBn HLn
                generalize w6.heap.size = q3 at *
                generalize w6.alloc (.cells #[.int .i64 b1, .int .i64 b2, .string b3, .string b4, .int .i64 b5, .int .i64 b6, .int .i64 b7, .bool true] 33) = w7 at *
                have HP := Lib.hid (HL.out.at 0 rfl)
                have s0 := HP.out.cell 0; have s1 := HP.out.cell 1; have s2 := HP.out.cell 2; have s3 := HP.out.cell 3; have s4 := HP.out.cell 4; have s5 := HP.out.cell 5; have s6 := HP.out.cell 6
                simp only [List.getElem?_toArray, List.getElem?_cons_zero, List.getElem?_cons_succ] at s0 s1 s2 s3 s4 s5 s6
                clear HP
                have HP := Lib.hid (HL.out.at 2 rfl)
                have p0 := HP.out.cell 0; have p1 := HP.out.cell 1; have p2 := HP.out.cell 2; have p3 := HP.out.cell 3; have p4 := HP.out.cell 4; have p5 := HP.out.cell 5; have p6 := HP.out.cell 6
                simp only [List.getElem?_toArray, List.getElem?_cons_zero, List.getElem?_cons_succ] at p0 p1 p2 p3 p4 p5 p6
                clear HP
                have s7 := (HL.out.at 0 rfl).cell 7
                simp only [List.getElem?_toArray, List.getElem?_cons_zero, List.getElem?_cons_succ] at s7
                have P0 : ∀ x : Later w7, x.at.cell? ⟨q0, 0, none⟩ = some (.int .i64 t) := fun x => x.cell p0
                have P1 : ∀ x : Later w7, x.at.cell? ⟨q0, 1, none⟩ = some (.int .i64 j) := fun x => x.cell p1
                have P2 : ∀ x : Later w7, x.at.cell? ⟨q0, 2, none⟩ = some (.string tok) := fun x => x.cell p2
                have P3 : ∀ x : Later w7, x.at.cell? ⟨q0, 3, none⟩ = some (.string txt) := fun x => x.cell p3
                have P4 : ∀ x : Later w7, x.at.cell? ⟨q0, 4, none⟩ = some (.int .i64 kd) := fun x => x.cell p4
                have P5 : ∀ x : Later w7, x.at.cell? ⟨q0, 5, none⟩ = some (.int .i64 lv) := fun x => x.cell p5
                have P6 : ∀ x : Later w7, x.at.cell? ⟨q0, 6, none⟩ = some (.int .i64 n) := fun x => x.cell p6
                have S0 : ∀ x : Later w7, x.at.cell? ⟨q3, 0, none⟩ = _ := fun x => x.cell s0
                have S1 : ∀ x : Later w7, x.at.cell? ⟨q3, 1, none⟩ = _ := fun x => x.cell s1
                have S2 : ∀ x : Later w7, x.at.cell? ⟨q3, 2, none⟩ = _ := fun x => x.cell s2
                have S3 : ∀ x : Later w7, x.at.cell? ⟨q3, 3, none⟩ = _ := fun x => x.cell s3
                have S4 : ∀ x : Later w7, x.at.cell? ⟨q3, 4, none⟩ = _ := fun x => x.cell s4
                have S5 : ∀ x : Later w7, x.at.cell? ⟨q3, 5, none⟩ = _ := fun x => x.cell s5
                have S6 : ∀ x : Later w7, x.at.cell? ⟨q3, 6, none⟩ = _ := fun x => x.cell s6
                have S7 : ∀ x : Later w7, x.at.cell? ⟨q3, 7, none⟩ = _ := fun x => x.cell s7
                have V1 := Lib.hid (fun x : Later w7 => later_call (x := x) (HREF.out x.at))
                clear p0 p1 p2 p3 p4 p5 p6 s0 s1 s2 s3 s4 s5 s6 s7
                refine region_later 10 (by kernel_rfl) (by kernel_rfl) ?_
                simp only [List.take_succ_cons, List.take_zero, List.drop_succ_cons, List.drop_zero]
                repeat (go_big_quiet_step ((with_reducible exact V1.out _)))
                refine wpQuiet_nil ?_
                rintro w' ⟨x, rfl⟩
                have hb : Below w7.heap.size w7 x.at := x.below
                have HBn := Lib.hid (HB.out.trans (hb.mono HB.out.size))
                have HLn := Lib.hid (HL.out.keep hb)
                clear HB HL hb
                have HB := HBn
                have HL := HLn
                clear HBn HLn
                clear V1 P0 P1 P2 P3 P4 P5 P6 S0 S1 S2 S3 S4 S5 S6 S7
                generalize x.at = w8 at *
                go_wp2_with fail
                (with_reducible refine (nine_walk _ (HT.out.keep HB.out)).mono ?_)
                rintro e w9 ⟨rfl, hb⟩
                have HBn := Lib.hid (HB.out.trans (hb.mono HB.out.size))
                have HLn := Lib.hid (HL.out.keep hb)
                clear HB HL hb
                have HB := HBn
                have HL := HLn
                clear HBn HLn
                go_wp2
                go_ret
                exact ⟨rfl, HB.out⟩
      · have hk1 : ¬ (k : Int) < (l.length : Int) := by omega
        obtain ⟨rfl, rfl⟩ := HSs.out o (htx.symm.trans (Pr.texts_end l k o (by omega)))
        clear htx
        go_wp2_with fail
        (with_reducible refine (nine_walk _ (HT.out.keep HB.out)).mono ?_)
        rintro e w8 ⟨rfl, hb⟩
        have HB9 := Lib.hid (HB.out.trans (hb.mono HB.out.size))
        go_wp2
        go_ret
        exact ⟨rfl, HB9.out⟩
end Go.Proofs.YtckdbkbecelgcaaDoor
