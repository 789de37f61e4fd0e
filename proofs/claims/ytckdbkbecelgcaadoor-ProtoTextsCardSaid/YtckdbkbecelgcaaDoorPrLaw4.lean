/- ProtoAsks. -/
import Derived.Test.YtckdbkbecelgcaaDoorPrLaw2
import Derived.Test.YtckdbkbecelgcaaDoorPrSeven
namespace Go.Proofs.YtckdbkbecelgcaaDoor
open Go.RowKit
set_option linter.unusedVariables false
set_option linter.unusedSimpArgs false

theorem Hold.set3 {w : World} {L : List (Nat × Array Value × TypeId)} (h : Hold w L) {r : Nat} (hr : ∀ x ∈ L, x.1 ≠ r) (a b c : Value) : Hold (((w.setCell ⟨r, 0, none⟩ a).setCell ⟨r, 1, none⟩ b).setCell ⟨r, 2, none⟩ c) L := fun x hx => oset3 (h x hx) (hr x hx) a b c
theorem Hold.cons {w : World} {L : List (Nat × Array Value × TypeId)} (h : Hold w L) {b : Nat} {cs : Array Value} {T : TypeId} (hb : Has w b cs T) : Hold w ((b, cs, T) :: L) := fun x hx => by
  rcases List.mem_cons.1 hx with rfl | hx
  · exact hb
  · exact h x hx
set_option maxRecDepth 100000 in
set_option maxHeartbeats 3000000 in
theorem protoAsks_walk (t j : Int) (tok txt : ByteArray) (k lv n : Int) (w : World) (_ : (Lit.int .i64 t).wf = true) (_ : (Lit.int .i64 j).wf = true) (_ : tok.size ≤ maxLen) (_ : txt.size ≤ maxLen) (_ : (Lit.int .i64 k).wf = true) (_ : (Lit.int .i64 lv).wf = true) (_ : (Lit.int .i64 n).wf = true) (hT : Tabs w) : Calls Tryd.prog 4 #[.agg #[.int .i64 t, .int .i64 j, .string tok, .string txt, .int .i64 k, .int .i64 lv, .int .i64 n]] w fun e w' => e = .returned (.bool true) ∧ Below w.heap.size w w' := by
  have HT := Lib.hid hT
  clear hT
  by_cases hl : 300 < txt.size
  · have hl' : (300 : Int) < (txt.size : Int) := by omega
    clear hl
    go_enter Tryd.func4, Tryd.ntmps4
    go_upto_region 1 with (fail)
    have HB := Lib.hid (Below.refl w.heap.size w)
    have HL := Lib.hid (Hold.nil w)
    have HBn := Lib.hid (HB.out.alloc (Nat.le_refl _) (.cells #[.int .i64 t, .int .i64 j, .string tok, .string txt, .int .i64 k, .int .i64 lv, .int .i64 n] 27))
    have HLn := Lib.hid (HL.out.add #[.int .i64 t, .int .i64 j, .string tok, .string txt, .int .i64 k, .int .i64 lv, .int .i64 n] 27)
    clear HB HL
    have HB := HBn
    have HL := HLn
    clear HBn HLn
    obtain ⟨q0, hq0⟩ : ∃ q0, q0 = w.heap.size := ⟨_, rfl⟩
    rw [← hq0] at HL
    rw [← hq0]
    clear hq0
    generalize w.alloc (.cells #[.int .i64 t, .int .i64 j, .string tok, .string txt, .int .i64 k, .int .i64 lv, .int .i64 n] 27) = w1 at *
    have HP := Lib.hid (HL.out.at 0 rfl)
    have p0 := HP.out.cell 0; have p1 := HP.out.cell 1; have p2 := HP.out.cell 2; have p3 := HP.out.cell 3; have p4 := HP.out.cell 4; have p5 := HP.out.cell 5; have p6 := HP.out.cell 6
    simp only [List.getElem?_toArray, List.getElem?_cons_zero, List.getElem?_cons_succ] at p0 p1 p2 p3 p4 p5 p6
    clear HP
    go_wp2_with fail
    (with_reducible refine (nine_walk _ (HT.out.keep HB.out)).mono ?_)
    rintro e w2 ⟨rfl, hb⟩
    have HBn := Lib.hid (HB.out.trans (hb.mono HB.out.size))
    have HLn := Lib.hid (HL.out.keep hb)
    clear HB HL hb
    have HB := HBn
    have HL := HLn
    clear HBn HLn
    go_wp2
    go_ret
    exact ⟨rfl, HB.out⟩
  · have hl' : ¬ (300 : Int) < (txt.size : Int) := by omega
    clear hl
    by_cases hm : 300 < tok.size
    · have hm' : (300 : Int) < (tok.size : Int) := by omega
      clear hm
      go_enter Tryd.func4, Tryd.ntmps4
      go_upto_region 1 with (fail)
      have HB := Lib.hid (Below.refl w.heap.size w)
      have HL := Lib.hid (Hold.nil w)
      have HBn := Lib.hid (HB.out.alloc (Nat.le_refl _) (.cells #[.int .i64 t, .int .i64 j, .string tok, .string txt, .int .i64 k, .int .i64 lv, .int .i64 n] 27))
      have HLn := Lib.hid (HL.out.add #[.int .i64 t, .int .i64 j, .string tok, .string txt, .int .i64 k, .int .i64 lv, .int .i64 n] 27)
      clear HB HL
      have HB := HBn
      have HL := HLn
      clear HBn HLn
      obtain ⟨q0, hq0⟩ : ∃ q0, q0 = w.heap.size := ⟨_, rfl⟩
      rw [← hq0] at HL
      rw [← hq0]
      clear hq0
      generalize w.alloc (.cells #[.int .i64 t, .int .i64 j, .string tok, .string txt, .int .i64 k, .int .i64 lv, .int .i64 n] 27) = w1 at *
      have HP := Lib.hid (HL.out.at 0 rfl)
      have p0 := HP.out.cell 0; have p1 := HP.out.cell 1; have p2 := HP.out.cell 2; have p3 := HP.out.cell 3; have p4 := HP.out.cell 4; have p5 := HP.out.cell 5; have p6 := HP.out.cell 6
      simp only [List.getElem?_toArray, List.getElem?_cons_zero, List.getElem?_cons_succ] at p0 p1 p2 p3 p4 p5 p6
      clear HP
      go_wp2_with fail
      (with_reducible refine (nine_walk _ (HT.out.keep HB.out)).mono ?_)
      rintro e w2 ⟨rfl, hb⟩
      have HBn := Lib.hid (HB.out.trans (hb.mono HB.out.size))
      have HLn := Lib.hid (HL.out.keep hb)
      clear HB HL hb
      have HB := HBn
      have HL := HLn
      clear HBn HLn
      go_wp2
      go_ret
      exact ⟨rfl, HB.out⟩
    · have hm' : ¬ (300 : Int) < (tok.size : Int) := by omega
      clear hm
      have HASK := Lib.hid (fun w h => ask_walk t j tok txt k lv n w h)
      have HREF := Lib.hid (fun w => reff_walk t j tok txt k lv n w)
      have HDAT := Lib.hid (fun w => rdata_walk t j tok txt k lv n w)
      have hak := Pr.ask_ref ⟨t, j, tok, txt, k, lv, n⟩
      simp only at hak
      generalize Pr.rdt ⟨t, j, tok, txt, k, lv, n⟩ = D at *
      have HRR := Lib.hid (fun w => rread_walk t j D w)
      rcases hak with ⟨hr, ha⟩ | ⟨hr, ha⟩
      · rw [ha] at HASK
        rw [hr] at HRR
        have HRE := Lib.hid (fun w h => pread_walk t j D w h)
        rw [hr] at HRE
        simp only [readV, askV, askF] at HASK HRR HRE
        clear hr ha
        go_enter Tryd.func4, Tryd.ntmps4
        go_upto_region 1 with (fail)
        have HB := Lib.hid (Below.refl w.heap.size w)
        have HL := Lib.hid (Hold.nil w)
        have HBn := Lib.hid (HB.out.alloc (Nat.le_refl _) (.cells #[.int .i64 t, .int .i64 j, .string tok, .string txt, .int .i64 k, .int .i64 lv, .int .i64 n] 27))
        have HLn := Lib.hid (HL.out.add #[.int .i64 t, .int .i64 j, .string tok, .string txt, .int .i64 k, .int .i64 lv, .int .i64 n] 27)
        clear HB HL
        have HB := HBn
        have HL := HLn
        clear HBn HLn
        obtain ⟨q0, hq0⟩ : ∃ q0, q0 = w.heap.size := ⟨_, rfl⟩
        rw [← hq0] at HL
        rw [← hq0]
        clear hq0
        generalize w.alloc (.cells #[.int .i64 t, .int .i64 j, .string tok, .string txt, .int .i64 k, .int .i64 lv, .int .i64 n] 27) = w1 at *
        have HP := Lib.hid (HL.out.at 0 rfl)
        have p0 := HP.out.cell 0; have p1 := HP.out.cell 1; have p2 := HP.out.cell 2; have p3 := HP.out.cell 3; have p4 := HP.out.cell 4; have p5 := HP.out.cell 5; have p6 := HP.out.cell 6
        simp only [List.getElem?_toArray, List.getElem?_cons_zero, List.getElem?_cons_succ] at p0 p1 p2 p3 p4 p5 p6
        clear HP
        go_wp2_with fail
        (with_reducible refine (HASK.out _ (HT.out.keep HB.out)).mono ?_)
        rintro e w2 ⟨rfl, hb⟩
        have HBn := Lib.hid (HB.out.trans (hb.mono HB.out.size))
        have HLn := Lib.hid (HL.out.keep hb)
        clear HB HL hb
        have HB := HBn
        have HL := HLn
        clear HBn HLn
        clear p0 p1 p2 p3 p4 p5 p6
        go_upto_region 4 with (fail)
        have HBn := Lib.hid (HB.out.alloc HB.out.size (.cells #[.int .i64 t, .int .i64 j, .string D] 23))
        have HLn := Lib.hid (HL.out.add #[.int .i64 t, .int .i64 j, .string D] 23)
        clear HB HL
        have HB := HBn
        have HL := HLn
        clear HBn HLn
        generalize w2.heap.size = q2 at *
        generalize w2.alloc (.cells #[.int .i64 t, .int .i64 j, .string D] 23) = w3 at *
        have l0 := (HL.out.at 1 rfl).lt
        have l2 := (HL.out.at 0 rfl).lt
        have HBS := Lib.hid HB.out.size
        apply Quiet.region_make 8 5 (Psi := fun x w' => ∃ r, x = .pointer (some ⟨r, 0, none⟩) ∧ w3.heap.size ≤ r ∧ Has w' r #[.int .i64 0, .int .i64 0, .string ⟨#[]⟩] 23) (by kernel_rfl) (by kernel_rfl) (by kernel_rfl)
        case H1 =>
          intro wb hwb
          have HP := Lib.hid (HL.out.at 1 rfl)
          have d0 : ∀ x : Later wb, x.at.cell? ⟨q0, 0, none⟩ = some (.int .i64 t) := fun x => x.cell ((Later.mk hwb).cell (HP.out.cell 0))
          have d1 : ∀ x : Later wb, x.at.cell? ⟨q0, 1, none⟩ = some (.int .i64 j) := fun x => x.cell ((Later.mk hwb).cell (HP.out.cell 1))
          have d2 : ∀ x : Later wb, x.at.cell? ⟨q0, 2, none⟩ = some (.string tok) := fun x => x.cell ((Later.mk hwb).cell (HP.out.cell 2))
          have d3 : ∀ x : Later wb, x.at.cell? ⟨q0, 3, none⟩ = some (.string txt) := fun x => x.cell ((Later.mk hwb).cell (HP.out.cell 3))
          have d4 : ∀ x : Later wb, x.at.cell? ⟨q0, 4, none⟩ = some (.int .i64 k) := fun x => x.cell ((Later.mk hwb).cell (HP.out.cell 4))
          have d5 : ∀ x : Later wb, x.at.cell? ⟨q0, 5, none⟩ = some (.int .i64 lv) := fun x => x.cell ((Later.mk hwb).cell (HP.out.cell 5))
          have d6 : ∀ x : Later wb, x.at.cell? ⟨q0, 6, none⟩ = some (.int .i64 n) := fun x => x.cell ((Later.mk hwb).cell (HP.out.cell 6))
          have HVX := Lib.hid (fun x : Later wb => later_call (x := x) (HREF.out x.at))
          have HVY := Lib.hid (fun x : Later wb => later_call (x := x) (HDAT.out x.at))
          clear HP
          show wpQuiet _ _ (fun w' => ∃ x : Later wb, w' = x.at) _ _ _
          simp only [List.take_succ_cons, List.take_zero]
          repeat (go_big_quiet_step (first | (with_reducible exact HVX.out _) | (with_reducible exact HVY.out _)))
          exact rfl
        case make =>
          intro o ho wa hwa
          obtain rfl := Option.some.inj ho
          refine ⟨.pointer (some ⟨wa.heap.size, 0, none⟩), wa.alloc (.cells #[.int .i64 0, .int .i64 0, .string ⟨#[]⟩] 23), ?_, ?_, ⟨wa.heap.size, rfl, hwa.size, Has.new wa _ _⟩⟩
          · kernel_rfl
          · exact (Below.refl _ _).alloc (Nat.le_refl _) _
        case mono =>
          rintro x wa wb ⟨r, hx, hr, hh⟩ hwb
          exact ⟨r, hx, hr, Has.below hh hwb (Has.lt hh)⟩
        rintro x w4 hl2 ⟨r, rfl, hr1, hh⟩
        simp only [List.drop_succ_cons, List.drop_zero, Act.put, List.setIfInBounds_toArray, List.set_cons_succ, List.set_cons_zero]
        have hb : Below w3.heap.size w3 w4 := hl2
        clear hl2
        have HBn := Lib.hid (HB.out.trans (hb.mono HB.out.size))
        have HLn := Lib.hid (HL.out.keep hb)
        clear HB HL hb
        have HB := HBn
        have HL := HLn
        clear HBn HLn
        have hrl := hh.lt
        have hrb : w.heap.size ≤ r := Nat.le_trans HBS.out hr1
        have HF := Lib.hid hh
        clear hh
        have z0 := HF.out.cell 0; have z1 := HF.out.cell 1; have z2 := HF.out.cell 2
        have y0 := HF.out.free 0; have y1 := HF.out.free 1; have y2 := HF.out.free 2
        simp only [List.getElem?_toArray, List.getElem?_cons_zero, List.getElem?_cons_succ] at z0 z1 z2
        go_upto_region 5 with (fail)
        have HF3 := Lib.hid (fset3 HF.out (.int .i64 t) (.int .i64 j) (.string D))
        have HLn := Lib.hid ((HL.out.set3 (r := r) (by intro x hx; simp only [List.mem_cons, List.not_mem_nil, or_false] at hx; rcases hx with rfl | rfl <;> simp only <;> omega) (.int .i64 t) (.int .i64 j) (.string D)).cons HF3.out)
        have HBn := Lib.hid (bset3 HB.out (r := r) hrb (.int .i64 t) (.int .i64 j) (.string D))
        clear z0 z1 z2 y0 y1 y2 HF HF3 HL HB l0 l2
        have HL := HLn
        have HB := HBn
        clear HLn HBn hrl hr1 hrb
        generalize ((w4.setCell ⟨r, 0, none⟩ (.int .i64 t)).setCell ⟨r, 1, none⟩ (.int .i64 j)).setCell ⟨r, 2, none⟩ (.string D) = w5 at *
        have HP := Lib.hid (HL.out.at 0 rfl)
        have z0 := HP.out.cell 0; have z1 := HP.out.cell 1; have z2 := HP.out.cell 2
        simp only [List.getElem?_toArray, List.getElem?_cons_zero, List.getElem?_cons_succ] at z0 z1 z2
        clear HP
        go_wp2_with fail
        (with_reducible refine (HRR.out _).mono ?_)
        rintro e w6 ⟨rfl, hb⟩
        have HBn := Lib.hid (HB.out.trans (hb.mono HB.out.size))
        have HLn := Lib.hid (HL.out.keep hb)
        clear HB HL hb
        have HB := HBn
        have HL := HLn
        clear HBn HLn
        clear z0 z1 z2
        go_upto_region 6 with (fail)
        have HBn := Lib.hid (HB.out.alloc HB.out.size (.cells #[.int .i64 t, .int .i64 j, .string tok, .string txt, .int .i64 k, .int .i64 lv, .int .i64 n, .bool true] 33))
        have HLn := Lib.hid (HL.out.add #[.int .i64 t, .int .i64 j, .string tok, .string txt, .int .i64 k, .int .i64 lv, .int .i64 n, .bool true] 33)
        clear HB HL
        have HB := HBn
        have HL := HLn
        clear HBn HLn
        generalize w6.heap.size = q3 at *
        generalize w6.alloc (.cells #[.int .i64 t, .int .i64 j, .string tok, .string txt, .int .i64 k, .int .i64 lv, .int .i64 n, .bool true] 33) = w7 at *
        have HP := Lib.hid (HL.out.at 0 rfl)
        have s0 := HP.out.cell 0; have s1 := HP.out.cell 1; have s2 := HP.out.cell 2; have s3 := HP.out.cell 3; have s4 := HP.out.cell 4; have s5 := HP.out.cell 5; have s6 := HP.out.cell 6
        simp only [List.getElem?_toArray, List.getElem?_cons_zero, List.getElem?_cons_succ] at s0 s1 s2 s3 s4 s5 s6
        clear HP
        have HP := Lib.hid (HL.out.at 3 rfl)
        have p0 := HP.out.cell 0; have p1 := HP.out.cell 1; have p2 := HP.out.cell 2; have p3 := HP.out.cell 3; have p4 := HP.out.cell 4; have p5 := HP.out.cell 5; have p6 := HP.out.cell 6
        simp only [List.getElem?_toArray, List.getElem?_cons_zero, List.getElem?_cons_succ] at p0 p1 p2 p3 p4 p5 p6
        clear HP
        have s7 := (HL.out.at 0 rfl).cell 7
        simp only [List.getElem?_toArray, List.getElem?_cons_zero, List.getElem?_cons_succ] at s7
        have P0 : ∀ x : Later w7, x.at.cell? ⟨q0, 0, none⟩ = some (.int .i64 t) := fun x => x.cell p0
        have P1 : ∀ x : Later w7, x.at.cell? ⟨q0, 1, none⟩ = some (.int .i64 j) := fun x => x.cell p1
        have P2 : ∀ x : Later w7, x.at.cell? ⟨q0, 2, none⟩ = some (.string tok) := fun x => x.cell p2
        have P3 : ∀ x : Later w7, x.at.cell? ⟨q0, 3, none⟩ = some (.string txt) := fun x => x.cell p3
        have P4 : ∀ x : Later w7, x.at.cell? ⟨q0, 4, none⟩ = some (.int .i64 k) := fun x => x.cell p4
        have P5 : ∀ x : Later w7, x.at.cell? ⟨q0, 5, none⟩ = some (.int .i64 lv) := fun x => x.cell p5
        have P6 : ∀ x : Later w7, x.at.cell? ⟨q0, 6, none⟩ = some (.int .i64 n) := fun x => x.cell p6
        have S0 : ∀ x : Later w7, x.at.cell? ⟨q3, 0, none⟩ = _ := fun x => x.cell s0
        have S1 : ∀ x : Later w7, x.at.cell? ⟨q3, 1, none⟩ = _ := fun x => x.cell s1
        have S2 : ∀ x : Later w7, x.at.cell? ⟨q3, 2, none⟩ = _ := fun x => x.cell s2
        have S3 : ∀ x : Later w7, x.at.cell? ⟨q3, 3, none⟩ = _ := fun x => x.cell s3
        have S4 : ∀ x : Later w7, x.at.cell? ⟨q3, 4, none⟩ = _ := fun x => x.cell s4
        have S5 : ∀ x : Later w7, x.at.cell? ⟨q3, 5, none⟩ = _ := fun x => x.cell s5
        have S6 : ∀ x : Later w7, x.at.cell? ⟨q3, 6, none⟩ = _ := fun x => x.cell s6
        have S7 : ∀ x : Later w7, x.at.cell? ⟨q3, 7, none⟩ = _ := fun x => x.cell s7
        have V1 := Lib.hid (fun x : Later w7 => later_call (x := x) (HREF.out x.at))
        clear p0 p1 p2 p3 p4 p5 p6 s0 s1 s2 s3 s4 s5 s6 s7
        refine region_later 10 (by kernel_rfl) (by kernel_rfl) ?_
        simp only [List.take_succ_cons, List.take_zero, List.drop_succ_cons, List.drop_zero]
        repeat (go_big_quiet_step ((with_reducible exact V1.out _)))
        refine wpQuiet_nil ?_
        rintro w' ⟨x, rfl⟩
        have hb : Below w7.heap.size w7 x.at := x.below
        have HBn := Lib.hid (HB.out.trans (hb.mono HB.out.size))
        have HLn := Lib.hid (HL.out.keep hb)
        clear HB HL hb
        have HB := HBn
        have HL := HLn
        clear HBn HLn
        clear V1 P0 P1 P2 P3 P4 P5 P6 S0 S1 S2 S3 S4 S5 S6 S7
        generalize x.at = w8 at *
        have HP := Lib.hid (HL.out.at 2 rfl)
        have g0 := HP.out.cell 0; have g1 := HP.out.cell 1; have g2 := HP.out.cell 2
        simp only [List.getElem?_toArray, List.getElem?_cons_zero, List.getElem?_cons_succ] at g0 g1 g2
        clear HP
        go_wp2_with fail
        (with_reducible refine (HRE.out _ (HT.out.keep HB.out)).mono ?_)
        rintro e w9 ⟨rfl, hb⟩
        have HBn := Lib.hid (HB.out.trans (hb.mono HB.out.size))
        have HLn := Lib.hid (HL.out.keep hb)
        clear HB HL hb
        have HB := HBn
        have HL := HLn
        clear HBn HLn
        clear g0 g1 g2
        go_upto_region 9 with (fail)
        have HBn := Lib.hid (HB.out.alloc HB.out.size (.cells #[.int .i64 t, .int .i64 j, .string tok, .string txt, .int .i64 k, .int .i64 lv, .int .i64 n] 27))
        have HLn := Lib.hid (HL.out.add #[.int .i64 t, .int .i64 j, .string tok, .string txt, .int .i64 k, .int .i64 lv, .int .i64 n] 27)
        clear HB HL
        have HB := HBn
        have HL := HLn
        clear HBn HLn
        generalize w9.heap.size = q4 at *
        generalize w9.alloc (.cells #[.int .i64 t, .int .i64 j, .string tok, .string txt, .int .i64 k, .int .i64 lv, .int .i64 n] 27) = w10 at *
        have HP := Lib.hid (HL.out.at 3 rfl)
        have g0 := HP.out.cell 0; have g1 := HP.out.cell 1; have g2 := HP.out.cell 2
        simp only [List.getElem?_toArray, List.getElem?_cons_zero, List.getElem?_cons_succ] at g0 g1 g2
        clear HP
        have HP := Lib.hid (HL.out.at 2 rfl)
        have z0 := HP.out.cell 0; have z1 := HP.out.cell 1; have z2 := HP.out.cell 2
        simp only [List.getElem?_toArray, List.getElem?_cons_zero, List.getElem?_cons_succ] at z0 z1 z2
        clear HP
        have HP := Lib.hid (HL.out.at 0 rfl)
        have s0 := HP.out.cell 0; have s1 := HP.out.cell 1; have s2 := HP.out.cell 2; have s3 := HP.out.cell 3; have s4 := HP.out.cell 4; have s5 := HP.out.cell 5; have s6 := HP.out.cell 6
        simp only [List.getElem?_toArray, List.getElem?_cons_zero, List.getElem?_cons_succ] at s0 s1 s2 s3 s4 s5 s6
        clear HP
        have HP := Lib.hid (HL.out.at 4 rfl)
        have p0 := HP.out.cell 0; have p1 := HP.out.cell 1; have p2 := HP.out.cell 2; have p3 := HP.out.cell 3; have p4 := HP.out.cell 4; have p5 := HP.out.cell 5; have p6 := HP.out.cell 6
        simp only [List.getElem?_toArray, List.getElem?_cons_zero, List.getElem?_cons_succ] at p0 p1 p2 p3 p4 p5 p6
        clear HP
        go_wp2_with fail
        (with_reducible refine (nine_walk _ (HT.out.keep HB.out)).mono ?_)
        rintro e w11 ⟨rfl, hb⟩
        have HBn := Lib.hid (HB.out.trans (hb.mono HB.out.size))
        have HLn := Lib.hid (HL.out.keep hb)
        clear HB HL hb
        have HB := HBn
        have HL := HLn
        clear HBn HLn
        go_wp2
        go_ret
        exact ⟨rfl, HB.out⟩
      · rw [ha] at HASK
        cases hrd : Pr.rd ⟨t, j, D⟩ with
        | none =>
          rw [hrd] at HRR
          simp only [readV, askV, askF] at HASK HRR
          clear hr ha hrd
          go_enter Tryd.func4, Tryd.ntmps4
          go_upto_region 1 with (fail)
          have HB := Lib.hid (Below.refl w.heap.size w)
          have HL := Lib.hid (Hold.nil w)
          have HBn := Lib.hid (HB.out.alloc (Nat.le_refl _) (.cells #[.int .i64 t, .int .i64 j, .string tok, .string txt, .int .i64 k, .int .i64 lv, .int .i64 n] 27))
          have HLn := Lib.hid (HL.out.add #[.int .i64 t, .int .i64 j, .string tok, .string txt, .int .i64 k, .int .i64 lv, .int .i64 n] 27)
          clear HB HL
          have HB := HBn
          have HL := HLn
          clear HBn HLn
          obtain ⟨q0, hq0⟩ : ∃ q0, q0 = w.heap.size := ⟨_, rfl⟩
          rw [← hq0] at HL
          rw [← hq0]
          clear hq0
          generalize w.alloc (.cells #[.int .i64 t, .int .i64 j, .string tok, .string txt, .int .i64 k, .int .i64 lv, .int .i64 n] 27) = w1 at *
          have HP := Lib.hid (HL.out.at 0 rfl)
          have p0 := HP.out.cell 0; have p1 := HP.out.cell 1; have p2 := HP.out.cell 2; have p3 := HP.out.cell 3; have p4 := HP.out.cell 4; have p5 := HP.out.cell 5; have p6 := HP.out.cell 6
          simp only [List.getElem?_toArray, List.getElem?_cons_zero, List.getElem?_cons_succ] at p0 p1 p2 p3 p4 p5 p6
          clear HP
          go_wp2_with fail
          (with_reducible refine (HASK.out _ (HT.out.keep HB.out)).mono ?_)
          rintro e w2 ⟨rfl, hb⟩
          have HBn := Lib.hid (HB.out.trans (hb.mono HB.out.size))
          have HLn := Lib.hid (HL.out.keep hb)
          clear HB HL hb
          have HB := HBn
          have HL := HLn
          clear HBn HLn
          clear p0 p1 p2 p3 p4 p5 p6
          go_upto_region 4 with (fail)
          have HBn := Lib.hid (HB.out.alloc HB.out.size (.cells #[.int .i64 0, .int .i64 0, .string ⟨#[]⟩] 23))
          have HLn := Lib.hid (HL.out.add #[.int .i64 0, .int .i64 0, .string ⟨#[]⟩] 23)
          clear HB HL
          have HB := HBn
          have HL := HLn
          clear HBn HLn
          generalize w2.heap.size = q2 at *
          generalize w2.alloc (.cells #[.int .i64 0, .int .i64 0, .string ⟨#[]⟩] 23) = w3 at *
          have l0 := (HL.out.at 1 rfl).lt
          have l2 := (HL.out.at 0 rfl).lt
          have HBS := Lib.hid HB.out.size
          apply Quiet.region_make 8 5 (Psi := fun x w' => ∃ r, x = .pointer (some ⟨r, 0, none⟩) ∧ w3.heap.size ≤ r ∧ Has w' r #[.int .i64 0, .int .i64 0, .string ⟨#[]⟩] 23) (by kernel_rfl) (by kernel_rfl) (by kernel_rfl)
          case H1 =>
            intro wb hwb
            have HP := Lib.hid (HL.out.at 1 rfl)
            have d0 : ∀ x : Later wb, x.at.cell? ⟨q0, 0, none⟩ = some (.int .i64 t) := fun x => x.cell ((Later.mk hwb).cell (HP.out.cell 0))
            have d1 : ∀ x : Later wb, x.at.cell? ⟨q0, 1, none⟩ = some (.int .i64 j) := fun x => x.cell ((Later.mk hwb).cell (HP.out.cell 1))
            have d2 : ∀ x : Later wb, x.at.cell? ⟨q0, 2, none⟩ = some (.string tok) := fun x => x.cell ((Later.mk hwb).cell (HP.out.cell 2))
            have d3 : ∀ x : Later wb, x.at.cell? ⟨q0, 3, none⟩ = some (.string txt) := fun x => x.cell ((Later.mk hwb).cell (HP.out.cell 3))
            have d4 : ∀ x : Later wb, x.at.cell? ⟨q0, 4, none⟩ = some (.int .i64 k) := fun x => x.cell ((Later.mk hwb).cell (HP.out.cell 4))
            have d5 : ∀ x : Later wb, x.at.cell? ⟨q0, 5, none⟩ = some (.int .i64 lv) := fun x => x.cell ((Later.mk hwb).cell (HP.out.cell 5))
            have d6 : ∀ x : Later wb, x.at.cell? ⟨q0, 6, none⟩ = some (.int .i64 n) := fun x => x.cell ((Later.mk hwb).cell (HP.out.cell 6))
            have HVX := Lib.hid (fun x : Later wb => later_call (x := x) (HREF.out x.at))
            have HVY := Lib.hid (fun x : Later wb => later_call (x := x) (HDAT.out x.at))
            clear HP
            show wpQuiet _ _ (fun w' => ∃ x : Later wb, w' = x.at) _ _ _
            simp only [List.take_succ_cons, List.take_zero]
            repeat (go_big_quiet_step (first | (with_reducible exact HVX.out _) | (with_reducible exact HVY.out _)))
            exact rfl
          case make =>
            intro o ho wa hwa
            obtain rfl := Option.some.inj ho
            refine ⟨.pointer (some ⟨wa.heap.size, 0, none⟩), wa.alloc (.cells #[.int .i64 0, .int .i64 0, .string ⟨#[]⟩] 23), ?_, ?_, ⟨wa.heap.size, rfl, hwa.size, Has.new wa _ _⟩⟩
            · kernel_rfl
            · exact (Below.refl _ _).alloc (Nat.le_refl _) _
          case mono =>
            rintro x wa wb ⟨r, hx, hr, hh⟩ hwb
            exact ⟨r, hx, hr, Has.below hh hwb (Has.lt hh)⟩
          rintro x w4 hl2 ⟨r, rfl, hr1, hh⟩
          simp only [List.drop_succ_cons, List.drop_zero, Act.put, List.setIfInBounds_toArray, List.set_cons_succ, List.set_cons_zero]
          have hb : Below w3.heap.size w3 w4 := hl2
          clear hl2
          have HBn := Lib.hid (HB.out.trans (hb.mono HB.out.size))
          have HLn := Lib.hid (HL.out.keep hb)
          clear HB HL hb
          have HB := HBn
          have HL := HLn
          clear HBn HLn
          have hrl := hh.lt
          have hrb : w.heap.size ≤ r := Nat.le_trans HBS.out hr1
          have HF := Lib.hid hh
          clear hh
          have z0 := HF.out.cell 0; have z1 := HF.out.cell 1; have z2 := HF.out.cell 2
          have y0 := HF.out.free 0; have y1 := HF.out.free 1; have y2 := HF.out.free 2
          simp only [List.getElem?_toArray, List.getElem?_cons_zero, List.getElem?_cons_succ] at z0 z1 z2
          go_upto_region 5 with (fail)
          have HF3 := Lib.hid (fset3 HF.out (.int .i64 t) (.int .i64 j) (.string D))
          have HLn := Lib.hid ((HL.out.set3 (r := r) (by intro x hx; simp only [List.mem_cons, List.not_mem_nil, or_false] at hx; rcases hx with rfl | rfl <;> simp only <;> omega) (.int .i64 t) (.int .i64 j) (.string D)).cons HF3.out)
          have HBn := Lib.hid (bset3 HB.out (r := r) hrb (.int .i64 t) (.int .i64 j) (.string D))
          clear z0 z1 z2 y0 y1 y2 HF HF3 HL HB l0 l2
          have HL := HLn
          have HB := HBn
          clear HLn HBn hrl hr1 hrb
          generalize ((w4.setCell ⟨r, 0, none⟩ (.int .i64 t)).setCell ⟨r, 1, none⟩ (.int .i64 j)).setCell ⟨r, 2, none⟩ (.string D) = w5 at *
          have HP := Lib.hid (HL.out.at 0 rfl)
          have z0 := HP.out.cell 0; have z1 := HP.out.cell 1; have z2 := HP.out.cell 2
          simp only [List.getElem?_toArray, List.getElem?_cons_zero, List.getElem?_cons_succ] at z0 z1 z2
          clear HP
          go_wp2_with fail
          (with_reducible refine (HRR.out _).mono ?_)
          rintro e w6 ⟨rfl, hb⟩
          have HBn := Lib.hid (HB.out.trans (hb.mono HB.out.size))
          have HLn := Lib.hid (HL.out.keep hb)
          clear HB HL hb
          have HB := HBn
          have HL := HLn
          clear HBn HLn
          clear z0 z1 z2
          go_upto_region 6 with (fail)
          have HBn := Lib.hid (HB.out.alloc HB.out.size (.cells #[.int .i64 0, .int .i64 0, .string ⟨#[]⟩, .string ⟨#[]⟩, .int .i64 0, .int .i64 0, .int .i64 0, .bool false] 33))
          have HLn := Lib.hid (HL.out.add #[.int .i64 0, .int .i64 0, .string ⟨#[]⟩, .string ⟨#[]⟩, .int .i64 0, .int .i64 0, .int .i64 0, .bool false] 33)
          clear HB HL
          have HB := HBn
          have HL := HLn
          clear HBn HLn
          generalize w6.heap.size = q3 at *
          generalize w6.alloc (.cells #[.int .i64 0, .int .i64 0, .string ⟨#[]⟩, .string ⟨#[]⟩, .int .i64 0, .int .i64 0, .int .i64 0, .bool false] 33) = w7 at *
          have HP := Lib.hid (HL.out.at 0 rfl)
          have s0 := HP.out.cell 0; have s1 := HP.out.cell 1; have s2 := HP.out.cell 2; have s3 := HP.out.cell 3; have s4 := HP.out.cell 4; have s5 := HP.out.cell 5; have s6 := HP.out.cell 6
          simp only [List.getElem?_toArray, List.getElem?_cons_zero, List.getElem?_cons_succ] at s0 s1 s2 s3 s4 s5 s6
          clear HP
          have HP := Lib.hid (HL.out.at 3 rfl)
          have p0 := HP.out.cell 0; have p1 := HP.out.cell 1; have p2 := HP.out.cell 2; have p3 := HP.out.cell 3; have p4 := HP.out.cell 4; have p5 := HP.out.cell 5; have p6 := HP.out.cell 6
          simp only [List.getElem?_toArray, List.getElem?_cons_zero, List.getElem?_cons_succ] at p0 p1 p2 p3 p4 p5 p6
          clear HP
          have s7 := (HL.out.at 0 rfl).cell 7
          simp only [List.getElem?_toArray, List.getElem?_cons_zero, List.getElem?_cons_succ] at s7
          have P0 : ∀ x : Later w7, x.at.cell? ⟨q0, 0, none⟩ = some (.int .i64 t) := fun x => x.cell p0
          have P1 : ∀ x : Later w7, x.at.cell? ⟨q0, 1, none⟩ = some (.int .i64 j) := fun x => x.cell p1
          have P2 : ∀ x : Later w7, x.at.cell? ⟨q0, 2, none⟩ = some (.string tok) := fun x => x.cell p2
          have P3 : ∀ x : Later w7, x.at.cell? ⟨q0, 3, none⟩ = some (.string txt) := fun x => x.cell p3
          have P4 : ∀ x : Later w7, x.at.cell? ⟨q0, 4, none⟩ = some (.int .i64 k) := fun x => x.cell p4
          have P5 : ∀ x : Later w7, x.at.cell? ⟨q0, 5, none⟩ = some (.int .i64 lv) := fun x => x.cell p5
          have P6 : ∀ x : Later w7, x.at.cell? ⟨q0, 6, none⟩ = some (.int .i64 n) := fun x => x.cell p6
          have S0 : ∀ x : Later w7, x.at.cell? ⟨q3, 0, none⟩ = _ := fun x => x.cell s0
          have S1 : ∀ x : Later w7, x.at.cell? ⟨q3, 1, none⟩ = _ := fun x => x.cell s1
          have S2 : ∀ x : Later w7, x.at.cell? ⟨q3, 2, none⟩ = _ := fun x => x.cell s2
          have S3 : ∀ x : Later w7, x.at.cell? ⟨q3, 3, none⟩ = _ := fun x => x.cell s3
          have S4 : ∀ x : Later w7, x.at.cell? ⟨q3, 4, none⟩ = _ := fun x => x.cell s4
          have S5 : ∀ x : Later w7, x.at.cell? ⟨q3, 5, none⟩ = _ := fun x => x.cell s5
          have S6 : ∀ x : Later w7, x.at.cell? ⟨q3, 6, none⟩ = _ := fun x => x.cell s6
          have S7 : ∀ x : Later w7, x.at.cell? ⟨q3, 7, none⟩ = _ := fun x => x.cell s7
          have V1 := Lib.hid (fun x : Later w7 => later_call (x := x) (HREF.out x.at))
          clear p0 p1 p2 p3 p4 p5 p6 s0 s1 s2 s3 s4 s5 s6 s7
          refine region_later 10 (by kernel_rfl) (by kernel_rfl) ?_
          simp only [List.take_succ_cons, List.take_zero, List.drop_succ_cons, List.drop_zero]
          repeat (go_big_quiet_step ((with_reducible exact V1.out _)))
          refine wpQuiet_nil ?_
          rintro w' ⟨x, rfl⟩
          have hb : Below w7.heap.size w7 x.at := x.below
          have HBn := Lib.hid (HB.out.trans (hb.mono HB.out.size))
          have HLn := Lib.hid (HL.out.keep hb)
          clear HB HL hb
          have HB := HBn
          have HL := HLn
          clear HBn HLn
          clear V1 P0 P1 P2 P3 P4 P5 P6 S0 S1 S2 S3 S4 S5 S6 S7
          generalize x.at = w8 at *
          have HP := Lib.hid (HL.out.at 2 rfl)
          have g0 := HP.out.cell 0; have g1 := HP.out.cell 1; have g2 := HP.out.cell 2
          simp only [List.getElem?_toArray, List.getElem?_cons_zero, List.getElem?_cons_succ] at g0 g1 g2
          clear HP
          go_wp2_with fail
          (with_reducible refine (nine_walk _ (HT.out.keep HB.out)).mono ?_)
          rintro e w9 ⟨rfl, hb⟩
          have HBn := Lib.hid (HB.out.trans (hb.mono HB.out.size))
          have HLn := Lib.hid (HL.out.keep hb)
          clear HB HL hb
          have HB := HBn
          have HL := HLn
          clear HBn HLn
          go_wp2
          go_ret
          exact ⟨rfl, HB.out⟩
        | some x =>
          rw [hrd] at HRR hr
          have hx : x ≠ ⟨t, j, tok, txt, k, lv, n⟩ := fun e => hr (by rw [e])
          have hne := fun w => rrq_neq x ⟨t, j, tok, txt, k, lv, n⟩ hx w
          obtain ⟨b1, b2, b3, b4, b5, b6, b7⟩ := x
          simp only [readV, askV, askF, rqV] at HASK HRR hne
          clear hr ha hrd hx
          go_enter Tryd.func4, Tryd.ntmps4
          go_upto_region 1 with (fail)
          have HB := Lib.hid (Below.refl w.heap.size w)
          have HL := Lib.hid (Hold.nil w)
          have HBn := Lib.hid (HB.out.alloc (Nat.le_refl _) (.cells #[.int .i64 t, .int .i64 j, .string tok, .string txt, .int .i64 k, .int .i64 lv, .int .i64 n] 27))
          have HLn := Lib.hid (HL.out.add #[.int .i64 t, .int .i64 j, .string tok, .string txt, .int .i64 k, .int .i64 lv, .int .i64 n] 27)
          clear HB HL
          have HB := HBn
          have HL := HLn
          clear HBn HLn
          obtain ⟨q0, hq0⟩ : ∃ q0, q0 = w.heap.size := ⟨_, rfl⟩
          rw [← hq0] at HL
          rw [← hq0]
          clear hq0
          generalize w.alloc (.cells #[.int .i64 t, .int .i64 j, .string tok, .string txt, .int .i64 k, .int .i64 lv, .int .i64 n] 27) = w1 at *
          have HP := Lib.hid (HL.out.at 0 rfl)
          have p0 := HP.out.cell 0; have p1 := HP.out.cell 1; have p2 := HP.out.cell 2; have p3 := HP.out.cell 3; have p4 := HP.out.cell 4; have p5 := HP.out.cell 5; have p6 := HP.out.cell 6
          simp only [List.getElem?_toArray, List.getElem?_cons_zero, List.getElem?_cons_succ] at p0 p1 p2 p3 p4 p5 p6
          clear HP
          go_wp2_with fail
          (with_reducible refine (HASK.out _ (HT.out.keep HB.out)).mono ?_)
          rintro e w2 ⟨rfl, hb⟩
          have HBn := Lib.hid (HB.out.trans (hb.mono HB.out.size))
          have HLn := Lib.hid (HL.out.keep hb)
          clear HB HL hb
          have HB := HBn
          have HL := HLn
          clear HBn HLn
          clear p0 p1 p2 p3 p4 p5 p6
          go_upto_region 4 with (fail)
          have HBn := Lib.hid (HB.out.alloc HB.out.size (.cells #[.int .i64 0, .int .i64 0, .string ⟨#[]⟩] 23))
          have HLn := Lib.hid (HL.out.add #[.int .i64 0, .int .i64 0, .string ⟨#[]⟩] 23)
          clear HB HL
          have HB := HBn
          have HL := HLn
          clear HBn HLn
          generalize w2.heap.size = q2 at *
          generalize w2.alloc (.cells #[.int .i64 0, .int .i64 0, .string ⟨#[]⟩] 23) = w3 at *
          have l0 := (HL.out.at 1 rfl).lt
          have l2 := (HL.out.at 0 rfl).lt
          have HBS := Lib.hid HB.out.size
          apply Quiet.region_make 8 5 (Psi := fun x w' => ∃ r, x = .pointer (some ⟨r, 0, none⟩) ∧ w3.heap.size ≤ r ∧ Has w' r #[.int .i64 0, .int .i64 0, .string ⟨#[]⟩] 23) (by kernel_rfl) (by kernel_rfl) (by kernel_rfl)
          case H1 =>
            intro wb hwb
            have HP := Lib.hid (HL.out.at 1 rfl)
            have d0 : ∀ x : Later wb, x.at.cell? ⟨q0, 0, none⟩ = some (.int .i64 t) := fun x => x.cell ((Later.mk hwb).cell (HP.out.cell 0))
            have d1 : ∀ x : Later wb, x.at.cell? ⟨q0, 1, none⟩ = some (.int .i64 j) := fun x => x.cell ((Later.mk hwb).cell (HP.out.cell 1))
            have d2 : ∀ x : Later wb, x.at.cell? ⟨q0, 2, none⟩ = some (.string tok) := fun x => x.cell ((Later.mk hwb).cell (HP.out.cell 2))
            have d3 : ∀ x : Later wb, x.at.cell? ⟨q0, 3, none⟩ = some (.string txt) := fun x => x.cell ((Later.mk hwb).cell (HP.out.cell 3))
            have d4 : ∀ x : Later wb, x.at.cell? ⟨q0, 4, none⟩ = some (.int .i64 k) := fun x => x.cell ((Later.mk hwb).cell (HP.out.cell 4))
            have d5 : ∀ x : Later wb, x.at.cell? ⟨q0, 5, none⟩ = some (.int .i64 lv) := fun x => x.cell ((Later.mk hwb).cell (HP.out.cell 5))
            have d6 : ∀ x : Later wb, x.at.cell? ⟨q0, 6, none⟩ = some (.int .i64 n) := fun x => x.cell ((Later.mk hwb).cell (HP.out.cell 6))
            have HVX := Lib.hid (fun x : Later wb => later_call (x := x) (HREF.out x.at))
            have HVY := Lib.hid (fun x : Later wb => later_call (x := x) (HDAT.out x.at))
            clear HP
            show wpQuiet _ _ (fun w' => ∃ x : Later wb, w' = x.at) _ _ _
            simp only [List.take_succ_cons, List.take_zero]
            repeat (go_big_quiet_step (first | (with_reducible exact HVX.out _) | (with_reducible exact HVY.out _)))
            exact rfl
          case make =>
            intro o ho wa hwa
            obtain rfl := Option.some.inj ho
            refine ⟨.pointer (some ⟨wa.heap.size, 0, none⟩), wa.alloc (.cells #[.int .i64 0, .int .i64 0, .string ⟨#[]⟩] 23), ?_, ?_, ⟨wa.heap.size, rfl, hwa.size, Has.new wa _ _⟩⟩
            · kernel_rfl
            · exact (Below.refl _ _).alloc (Nat.le_refl _) _
          case mono =>
            rintro x wa wb ⟨r, hx, hr, hh⟩ hwb
            exact ⟨r, hx, hr, Has.below hh hwb (Has.lt hh)⟩
          rintro x w4 hl2 ⟨r, rfl, hr1, hh⟩
          simp only [List.drop_succ_cons, List.drop_zero, Act.put, List.setIfInBounds_toArray, List.set_cons_succ, List.set_cons_zero]
          have hb : Below w3.heap.size w3 w4 := hl2
          clear hl2
          have HBn := Lib.hid (HB.out.trans (hb.mono HB.out.size))
          have HLn := Lib.hid (HL.out.keep hb)
          clear HB HL hb
          have HB := HBn
          have HL := HLn
          clear HBn HLn
          have hrl := hh.lt
          have hrb : w.heap.size ≤ r := Nat.le_trans HBS.out hr1
          have HF := Lib.hid hh
          clear hh
          have z0 := HF.out.cell 0; have z1 := HF.out.cell 1; have z2 := HF.out.cell 2
          have y0 := HF.out.free 0; have y1 := HF.out.free 1; have y2 := HF.out.free 2
          simp only [List.getElem?_toArray, List.getElem?_cons_zero, List.getElem?_cons_succ] at z0 z1 z2
          go_upto_region 5 with (fail)
          have HF3 := Lib.hid (fset3 HF.out (.int .i64 t) (.int .i64 j) (.string D))
          have HLn := Lib.hid ((HL.out.set3 (r := r) (by intro x hx; simp only [List.mem_cons, List.not_mem_nil, or_false] at hx; rcases hx with rfl | rfl <;> simp only <;> omega) (.int .i64 t) (.int .i64 j) (.string D)).cons HF3.out)
          have HBn := Lib.hid (bset3 HB.out (r := r) hrb (.int .i64 t) (.int .i64 j) (.string D))
          clear z0 z1 z2 y0 y1 y2 HF HF3 HL HB l0 l2
          have HL := HLn
          have HB := HBn
          clear HLn HBn hrl hr1 hrb
          generalize ((w4.setCell ⟨r, 0, none⟩ (.int .i64 t)).setCell ⟨r, 1, none⟩ (.int .i64 j)).setCell ⟨r, 2, none⟩ (.string D) = w5 at *
          have HP := Lib.hid (HL.out.at 0 rfl)
          have z0 := HP.out.cell 0; have z1 := HP.out.cell 1; have z2 := HP.out.cell 2
          simp only [List.getElem?_toArray, List.getElem?_cons_zero, List.getElem?_cons_succ] at z0 z1 z2
          clear HP
          go_wp2_with fail
          (with_reducible refine (HRR.out _).mono ?_)
          rintro e w6 ⟨rfl, hb⟩
          have HBn := Lib.hid (HB.out.trans (hb.mono HB.out.size))
          have HLn := Lib.hid (HL.out.keep hb)
          clear HB HL hb
          have HB := HBn
          have HL := HLn
          clear HBn HLn
          clear z0 z1 z2
          go_upto_region 6 with (fail)
          have HBn := Lib.hid (HB.out.alloc HB.out.size (.cells #[.int .i64 b1, .int .i64 b2, .string b3, .string b4, .int .i64 b5, .int .i64 b6, .int .i64 b7, .bool true] 33))
          have HLn := Lib.hid (HL.out.add #[.int .i64 b1, .int .i64 b2, .string b3, .string b4, .int .i64 b5, .int .i64 b6, .int .i64 b7, .bool true] 33)
          clear HB HL
          have HB := HBn
          have HL := HLn
          clear HBn HLn
          generalize w6.heap.size = q3 at *
          generalize w6.alloc (.cells #[.int .i64 b1, .int .i64 b2, .string b3, .string b4, .int .i64 b5, .int .i64 b6, .int .i64 b7, .bool true] 33) = w7 at *
          have HP := Lib.hid (HL.out.at 0 rfl)
          have s0 := HP.out.cell 0; have s1 := HP.out.cell 1; have s2 := HP.out.cell 2; have s3 := HP.out.cell 3; have s4 := HP.out.cell 4; have s5 := HP.out.cell 5; have s6 := HP.out.cell 6
          simp only [List.getElem?_toArray, List.getElem?_cons_zero, List.getElem?_cons_succ] at s0 s1 s2 s3 s4 s5 s6
          clear HP
          have HP := Lib.hid (HL.out.at 3 rfl)
          have p0 := HP.out.cell 0; have p1 := HP.out.cell 1; have p2 := HP.out.cell 2; have p3 := HP.out.cell 3; have p4 := HP.out.cell 4; have p5 := HP.out.cell 5; have p6 := HP.out.cell 6
          simp only [List.getElem?_toArray, List.getElem?_cons_zero, List.getElem?_cons_succ] at p0 p1 p2 p3 p4 p5 p6
          clear HP
          have s7 := (HL.out.at 0 rfl).cell 7
          simp only [List.getElem?_toArray, List.getElem?_cons_zero, List.getElem?_cons_succ] at s7
          have P0 : ∀ x : Later w7, x.at.cell? ⟨q0, 0, none⟩ = some (.int .i64 t) := fun x => x.cell p0
          have P1 : ∀ x : Later w7, x.at.cell? ⟨q0, 1, none⟩ = some (.int .i64 j) := fun x => x.cell p1
          have P2 : ∀ x : Later w7, x.at.cell? ⟨q0, 2, none⟩ = some (.string tok) := fun x => x.cell p2
          have P3 : ∀ x : Later w7, x.at.cell? ⟨q0, 3, none⟩ = some (.string txt) := fun x => x.cell p3
          have P4 : ∀ x : Later w7, x.at.cell? ⟨q0, 4, none⟩ = some (.int .i64 k) := fun x => x.cell p4
          have P5 : ∀ x : Later w7, x.at.cell? ⟨q0, 5, none⟩ = some (.int .i64 lv) := fun x => x.cell p5
          have P6 : ∀ x : Later w7, x.at.cell? ⟨q0, 6, none⟩ = some (.int .i64 n) := fun x => x.cell p6
          have S0 : ∀ x : Later w7, x.at.cell? ⟨q3, 0, none⟩ = _ := fun x => x.cell s0
          have S1 : ∀ x : Later w7, x.at.cell? ⟨q3, 1, none⟩ = _ := fun x => x.cell s1
          have S2 : ∀ x : Later w7, x.at.cell? ⟨q3, 2, none⟩ = _ := fun x => x.cell s2
          have S3 : ∀ x : Later w7, x.at.cell? ⟨q3, 3, none⟩ = _ := fun x => x.cell s3
          have S4 : ∀ x : Later w7, x.at.cell? ⟨q3, 4, none⟩ = _ := fun x => x.cell s4
          have S5 : ∀ x : Later w7, x.at.cell? ⟨q3, 5, none⟩ = _ := fun x => x.cell s5
          have S6 : ∀ x : Later w7, x.at.cell? ⟨q3, 6, none⟩ = _ := fun x => x.cell s6
          have S7 : ∀ x : Later w7, x.at.cell? ⟨q3, 7, none⟩ = _ := fun x => x.cell s7
          have V1 := Lib.hid (fun x : Later w7 => later_call (x := x) (HREF.out x.at))
          clear p0 p1 p2 p3 p4 p5 p6 s0 s1 s2 s3 s4 s5 s6 s7
          refine region_later 10 (by kernel_rfl) (by kernel_rfl) ?_
          simp only [List.take_succ_cons, List.take_zero, List.drop_succ_cons, List.drop_zero]
          repeat (go_big_quiet_step ((with_reducible exact V1.out _)))
          refine wpQuiet_nil ?_
          rintro w' ⟨x, rfl⟩
          have hb : Below w7.heap.size w7 x.at := x.below
          have HBn := Lib.hid (HB.out.trans (hb.mono HB.out.size))
          have HLn := Lib.hid (HL.out.keep hb)
          clear HB HL hb
          have HB := HBn
          have HL := HLn
          clear HBn HLn
          clear V1 P0 P1 P2 P3 P4 P5 P6 S0 S1 S2 S3 S4 S5 S6 S7
          generalize x.at = w8 at *
          have HP := Lib.hid (HL.out.at 2 rfl)
          have g0 := HP.out.cell 0; have g1 := HP.out.cell 1; have g2 := HP.out.cell 2
          simp only [List.getElem?_toArray, List.getElem?_cons_zero, List.getElem?_cons_succ] at g0 g1 g2
          clear HP
          go_wp2_with fail
          (with_reducible refine (nine_walk _ (HT.out.keep HB.out)).mono ?_)
          rintro e w9 ⟨rfl, hb⟩
          have HBn := Lib.hid (HB.out.trans (hb.mono HB.out.size))
          have HLn := Lib.hid (HL.out.keep hb)
          clear HB HL hb
          have HB := HBn
          have HL := HLn
          clear HBn HLn
          go_wp2
          go_ret
          exact ⟨rfl, HB.out⟩
end Go.Proofs.YtckdbkbecelgcaaDoor
