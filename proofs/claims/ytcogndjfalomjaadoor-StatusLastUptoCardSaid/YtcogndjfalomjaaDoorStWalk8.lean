/- A text's status. -/
import Derived.Test.YtcogndjfalomjaaDoorStSplit
import Derived.Test.YtcogndjfalomjaaDoorStWalk6
import Derived.Test.YtcogndjfalomjaaDoorMake
namespace Go.Proofs.YtcogndjfalomjaaDoor
open Go.RowKit
set_option linter.unusedVariables false
set_option linter.unusedSimpArgs false

/-- the cell that bytealg.MaxLen holds -/
def MaxL (w : World) : Prop := ∃ m, w.cell? ⟨0, 0, none⟩ = some (.int .i64 m)
theorem MaxL.keep {w w' : World} (h : MaxL w) (hb : Below w.heap.size w w') : MaxL w' := by
  obtain ⟨m, hm⟩ := h
  exact ⟨m, by rw [hb.cell (p := ⟨0, 0, none⟩) (World.block_lt_of_cell? _ _ hm)]; exact hm⟩
theorem split_walk41 (s : ByteArray) (c : UInt8) (L : List (List UInt8)) (hL : St.splitC c s.data.toList = L) (w : World) (hM : MaxL w) (hs : s.size < 4294967281) :
    Calls Tryd.prog 24 #[.string s, .string ⟨#[c]⟩] w fun e w' => e = .returned (.slice (some ⟨w.heap.size, 0, none⟩) L.length L.length) ∧ w' = w.alloc (.cells (L.map fun x => Value.string (Fr.bs x)).toArray 9) := by
  obtain ⟨m, hm⟩ := hM
  have h := Tryd.strings_Split s ⟨#[c]⟩ m w hs hm (Nat.le_refl _)
  rw [St.splitB_C, St.countB_C, hL, List.map_map] at h
  exact h
namespace St
def parsedV : Option Nums → Value
  | some n => .tuple #[.agg #[.int .i64 n.at', .int .i64 n.jobs, .int .i64 n.used, .int .i64 n.limit, .int .i64 n.left], .int .i64 0]
  | none => .tuple #[.agg #[.int .i64 0, .int .i64 0, .int .i64 0, .int .i64 0, .int .i64 0], .int .i64 4]
theorem parse_not (s : List UInt8) (h : (splitC 32 s).length ≠ 5) : parse s = none := by
  unfold parse
  split
  · rename_i e; rw [e] at h; exact absurd rfl h
  · rfl
theorem parse_five (s a b c d e : List UInt8) (h : splitC 32 s = [a, b, c, d, e]) : parse s = if may ⟨number a, number b, number c, number d, number e⟩ = true ∧ textL ⟨number a, number b, number c, number d, number e⟩ = s then some ⟨number a, number b, number c, number d, number e⟩ else none := by
  unfold parse
  rw [h]
end St
theorem results_cell_tmp1 {fn : Func} {p u : Tmp} {ty : TypeId} (h : fn.results = #[.cell p ty, .tmp u]) (tmps : Array Value) (P : Program) (w : World) :
    (results fn tmps).run P w =
      ((asAddr (tmps.getD p undef)).run P w).andThen fun a w₁ => ((loadVar ty a).run P w₁).andThen fun x w₂ => .ok (.tuple #[x, tmps.getD u undef]) w₂ := by
  simp only [results, h]
  simp [Sem.run_bind, Result.andThen]
theorem str_ne {a b : ByteArray} (hab : a ≠ b) : (a.toList == b.toList) = false := by
  apply Bool.eq_false_iff.2
  intro e
  apply hab
  have e3 := beq_iff_eq.1 e
  rw [ByteArray.toList_eq, ByteArray.toList_eq] at e3
  exact Fr.bs_inj e3
theorem fset5 {w : World} {r : Nat} {x y z u v : Value} {T : TypeId} (h : Has w r #[x, y, z, u, v] T) (a b c d e : Value) : Has (((((w.setCell ⟨r, 0, none⟩ a).setCell ⟨r, 1, none⟩ b).setCell ⟨r, 2, none⟩ c).setCell ⟨r, 3, none⟩ d).setCell ⟨r, 4, none⟩ e) r #[a, b, c, d, e] T := ((((h.setCell 0 a).setCell 1 b).setCell 2 c).setCell 3 d).setCell 4 e
theorem oset5 {w : World} {q r : Nat} {cs : Array Value} {T : TypeId} (h : Has w q cs T) (hq : q ≠ r) (a b c d e : Value) : Has (((((w.setCell ⟨r, 0, none⟩ a).setCell ⟨r, 1, none⟩ b).setCell ⟨r, 2, none⟩ c).setCell ⟨r, 3, none⟩ d).setCell ⟨r, 4, none⟩ e) q cs T := ((((h.setCell_other _ _ hq).setCell_other _ _ hq).setCell_other _ _ hq).setCell_other _ _ hq).setCell_other _ _ hq
theorem bset1 {B : Nat} {w w' : World} (h : Below B w w') (b i : Nat) (hb : B ≤ b) (v : Value) : Below B w (w'.setCell ⟨b, i, none⟩ v) := h.setCell hb v
theorem bset5 {B : Nat} {w w' : World} {r : Nat} (h : Below B w w') (hr : B ≤ r) (a b c d e : Value) : Below B w (((((w'.setCell ⟨r, 0, none⟩ a).setCell ⟨r, 1, none⟩ b).setCell ⟨r, 2, none⟩ c).setCell ⟨r, 3, none⟩ d).setCell ⟨r, 4, none⟩ e) := bset1 (bset1 (bset1 (bset1 (bset1 h r 0 hr a) r 1 hr b) r 2 hr c) r 3 hr d) r 4 hr e
theorem number_bs (x : List UInt8) (w : World) : Calls Tryd.prog 25 #[.string (Fr.bs x)] w fun e w' => e = .returned (.int .i64 (St.number x)) ∧ Below w.heap.size w w' := by
  have h := number_walk (Fr.bs x) w
  rw [Fr.list_bs] at h
  exact h
set_option maxRecDepth 100000 in
set_option maxHeartbeats 2000000 in
theorem parse_walk41 (s : ByteArray) (w : World) (hM : MaxL w) (hs : s.size < 4294967281) : Calls Tryd.prog 13 #[.string s] w fun r w' => r = .returned (St.parsedV (St.parse s.data.toList)) ∧ Below w.heap.size w w' := by
  have HM := Lib.hid hM
  clear hM
  have hspl := fun L hL w hM => split_walk41 s 32 L hL w hM hs
  have hnot := St.parse_not s.data.toList
  have hfive := St.parse_five s.data.toList
  generalize hL : St.splitC 32 s.data.toList = L at *
  have HSP := Lib.hid (fun w hM => hspl L rfl w hM)
  clear hspl hL
  have HR := Has.new w #[.int .i64 0, .int .i64 0, .int .i64 0, .int .i64 0, .int .i64 0] 23
  have HB := (Below.refl w.heap.size w).alloc (Nat.le_refl _) (.cells #[.int .i64 0, .int .i64 0, .int .i64 0, .int .i64 0, .int .i64 0] 23)
  by_cases h5 : L.length = 5
  · obtain ⟨x1, x2, x3, x4, x5, rfl⟩ : ∃ x1 x2 x3 x4 x5, L = [x1, x2, x3, x4, x5] := by
      match L, h5 with
      | [x1, x2, x3, x4, x5], _ => exact ⟨x1, x2, x3, x4, x5, rfl⟩
    have hp := hfive x1 x2 x3 x4 x5 rfl
    clear hfive hnot h5
    have hmt := fun w => may41 ⟨St.number x1, St.number x2, St.number x3, St.number x4, St.number x5⟩ w
    have htt := fun h w => text_walk41 ⟨St.number x1, St.number x2, St.number x3, St.number x4, St.number x5⟩ h w
    have HN1 := Lib.hid (fun w => number_bs x1 w); have HN2 := Lib.hid (fun w => number_bs x2 w); have HN3 := Lib.hid (fun w => number_bs x3 w); have HN4 := Lib.hid (fun w => number_bs x4 w); have HN5 := Lib.hid (fun w => number_bs x5 w)
    simp only [List.map_cons, List.map_nil, List.length_cons, List.length_nil] at HSP
    generalize St.number x1 = a at *
    generalize St.number x2 = b at *
    generalize St.number x3 = c at *
    generalize St.number x4 = d at *
    generalize St.number x5 = e at *
    generalize Fr.bs x1 = A1 at *
    generalize Fr.bs x2 = A2 at *
    generalize Fr.bs x3 = A3 at *
    generalize Fr.bs x4 = A4 at *
    generalize Fr.bs x5 = A5 at *
    simp only at hmt htt
    generalize St.parse s.data.toList = P at *
    have HMT := Lib.hid hmt
    have HTT := Lib.hid htt
    have HP := Lib.hid hp
    clear hmt htt hp
    go_enter Tryd.func13, Tryd.ntmps13
    go_upto_region 1 with (fail)
    have HM1 := Lib.hid (HM.out.keep HB)
    obtain ⟨q, hq⟩ : ∃ q, q = w.heap.size := ⟨_, rfl⟩
    rw [← hq] at HR
    rw [← hq]
    have hqw : w.heap.size ≤ q := by omega
    clear hq HM
    generalize w.alloc (.cells #[.int .i64 0, .int .i64 0, .int .i64 0, .int .i64 0, .int .i64 0] 23) = w1 at *
    have HRh := Lib.hid HR
    have HBh := Lib.hid HB
    clear HR HB
    go_wp2_with fail
    (with_reducible refine (HSP.out _ HM1.out).mono ?_)
    rintro r2 w2 ⟨rfl, hw2⟩
    have hS := Has.new w1 #[.string A1, .string A2, .string A3, .string A4, .string A5] 9
    have hR2 := HRh.out.alloc (.cells #[.string A1, .string A2, .string A3, .string A4, .string A5] 9)
    have hB2 := HBh.out.alloc HBh.out.size (.cells #[.string A1, .string A2, .string A3, .string A4, .string A5] 9)
    rw [← hw2] at hS hR2 hB2
    have hqs : q ≠ w1.heap.size := Nat.ne_of_lt HRh.out.lt
    generalize w1.heap.size = sq at *
    have HS2 := Lib.hid hS; have HR2 := Lib.hid hR2; have HB2 := Lib.hid hB2
    clear hw2 hS hR2 hB2 HM1 HRh HBh HSP
    go_upto_region 4 with (fail)
    apply Quiet.region_make 21 5 (Psi := fun x w' => ∃ r, x = .pointer (some ⟨r, 0, none⟩) ∧ w2.heap.size ≤ r ∧ Has w' r #[.int .i64 0, .int .i64 0, .int .i64 0, .int .i64 0, .int .i64 0] 23) (by kernel_rfl) (by kernel_rfl) (by kernel_rfl)
    case H1 =>
      intro wb hwb
      have d0 : ∀ x : Later wb, x.at.cell? ⟨sq, 0, none⟩ = some (.string A1) := fun x => x.cell ((Later.mk hwb).cell (HS2.out.cell 0))
      have d1 : ∀ x : Later wb, x.at.cell? ⟨sq, 1, none⟩ = some (.string A2) := fun x => x.cell ((Later.mk hwb).cell (HS2.out.cell 1))
      have d2 : ∀ x : Later wb, x.at.cell? ⟨sq, 2, none⟩ = some (.string A3) := fun x => x.cell ((Later.mk hwb).cell (HS2.out.cell 2))
      have d3 : ∀ x : Later wb, x.at.cell? ⟨sq, 3, none⟩ = some (.string A4) := fun x => x.cell ((Later.mk hwb).cell (HS2.out.cell 3))
      have d4 : ∀ x : Later wb, x.at.cell? ⟨sq, 4, none⟩ = some (.string A5) := fun x => x.cell ((Later.mk hwb).cell (HS2.out.cell 4))
      have H1 := Lib.hid (fun x : Later wb => later_call (x := x) (HN1.out x.at))
      have H2 := Lib.hid (fun x : Later wb => later_call (x := x) (HN2.out x.at))
      have H3 := Lib.hid (fun x : Later wb => later_call (x := x) (HN3.out x.at))
      have H4 := Lib.hid (fun x : Later wb => later_call (x := x) (HN4.out x.at))
      have H5 := Lib.hid (fun x : Later wb => later_call (x := x) (HN5.out x.at))
      show wpQuiet _ _ (fun w' => ∃ x : Later wb, w' = x.at) _ _ _
      simp only [List.take_succ_cons, List.take_zero]
      repeat (go_big_quiet_step (first | (with_reducible exact H1.out _) | (with_reducible exact H2.out _) | (with_reducible exact H3.out _) | (with_reducible exact H4.out _) | (with_reducible exact H5.out _)))
      exact rfl
    case make =>
      intro o ho wa hwa
      obtain rfl := Option.some.inj ho
      refine ⟨.pointer (some ⟨wa.heap.size, 0, none⟩), wa.alloc (.cells #[.int .i64 0, .int .i64 0, .int .i64 0, .int .i64 0, .int .i64 0] 23), ?_, ?_, ⟨wa.heap.size, rfl, hwa.size, Has.new wa _ _⟩⟩
      · kernel_rfl
      · exact (Below.refl _ _).alloc (Nat.le_refl _) _
    case mono =>
      rintro x wa wb ⟨r, hx, hr, hh⟩ hwb
      exact ⟨r, hx, hr, Has.below hh hwb (Has.lt hh)⟩
    rintro x w3 hl3 ⟨r, rfl, hr1, hh⟩
    simp only [List.drop_succ_cons, List.drop_zero, Act.put, List.setIfInBounds_toArray, List.set_cons_succ, List.set_cons_zero]
    have hR3 := HR2.out.below hl3 HR2.out.lt
    have hB3 := HB2.out.trans (hl3.mono HB2.out.size)
    have hqr : q ≠ r := by have := HR2.out.lt; omega
    have hwr : w.heap.size ≤ r := by have := HB2.out.size; omega
    have HF3 := Lib.hid hh; have HR3 := Lib.hid hR3; have HB3 := Lib.hid hB3
    clear HR2 HB2 HS2 hl3 hh hR3 hB3 HN1 HN2 HN3 HN4 HN5 hr1 hqs
    have z0 := HF3.out.cell 0; have z1 := HF3.out.cell 1; have z2 := HF3.out.cell 2; have z3 := HF3.out.cell 3; have z4 := HF3.out.cell 4
    have y0 := HF3.out.free 0; have y1 := HF3.out.free 1; have y2 := HF3.out.free 2; have y3 := HF3.out.free 3; have y4 := HF3.out.free 4
    simp only [List.getElem?_toArray, List.getElem?_cons_zero, List.getElem?_cons_succ] at z0 z1 z2 z3 z4
    go_upto_region 5 with (fail)
    have HF4 := Lib.hid (fset5 HF3.out (.int .i64 a) (.int .i64 b) (.int .i64 c) (.int .i64 d) (.int .i64 e))
    have HR4 := Lib.hid (oset5 HR3.out hqr (.int .i64 a) (.int .i64 b) (.int .i64 c) (.int .i64 d) (.int .i64 e))
    have HB4 := Lib.hid (bset5 HB3.out hwr (.int .i64 a) (.int .i64 b) (.int .i64 c) (.int .i64 d) (.int .i64 e))
    clear z0 z1 z2 z3 z4 y0 y1 y2 y3 y4 HF3 HR3 HB3
    generalize ((((w3.setCell ⟨r, 0, none⟩ (.int .i64 a)).setCell ⟨r, 1, none⟩ (.int .i64 b)).setCell ⟨r, 2, none⟩ (.int .i64 c)).setCell ⟨r, 3, none⟩ (.int .i64 d)).setCell ⟨r, 4, none⟩ (.int .i64 e) = w4 at *
    have z0 := HF4.out.cell 0; have z1 := HF4.out.cell 1; have z2 := HF4.out.cell 2; have z3 := HF4.out.cell 3; have z4 := HF4.out.cell 4
    simp only [List.getElem?_toArray, List.getElem?_cons_zero, List.getElem?_cons_succ] at z0 z1 z2 z3 z4
    go_wp2_with fail
    (with_reducible refine (HMT.out _).mono ?_)
    rintro r5 w5 ⟨rfl, hb5⟩
    have HF5 := Lib.hid (HF4.out.below hb5 HF4.out.lt)
    have HR := Lib.hid (HR4.out.below hb5 HR4.out.lt)
    have HB5 := Lib.hid (HB4.out.trans (hb5.mono HB4.out.size))
    clear z0 z1 z2 z3 z4 hb5 HF4 HR4 HB4 HMT
    by_cases hm : St.may ⟨a, b, c, d, e⟩ = true
    · have HT := Lib.hid (fun w => HTT.out hm w)
      have HPP := Lib.hid (show St.parsedV P = if St.textL ⟨a, b, c, d, e⟩ = s.data.toList then St.parsedV (some ⟨a, b, c, d, e⟩) else St.parsedV none by
        rw [HP.out]
        by_cases ht : St.textL ⟨a, b, c, d, e⟩ = s.data.toList
        · rw [if_pos ⟨hm, ht⟩, if_pos ht]
        · rw [if_neg (fun h => ht h.2), if_neg ht])
      rw [hm]
      clear HTT HP hm
      by_cases ht : St.textL ⟨a, b, c, d, e⟩ = s.data.toList
      · have HV := Lib.hid (show St.parsedV P = .tuple #[.agg #[.int .i64 a, .int .i64 b, .int .i64 c, .int .i64 d, .int .i64 e], .int .i64 0] by rw [HPP.out, if_pos ht]; rfl)
        have hse : Fr.bs (St.textL ⟨a, b, c, d, e⟩) = s := by rw [ht, Fr.bs_list]
        rw [hse] at HT
        clear HPP ht hse
        have z0 := HF5.out.cell 0; have z1 := HF5.out.cell 1; have z2 := HF5.out.cell 2; have z3 := HF5.out.cell 3; have z4 := HF5.out.cell 4
        simp only [List.getElem?_toArray, List.getElem?_cons_zero, List.getElem?_cons_succ] at z0 z1 z2 z3 z4
        go_wp2_with fail
        with_reducible refine (HT.out _).mono ?_
        rintro r6 w6 ⟨rfl, hb6⟩
        have HF6 := Lib.hid (HF5.out.below hb6 HF5.out.lt)
        have HR6 := Lib.hid (HR.out.below hb6 HR.out.lt)
        have HB6 := Lib.hid (HB5.out.trans (hb6.mono HB5.out.size))
        clear z0 z1 z2 z3 z4 hb6 HF5 HR HB5 HT
        have p0 := HF6.out.cell 0; have p1 := HF6.out.cell 1; have p2 := HF6.out.cell 2; have p3 := HF6.out.cell 3; have p4 := HF6.out.cell 4
        simp only [List.getElem?_toArray, List.getElem?_cons_zero, List.getElem?_cons_succ] at p0 p1 p2 p3 p4
        have HR := HR6
        have z0 := HR.out.cell 0; have z1 := HR.out.cell 1; have z2 := HR.out.cell 2; have z3 := HR.out.cell 3; have z4 := HR.out.cell 4
        have f0 := HR.out.free 0; have f1 := HR.out.free 1; have f2 := HR.out.free 2; have f3 := HR.out.free 3; have f4 := HR.out.free 4
        simp only [List.getElem?_toArray, List.getElem?_cons_zero, List.getElem?_cons_succ] at z0 z1 z2 z3 z4
        have hlt := HR.out.lt
        have hst : (s.toList == s.toList) = true := by simp
        go_wp2
        ((try simp only [Exit.inBlock, Exit.then]); refine bodyPost_ret (v := (.tuple #[.agg #[.int .i64 a, .int .i64 b, .int .i64 c, .int .i64 d, .int .i64 e], .int .i64 0])) ?_ rfl ⟨?_, ?_⟩; (rw [results_cell_tmp1 rfl]; go_simp))
        · rw [HV.out]
        · exact bset5 HB6.out hqw _ _ _ _ _
      · have HV := Lib.hid (show St.parsedV P = .tuple #[.agg #[.int .i64 0, .int .i64 0, .int .i64 0, .int .i64 0, .int .i64 0], .int .i64 4] by rw [HPP.out, if_neg ht]; rfl)
        have hbb := str_ne (a := Fr.bs (St.textL ⟨a, b, c, d, e⟩)) (b := s) (fun h => ht (by rw [← h, Fr.list_bs]))
        generalize Fr.bs (St.textL ⟨a, b, c, d, e⟩) = X at *
        clear HPP ht
        have z0 := HF5.out.cell 0; have z1 := HF5.out.cell 1; have z2 := HF5.out.cell 2; have z3 := HF5.out.cell 3; have z4 := HF5.out.cell 4
        simp only [List.getElem?_toArray, List.getElem?_cons_zero, List.getElem?_cons_succ] at z0 z1 z2 z3 z4
        go_wp2_with fail
        with_reducible refine (HT.out _).mono ?_
        rintro r6 w6 ⟨rfl, hb6⟩
        have HR6 := Lib.hid (HR.out.below hb6 HR.out.lt)
        have HB6 := Lib.hid (HB5.out.trans (hb6.mono HB5.out.size))
        clear z0 z1 z2 z3 z4 hb6 HF5 HR HB5 HT
        have HR := HR6
        have z0 := HR.out.cell 0; have z1 := HR.out.cell 1; have z2 := HR.out.cell 2; have z3 := HR.out.cell 3; have z4 := HR.out.cell 4
        have f0 := HR.out.free 0; have f1 := HR.out.free 1; have f2 := HR.out.free 2; have f3 := HR.out.free 3; have f4 := HR.out.free 4
        simp only [List.getElem?_toArray, List.getElem?_cons_zero, List.getElem?_cons_succ] at z0 z1 z2 z3 z4
        have hlt := HR.out.lt
        go_wp2
        ((try simp only [Exit.inBlock, Exit.then]); refine bodyPost_ret (v := (.tuple #[.agg #[.int .i64 0, .int .i64 0, .int .i64 0, .int .i64 0, .int .i64 0], .int .i64 4])) ?_ rfl ⟨?_, ?_⟩; (rw [results_cell_tmp1 rfl]; go_simp))
        · rw [HV.out]
        · exact bset5 HB6.out hqw _ _ _ _ _
    · have HV := Lib.hid (show St.parsedV P = .tuple #[.agg #[.int .i64 0, .int .i64 0, .int .i64 0, .int .i64 0, .int .i64 0], .int .i64 4] by rw [HP.out, if_neg (fun h => hm h.1)]; rfl)
      have hm2 : St.may ⟨a, b, c, d, e⟩ = false := by simpa using hm
      rw [hm2]
      clear HTT HP hm hm2
      have z0 := HR.out.cell 0; have z1 := HR.out.cell 1; have z2 := HR.out.cell 2; have z3 := HR.out.cell 3; have z4 := HR.out.cell 4
      have f0 := HR.out.free 0; have f1 := HR.out.free 1; have f2 := HR.out.free 2; have f3 := HR.out.free 3; have f4 := HR.out.free 4
      simp only [List.getElem?_toArray, List.getElem?_cons_zero, List.getElem?_cons_succ] at z0 z1 z2 z3 z4
      have hlt := HR.out.lt
      go_wp2
      ((try simp only [Exit.inBlock, Exit.then]); refine bodyPost_ret (v := (.tuple #[.agg #[.int .i64 0, .int .i64 0, .int .i64 0, .int .i64 0, .int .i64 0], .int .i64 4])) ?_ rfl ⟨?_, ?_⟩; (rw [results_cell_tmp1 rfl]; go_simp))
      · rw [HV.out]
      · exact bset5 HB5.out hqw _ _ _ _ _
  · have HV := Lib.hid (show St.parsedV (St.parse s.data.toList) = .tuple #[.agg #[.int .i64 0, .int .i64 0, .int .i64 0, .int .i64 0, .int .i64 0], .int .i64 4] by rw [hnot h5]; rfl)
    clear hnot hfive
    generalize L.length = m at *
    have h5' : ((m : Int) == 5) = false := by simp; omega
    have h5n : ¬ (m : Int) = 5 := by omega
    clear h5
    go_enter Tryd.func13, Tryd.ntmps13
    go_upto_region 1 with (fail)
    have HM1 := Lib.hid (HM.out.keep HB)
    obtain ⟨q, hq⟩ : ∃ q, q = w.heap.size := ⟨_, rfl⟩
    rw [← hq] at HR
    rw [← hq]
    have hqw : w.heap.size ≤ q := by omega
    clear hq HM
    generalize w.alloc (.cells #[.int .i64 0, .int .i64 0, .int .i64 0, .int .i64 0, .int .i64 0] 23) = w1 at *
    have HRh := Lib.hid HR
    have HBh := Lib.hid HB
    clear HR HB
    go_wp2_with fail
    (with_reducible refine (HSP.out _ HM1.out).mono ?_)
    rintro r2 w2 ⟨rfl, hw2⟩
    generalize (L.map fun x => Value.string (Fr.bs x)).toArray = CS at *
    have hR2 := HRh.out.alloc (.cells CS 9)
    have hB2 := HBh.out.alloc HBh.out.size (.cells CS 9)
    rw [← hw2] at hR2 hB2
    have HR := Lib.hid hR2; have HB2 := Lib.hid hB2
    clear hw2 hR2 hB2 HM1 HRh HBh HSP
    have z0 := HR.out.cell 0; have z1 := HR.out.cell 1; have z2 := HR.out.cell 2; have z3 := HR.out.cell 3; have z4 := HR.out.cell 4
    have f0 := HR.out.free 0; have f1 := HR.out.free 1; have f2 := HR.out.free 2; have f3 := HR.out.free 3; have f4 := HR.out.free 4
    simp only [List.getElem?_toArray, List.getElem?_cons_zero, List.getElem?_cons_succ] at z0 z1 z2 z3 z4
    have hlt := HR.out.lt
    go_wp2
    ((try simp only [Exit.inBlock, Exit.then]); refine bodyPost_ret (v := (.tuple #[.agg #[.int .i64 0, .int .i64 0, .int .i64 0, .int .i64 0, .int .i64 0], .int .i64 4])) ?_ rfl ⟨?_, ?_⟩; (rw [results_cell_tmp1 rfl]; go_simp))
    · rw [HV.out]
    · exact bset5 HB2.out hqw _ _ _ _ _
end Go.Proofs.YtcogndjfalomjaaDoor
