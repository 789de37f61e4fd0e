/- What a request comes to: use, act. -/
import Derived.Test.YtajalllecoclcaaDoorCnWalk1
namespace Go.Proofs.YtajalllecoclcaaDoor
open Go.RowKit
set_option linter.unusedVariables false
set_option linter.unusedSimpArgs false

theorem use_3 (r : Pr.Rq) (h : r.t = 3) : Cn.use r = ⟨4, r.j, 0, 0, 0, 0, r.txt, 0⟩ := by unfold Cn.use; rw [if_pos h]
theorem use_4 (r : Pr.Rq) (h : r.t = 4) : Cn.use r = ⟨5, r.j, 0, 0, 0, 0, Pr.e0, 0⟩ := by unfold Cn.use; rw [if_neg (by omega), if_pos h]
theorem use_5 (r : Pr.Rq) (h : r.t = 5) : Cn.use r = ⟨6, r.j, 0, 0, 0, 0, Pr.e0, 0⟩ := by unfold Cn.use; rw [if_neg (by omega), if_neg (by omega), if_pos h]
theorem use_x (r : Pr.Rq) (h3 : ¬ r.t = 3) (h4 : ¬ r.t = 4) (h5 : ¬ r.t = 5) : Cn.use r = ⟨7, r.j, 0, 0, 0, r.n, Pr.e0, 0⟩ := by unfold Cn.use; rw [if_neg h3, if_neg h4, if_neg h5]
theorem over_4 (L : List Cn.Act) (r : Pr.Rq) (h : Cn.over L r = false) (h4 : r.t = 4) : Cn.had L 5 r.j = false ∧ Cn.had L 6 r.j = false := by
  unfold Cn.over at h
  rw [decide_eq_true h4, Bool.or_true, Bool.true_and, Bool.or_eq_false_iff] at h
  exact ⟨h.2, h.1⟩
theorem over_6 (L : List Cn.Act) (r : Pr.Rq) (h : Cn.over L r = false) : Cn.had L 6 r.j = false := by
  unfold Cn.over at h
  rw [Bool.or_eq_false_iff] at h
  exact h.1
set_option maxRecDepth 100000 in
set_option maxHeartbeats 1200000 in
theorem use_walk (b m : Nat) (a : Option Addr) (cap : Nat) (l : List Tn.Ten) (L : List Cn.Act) (r : Pr.Rq) (w : World) (h : ConnAt w b m a cap l L) (hj : I64 r.j) (h0 : Cn.tenant L ≠ -1) (h3 : Cn.had L 3 r.j = true) (hov : Cn.over L r = false) :
    Calls Tryd.prog 46 #[.pointer (some ⟨b, 0, none⟩), rqV r] w fun e w' => e = .returned (actV (Cn.use r)) ∧ Stepped w w' b m a cap l L (Cn.use r) := by
  have HC0 := Lib.hid h
  have HLOW := Lib.hid h.low
  have HLK := Lib.hid (fun (w : World) (h : MapAt w m L) => h.look r.j hj)
  have HGO := Lib.hid (h.good.use r h0 h3)
  have HH3 := Lib.hid h3
  have U3 := use_3 r; have U4 := use_4 r; have U5 := use_5 r; have UX := use_x r
  have O4 := over_4 L r hov; have O6 := over_6 L r hov
  have hme := mark4 L r.j h3
  have HJ := Lib.hid hj
  have hmost := h.good.most
  have HMO := Lib.hid (show Cn.opened L < maxLen by have : (1024 : Nat) < maxLen := by decide
                                                    omega)
  generalize Cn.use r = X at *
  obtain ⟨t, j, tok, txt, k, lv, n⟩ := r
  simp only at U3 U4 U5 UX O4 O6 HLK hme HJ HH3
  show Calls Tryd.prog 46 #[.pointer (some ⟨b, 0, none⟩), .agg #[.int .i64 t, .int .i64 j, .string tok, .string txt, .int .i64 k, .int .i64 lv, .int .i64 n]] w _
  clear h h0 hj hmost hov h3
  by_cases t3 : t = 3
  · rw [U3 t3]
    subst t3
    clear U3 U4 U5 UX O4 O6 hme HGO
    go_enter Tryd.func46, Tryd.ntmps46
    go_upto_region 1 with (fail)
    have HU := Lib.hid (U2.new w [b, m] #[.int .i64 3, .int .i64 j, .string tok, .string txt, .int .i64 k, .int .i64 lv, .int .i64 n] #[.int .i64 0, .int .i64 0, .int .i64 0, .int .i64 0, .int .i64 0, .int .i64 0, .string ⟨#[]⟩, .int .i64 0] 70 38)
    have HC := Lib.hid (HC0.out.keep (two_below w (.cells #[.int .i64 3, .int .i64 j, .string tok, .string txt, .int .i64 k, .int .i64 lv, .int .i64 n] 70) (.cells #[.int .i64 0, .int .i64 0, .int .i64 0, .int .i64 0, .int .i64 0, .int .i64 0, .string ⟨#[]⟩, .int .i64 0] 38)))
    clear HC0
    generalize (w.alloc (.cells #[.int .i64 3, .int .i64 j, .string tok, .string txt, .int .i64 k, .int .i64 lv, .int .i64 n] 70)).alloc (.cells #[.int .i64 0, .int .i64 0, .int .i64 0, .int .i64 0, .int .i64 0, .int .i64 0, .string ⟨#[]⟩, .int .i64 0] 38) = w1 at *
    have HC2 := Lib.hid (HC.out.still ⟨4, j, 0, 0, 0, 0, txt, 0⟩ (show (4 : Int) ≠ 2 by decide) (show (4 : Int) ≠ 3 by decide) (show (4 : Int) ≠ 5 by decide) (show (4 : Int) ≠ 6 by decide))
    clear HC
    have HC := HC2
    clear HC2
    have x0 := HU.out.hp.cell 0; have x1 := HU.out.hp.cell 1; have x2 := HU.out.hp.cell 2; have x3 := HU.out.hp.cell 3; have x4 := HU.out.hp.cell 4; have x5 := HU.out.hp.cell 5; have x6 := HU.out.hp.cell 6
    simp only [List.getElem?_toArray, List.getElem?_cons_zero, List.getElem?_cons_succ] at x0 x1 x2 x3 x4 x5 x6
    have z0 := HU.out.hr.cell 0; have z1 := HU.out.hr.cell 1; have z2 := HU.out.hr.cell 2; have z3 := HU.out.hr.cell 3; have z4 := HU.out.hr.cell 4; have z5 := HU.out.hr.cell 5; have z6 := HU.out.hr.cell 6; have z7 := HU.out.hr.cell 7
    have g0 := HU.out.hr.free 0; have g1 := HU.out.hr.free 1; have g2 := HU.out.hr.free 2; have g3 := HU.out.hr.free 3; have g4 := HU.out.hr.free 4; have g5 := HU.out.hr.free 5; have g6 := HU.out.hr.free 6; have g7 := HU.out.hr.free 7
    simp only [List.getElem?_toArray, List.getElem?_cons_zero, List.getElem?_cons_succ] at z0 z1 z2 z3 z4 z5 z6 z7
    go_wp2
    ((try simp only [Exit.inBlock, Exit.then]); refine bodyPost_ret (v := (.agg #[.int .i64 4, .int .i64 j, .int .i64 0, .int .i64 0, .int .i64 0, .int .i64 0, .string txt, .int .i64 0])) ?_ rfl ⟨?_, ?_⟩; (rw [results_cell1 rfl]; go_simp))
    · rfl
    · refine fin_step HC.out HLOW.out HU.out.hc ?_
      (repeat (first | (with_reducible exact (Below.refl _ _)) | refine Below.setCell ?_ (by first | exact Nat.le_refl _ | exact Nat.le_succ _) _))
  · by_cases t4 : t = 4
    · rw [U4 t4] at HGO ⊢
      have hm : Cn.mark L j = 1 ∧ Cn.had L 6 j = false := by
        have o4 := O4 t4
        rcases hme with ⟨e, _⟩ | ⟨e, e5, _⟩ | ⟨e, _, e6⟩ | ⟨e, e5, _⟩
        · exact ⟨e, o4.2⟩
        · rw [o4.1] at e5; cases e5
        · rw [o4.2] at e6; cases e6
        · rw [o4.1] at e5; cases e5
      have HX3 := Lib.hid (show Cn.had (L ++ [⟨5, j, 0, 0, 0, 0, Pr.e0, 0⟩]) 3 j = true by rw [Cn.had_app, HH3.out, Bool.true_or])
      have HXM := Lib.hid (Cn.mark_end L ⟨5, j, 0, 0, 0, 0, Pr.e0, 0⟩ j HH3.out hm.2 rfl rfl)
      rw [hm.1] at HLK
      subst t4
      clear U3 U4 U5 UX O4 O6 hme hm t3
      go_enter Tryd.func46, Tryd.ntmps46
      go_upto_region 1 with (fail)
      have HU := Lib.hid (U2.new w [b, m] #[.int .i64 4, .int .i64 j, .string tok, .string txt, .int .i64 k, .int .i64 lv, .int .i64 n] #[.int .i64 0, .int .i64 0, .int .i64 0, .int .i64 0, .int .i64 0, .int .i64 0, .string ⟨#[]⟩, .int .i64 0] 70 38)
      have HC := Lib.hid (HC0.out.keep (two_below w (.cells #[.int .i64 4, .int .i64 j, .string tok, .string txt, .int .i64 k, .int .i64 lv, .int .i64 n] 70) (.cells #[.int .i64 0, .int .i64 0, .int .i64 0, .int .i64 0, .int .i64 0, .int .i64 0, .string ⟨#[]⟩, .int .i64 0] 38)))
      clear HC0
      generalize (w.alloc (.cells #[.int .i64 4, .int .i64 j, .string tok, .string txt, .int .i64 k, .int .i64 lv, .int .i64 n] 70)).alloc (.cells #[.int .i64 0, .int .i64 0, .int .i64 0, .int .i64 0, .int .i64 0, .int .i64 0, .string ⟨#[]⟩, .int .i64 0] 38) = w1 at *
      have x0 := HU.out.hp.cell 0; have x1 := HU.out.hp.cell 1; have x2 := HU.out.hp.cell 2; have x3 := HU.out.hp.cell 3; have x4 := HU.out.hp.cell 4; have x5 := HU.out.hp.cell 5; have x6 := HU.out.hp.cell 6
      simp only [List.getElem?_toArray, List.getElem?_cons_zero, List.getElem?_cons_succ] at x0 x1 x2 x3 x4 x5 x6
      go_upto_region 5 with (fail)
      clear x0 x1 x2 x3 x4 x5 x6
      have c2 : ∀ y : Later w1, y.at.cell? ⟨b, 2, none⟩ = some (.map (some m)) := fun y => y.cell (HC.out.cells.cell 2)
      have x1 : ∀ y : Later w1, y.at.cell? ⟨w.heap.size, 1, none⟩ = some (.int .i64 j) := fun y => y.cell (HU.out.hp.cell 1)
      have lk := fun y : Later w1 => HLK.out _ (HC.out.keep y.below).map
      refine region_later 8 (by kernel_rfl) (by kernel_rfl) ?_
      simp only [List.take_succ_cons, List.take_zero, List.drop_succ_cons, List.drop_zero]
      repeat (go_big_quiet_step (fail))
      refine wpQuiet_nil ?_
      rintro w' ⟨x, rfl⟩
      have HU2 := Lib.hid (HU.out.keep x.below)
      have HC2 := Lib.hid (HC.out.keep x.below)
      clear HC HU c2 x1 lk
      generalize x.at = w3 at *
      at_mapUpdate
      refine wpList_mark _ rfl _ _ _ rfl m L (L ++ [⟨5, j, 0, 0, 0, 0, Pr.e0, 0⟩]) j 3 rfl rfl rfl HC2.out.map HJ.out (show (Lit.int .i64 3).wf = true by decide) HMO.out HX3.out HXM.out (fun i hi => ⟨Cn.mark_still _ _ _ (.inl fun e => hi e.symm), Cn.had_no _ _ _ _ (.inr fun e => hi e.symm)⟩) (by rw [if_pos HH3.out, Cn.opened_app]; rfl) ?_
      intro w4 hm4 hc4
      have HU := Lib.hid (HU2.out.chg (hc4.mono fun y _ hy => by simp at hy; simp [hy]) (low_in HLOW.out))
      have HC := Lib.hid (HC2.out.turned hc4 ⟨5, j, 0, 0, 0, 0, Pr.e0, 0⟩ (show (5 : Int) ≠ 2 by decide) hm4 HGO.out)
      clear HU2 HC2 hm4 hc4
      have x0 := HU.out.hp.cell 0; have x1 := HU.out.hp.cell 1; have x2 := HU.out.hp.cell 2; have x3 := HU.out.hp.cell 3; have x4 := HU.out.hp.cell 4; have x5 := HU.out.hp.cell 5; have x6 := HU.out.hp.cell 6
      simp only [List.getElem?_toArray, List.getElem?_cons_zero, List.getElem?_cons_succ] at x0 x1 x2 x3 x4 x5 x6
      have z0 := HU.out.hr.cell 0; have z1 := HU.out.hr.cell 1; have z2 := HU.out.hr.cell 2; have z3 := HU.out.hr.cell 3; have z4 := HU.out.hr.cell 4; have z5 := HU.out.hr.cell 5; have z6 := HU.out.hr.cell 6; have z7 := HU.out.hr.cell 7
      have g0 := HU.out.hr.free 0; have g1 := HU.out.hr.free 1; have g2 := HU.out.hr.free 2; have g3 := HU.out.hr.free 3; have g4 := HU.out.hr.free 4; have g5 := HU.out.hr.free 5; have g6 := HU.out.hr.free 6; have g7 := HU.out.hr.free 7
      simp only [List.getElem?_toArray, List.getElem?_cons_zero, List.getElem?_cons_succ] at z0 z1 z2 z3 z4 z5 z6 z7
      go_wp2
      ((try simp only [Exit.inBlock, Exit.then]); refine bodyPost_ret (v := (.agg #[.int .i64 5, .int .i64 j, .int .i64 0, .int .i64 0, .int .i64 0, .int .i64 0, .string ⟨#[]⟩, .int .i64 0])) ?_ rfl ⟨?_, ?_⟩; (rw [results_cell1 rfl]; go_simp))
      · rfl
      · refine fin_step HC.out HLOW.out HU.out.hc ?_
        (repeat (first | (with_reducible exact (Below.refl _ _)) | refine Below.setCell ?_ (by first | exact Nat.le_refl _ | exact Nat.le_succ _) _))
    · have q3 : (t == 3) = false := by simpa using t3
      have q4 : (t == 4) = false := by simpa using t4
      by_cases t5 : t = 5
      · rw [U5 t5] at HGO ⊢
        have HX3 := Lib.hid (show Cn.had (L ++ [⟨6, j, 0, 0, 0, 0, Pr.e0, 0⟩]) 3 j = true by rw [Cn.had_app, HH3.out, Bool.true_or])
        have HXM := Lib.hid (Cn.mark_cancel L ⟨6, j, 0, 0, 0, 0, Pr.e0, 0⟩ j HH3.out rfl rfl)
        subst t5
        rcases hme with ⟨e, e5, _⟩ | ⟨e, e5, _⟩ | ⟨e, _, e6⟩ | ⟨e, _, e6⟩
        · rw [e] at HLK
          rw [e5, if_neg (by decide)] at HXM
          clear U3 U4 U5 UX O4 O6 e e5 t3 t4 q3 q4
          go_enter Tryd.func46, Tryd.ntmps46
          go_upto_region 1 with (fail)
          have HU := Lib.hid (U2.new w [b, m] #[.int .i64 5, .int .i64 j, .string tok, .string txt, .int .i64 k, .int .i64 lv, .int .i64 n] #[.int .i64 0, .int .i64 0, .int .i64 0, .int .i64 0, .int .i64 0, .int .i64 0, .string ⟨#[]⟩, .int .i64 0] 70 38)
          have HC := Lib.hid (HC0.out.keep (two_below w (.cells #[.int .i64 5, .int .i64 j, .string tok, .string txt, .int .i64 k, .int .i64 lv, .int .i64 n] 70) (.cells #[.int .i64 0, .int .i64 0, .int .i64 0, .int .i64 0, .int .i64 0, .int .i64 0, .string ⟨#[]⟩, .int .i64 0] 38)))
          clear HC0
          generalize (w.alloc (.cells #[.int .i64 5, .int .i64 j, .string tok, .string txt, .int .i64 k, .int .i64 lv, .int .i64 n] 70)).alloc (.cells #[.int .i64 0, .int .i64 0, .int .i64 0, .int .i64 0, .int .i64 0, .int .i64 0, .string ⟨#[]⟩, .int .i64 0] 38) = w1 at *
          have x0 := HU.out.hp.cell 0; have x1 := HU.out.hp.cell 1; have x2 := HU.out.hp.cell 2; have x3 := HU.out.hp.cell 3; have x4 := HU.out.hp.cell 4; have x5 := HU.out.hp.cell 5; have x6 := HU.out.hp.cell 6
          simp only [List.getElem?_toArray, List.getElem?_cons_zero, List.getElem?_cons_succ] at x0 x1 x2 x3 x4 x5 x6
          go_upto_region 8 with (fail)
          clear x0 x1 x2 x3 x4 x5 x6
          have c2 : ∀ y : Later w1, y.at.cell? ⟨b, 2, none⟩ = some (.map (some m)) := fun y => y.cell (HC.out.cells.cell 2)
          have x1 : ∀ y : Later w1, y.at.cell? ⟨w.heap.size, 1, none⟩ = some (.int .i64 j) := fun y => y.cell (HU.out.hp.cell 1)
          have lk := fun y : Later w1 => HLK.out _ (HC.out.keep y.below).map
          refine region_later 8 (by kernel_rfl) (by kernel_rfl) ?_
          simp only [List.take_succ_cons, List.take_zero, List.drop_succ_cons, List.drop_zero]
          repeat (go_big_quiet_step (fail))
          refine wpQuiet_nil ?_
          rintro w' ⟨x, rfl⟩
          have HU2 := Lib.hid (HU.out.keep x.below)
          have HC2 := Lib.hid (HC.out.keep x.below)
          clear HC HU c2 x1 lk
          generalize x.at = w3 at *
          at_mapUpdate
          refine wpList_mark _ rfl _ _ _ rfl m L (L ++ [⟨6, j, 0, 0, 0, 0, Pr.e0, 0⟩]) j 5 rfl rfl rfl HC2.out.map HJ.out (show (Lit.int .i64 5).wf = true by decide) HMO.out HX3.out HXM.out (fun i hi => ⟨Cn.mark_still _ _ _ (.inl fun e => hi e.symm), Cn.had_no _ _ _ _ (.inr fun e => hi e.symm)⟩) (by rw [if_pos HH3.out, Cn.opened_app]; rfl) ?_
          intro w4 hm4 hc4
          have HU := Lib.hid (HU2.out.chg (hc4.mono fun y _ hy => by simp at hy; simp [hy]) (low_in HLOW.out))
          have HC := Lib.hid (HC2.out.turned hc4 ⟨6, j, 0, 0, 0, 0, Pr.e0, 0⟩ (show (6 : Int) ≠ 2 by decide) hm4 HGO.out)
          clear HU2 HC2 hm4 hc4
          have x0 := HU.out.hp.cell 0; have x1 := HU.out.hp.cell 1; have x2 := HU.out.hp.cell 2; have x3 := HU.out.hp.cell 3; have x4 := HU.out.hp.cell 4; have x5 := HU.out.hp.cell 5; have x6 := HU.out.hp.cell 6
          simp only [List.getElem?_toArray, List.getElem?_cons_zero, List.getElem?_cons_succ] at x0 x1 x2 x3 x4 x5 x6
          have z0 := HU.out.hr.cell 0; have z1 := HU.out.hr.cell 1; have z2 := HU.out.hr.cell 2; have z3 := HU.out.hr.cell 3; have z4 := HU.out.hr.cell 4; have z5 := HU.out.hr.cell 5; have z6 := HU.out.hr.cell 6; have z7 := HU.out.hr.cell 7
          have g0 := HU.out.hr.free 0; have g1 := HU.out.hr.free 1; have g2 := HU.out.hr.free 2; have g3 := HU.out.hr.free 3; have g4 := HU.out.hr.free 4; have g5 := HU.out.hr.free 5; have g6 := HU.out.hr.free 6; have g7 := HU.out.hr.free 7
          simp only [List.getElem?_toArray, List.getElem?_cons_zero, List.getElem?_cons_succ] at z0 z1 z2 z3 z4 z5 z6 z7
          go_wp2
          ((try simp only [Exit.inBlock, Exit.then]); refine bodyPost_ret (v := (.agg #[.int .i64 6, .int .i64 j, .int .i64 0, .int .i64 0, .int .i64 0, .int .i64 0, .string ⟨#[]⟩, .int .i64 0])) ?_ rfl ⟨?_, ?_⟩; (rw [results_cell1 rfl]; go_simp))
          · rfl
          · refine fin_step HC.out HLOW.out HU.out.hc ?_
            (repeat (first | (with_reducible exact (Below.refl _ _)) | refine Below.setCell ?_ (by first | exact Nat.le_refl _ | exact Nat.le_succ _) _))
        · rw [e] at HLK
          rw [e5, if_pos rfl] at HXM
          clear U3 U4 U5 UX O4 O6 e e5 t3 t4 q3 q4
          go_enter Tryd.func46, Tryd.ntmps46
          go_upto_region 1 with (fail)
          have HU := Lib.hid (U2.new w [b, m] #[.int .i64 5, .int .i64 j, .string tok, .string txt, .int .i64 k, .int .i64 lv, .int .i64 n] #[.int .i64 0, .int .i64 0, .int .i64 0, .int .i64 0, .int .i64 0, .int .i64 0, .string ⟨#[]⟩, .int .i64 0] 70 38)
          have HC := Lib.hid (HC0.out.keep (two_below w (.cells #[.int .i64 5, .int .i64 j, .string tok, .string txt, .int .i64 k, .int .i64 lv, .int .i64 n] 70) (.cells #[.int .i64 0, .int .i64 0, .int .i64 0, .int .i64 0, .int .i64 0, .int .i64 0, .string ⟨#[]⟩, .int .i64 0] 38)))
          clear HC0
          generalize (w.alloc (.cells #[.int .i64 5, .int .i64 j, .string tok, .string txt, .int .i64 k, .int .i64 lv, .int .i64 n] 70)).alloc (.cells #[.int .i64 0, .int .i64 0, .int .i64 0, .int .i64 0, .int .i64 0, .int .i64 0, .string ⟨#[]⟩, .int .i64 0] 38) = w1 at *
          have x0 := HU.out.hp.cell 0; have x1 := HU.out.hp.cell 1; have x2 := HU.out.hp.cell 2; have x3 := HU.out.hp.cell 3; have x4 := HU.out.hp.cell 4; have x5 := HU.out.hp.cell 5; have x6 := HU.out.hp.cell 6
          simp only [List.getElem?_toArray, List.getElem?_cons_zero, List.getElem?_cons_succ] at x0 x1 x2 x3 x4 x5 x6
          go_upto_region 8 with (fail)
          clear x0 x1 x2 x3 x4 x5 x6
          have c2 : ∀ y : Later w1, y.at.cell? ⟨b, 2, none⟩ = some (.map (some m)) := fun y => y.cell (HC.out.cells.cell 2)
          have x1 : ∀ y : Later w1, y.at.cell? ⟨w.heap.size, 1, none⟩ = some (.int .i64 j) := fun y => y.cell (HU.out.hp.cell 1)
          have lk := fun y : Later w1 => HLK.out _ (HC.out.keep y.below).map
          refine region_later 8 (by kernel_rfl) (by kernel_rfl) ?_
          simp only [List.take_succ_cons, List.take_zero, List.drop_succ_cons, List.drop_zero]
          repeat (go_big_quiet_step (fail))
          refine wpQuiet_nil ?_
          rintro w' ⟨x, rfl⟩
          have HU2 := Lib.hid (HU.out.keep x.below)
          have HC2 := Lib.hid (HC.out.keep x.below)
          clear HC HU c2 x1 lk
          generalize x.at = w3 at *
          at_mapUpdate
          refine wpList_mark _ rfl _ _ _ rfl m L (L ++ [⟨6, j, 0, 0, 0, 0, Pr.e0, 0⟩]) j 7 rfl rfl rfl HC2.out.map HJ.out (show (Lit.int .i64 7).wf = true by decide) HMO.out HX3.out HXM.out (fun i hi => ⟨Cn.mark_still _ _ _ (.inl fun e => hi e.symm), Cn.had_no _ _ _ _ (.inr fun e => hi e.symm)⟩) (by rw [if_pos HH3.out, Cn.opened_app]; rfl) ?_
          intro w4 hm4 hc4
          have HU := Lib.hid (HU2.out.chg (hc4.mono fun y _ hy => by simp at hy; simp [hy]) (low_in HLOW.out))
          have HC := Lib.hid (HC2.out.turned hc4 ⟨6, j, 0, 0, 0, 0, Pr.e0, 0⟩ (show (6 : Int) ≠ 2 by decide) hm4 HGO.out)
          clear HU2 HC2 hm4 hc4
          have x0 := HU.out.hp.cell 0; have x1 := HU.out.hp.cell 1; have x2 := HU.out.hp.cell 2; have x3 := HU.out.hp.cell 3; have x4 := HU.out.hp.cell 4; have x5 := HU.out.hp.cell 5; have x6 := HU.out.hp.cell 6
          simp only [List.getElem?_toArray, List.getElem?_cons_zero, List.getElem?_cons_succ] at x0 x1 x2 x3 x4 x5 x6
          have z0 := HU.out.hr.cell 0; have z1 := HU.out.hr.cell 1; have z2 := HU.out.hr.cell 2; have z3 := HU.out.hr.cell 3; have z4 := HU.out.hr.cell 4; have z5 := HU.out.hr.cell 5; have z6 := HU.out.hr.cell 6; have z7 := HU.out.hr.cell 7
          have g0 := HU.out.hr.free 0; have g1 := HU.out.hr.free 1; have g2 := HU.out.hr.free 2; have g3 := HU.out.hr.free 3; have g4 := HU.out.hr.free 4; have g5 := HU.out.hr.free 5; have g6 := HU.out.hr.free 6; have g7 := HU.out.hr.free 7
          simp only [List.getElem?_toArray, List.getElem?_cons_zero, List.getElem?_cons_succ] at z0 z1 z2 z3 z4 z5 z6 z7
          go_wp2
          ((try simp only [Exit.inBlock, Exit.then]); refine bodyPost_ret (v := (.agg #[.int .i64 6, .int .i64 j, .int .i64 0, .int .i64 0, .int .i64 0, .int .i64 0, .string ⟨#[]⟩, .int .i64 0])) ?_ rfl ⟨?_, ?_⟩; (rw [results_cell1 rfl]; go_simp))
          · rfl
          · refine fin_step HC.out HLOW.out HU.out.hc ?_
            (repeat (first | (with_reducible exact (Below.refl _ _)) | refine Below.setCell ?_ (by first | exact Nat.le_refl _ | exact Nat.le_succ _) _))
        · rw [O6] at e6; cases e6
        · rw [O6] at e6; cases e6
      · rw [UX t3 t4 t5]
        have q5 : (t == 5) = false := by simpa using t5
        clear U3 U4 U5 UX O4 O6 hme HGO t3 t4 t5
        go_enter Tryd.func46, Tryd.ntmps46
        go_upto_region 1 with (fail)
        have HU := Lib.hid (U2.new w [b, m] #[.int .i64 t, .int .i64 j, .string tok, .string txt, .int .i64 k, .int .i64 lv, .int .i64 n] #[.int .i64 0, .int .i64 0, .int .i64 0, .int .i64 0, .int .i64 0, .int .i64 0, .string ⟨#[]⟩, .int .i64 0] 70 38)
        have HC := Lib.hid (HC0.out.keep (two_below w (.cells #[.int .i64 t, .int .i64 j, .string tok, .string txt, .int .i64 k, .int .i64 lv, .int .i64 n] 70) (.cells #[.int .i64 0, .int .i64 0, .int .i64 0, .int .i64 0, .int .i64 0, .int .i64 0, .string ⟨#[]⟩, .int .i64 0] 38)))
        clear HC0
        generalize (w.alloc (.cells #[.int .i64 t, .int .i64 j, .string tok, .string txt, .int .i64 k, .int .i64 lv, .int .i64 n] 70)).alloc (.cells #[.int .i64 0, .int .i64 0, .int .i64 0, .int .i64 0, .int .i64 0, .int .i64 0, .string ⟨#[]⟩, .int .i64 0] 38) = w1 at *
        have HC2 := Lib.hid (HC.out.still ⟨7, j, 0, 0, 0, n, Pr.e0, 0⟩ (show (7 : Int) ≠ 2 by decide) (show (7 : Int) ≠ 3 by decide) (show (7 : Int) ≠ 5 by decide) (show (7 : Int) ≠ 6 by decide))
        clear HC
        have HC := HC2
        clear HC2
        have x0 := HU.out.hp.cell 0; have x1 := HU.out.hp.cell 1; have x2 := HU.out.hp.cell 2; have x3 := HU.out.hp.cell 3; have x4 := HU.out.hp.cell 4; have x5 := HU.out.hp.cell 5; have x6 := HU.out.hp.cell 6
        simp only [List.getElem?_toArray, List.getElem?_cons_zero, List.getElem?_cons_succ] at x0 x1 x2 x3 x4 x5 x6
        have z0 := HU.out.hr.cell 0; have z1 := HU.out.hr.cell 1; have z2 := HU.out.hr.cell 2; have z3 := HU.out.hr.cell 3; have z4 := HU.out.hr.cell 4; have z5 := HU.out.hr.cell 5; have z6 := HU.out.hr.cell 6; have z7 := HU.out.hr.cell 7
        have g0 := HU.out.hr.free 0; have g1 := HU.out.hr.free 1; have g2 := HU.out.hr.free 2; have g3 := HU.out.hr.free 3; have g4 := HU.out.hr.free 4; have g5 := HU.out.hr.free 5; have g6 := HU.out.hr.free 6; have g7 := HU.out.hr.free 7
        simp only [List.getElem?_toArray, List.getElem?_cons_zero, List.getElem?_cons_succ] at z0 z1 z2 z3 z4 z5 z6 z7
        go_wp2
        ((try simp only [Exit.inBlock, Exit.then]); refine bodyPost_ret (v := (.agg #[.int .i64 7, .int .i64 j, .int .i64 0, .int .i64 0, .int .i64 0, .int .i64 n, .string ⟨#[]⟩, .int .i64 0])) ?_ rfl ⟨?_, ?_⟩; (rw [results_cell1 rfl]; go_simp))
        · rfl
        · refine fin_step HC.out HLOW.out HU.out.hc ?_
          (repeat (first | (with_reducible exact (Below.refl _ _)) | refine Below.setCell ?_ (by first | exact Nat.le_refl _ | exact Nat.le_succ _) _))
theorem act_1 (L : List Cn.Act) (r : Pr.Rq) (h : r.t = 1) : Cn.act L r = Cn.refuse r.j 8 := by unfold Cn.act; rw [if_pos h]
theorem act_2 (L : List Cn.Act) (r : Pr.Rq) (h : r.t = 2) : Cn.act L r = Cn.opn L r := by unfold Cn.act; rw [if_neg (by omega), if_pos h]
theorem act_7 (L : List Cn.Act) (r : Pr.Rq) (h : r.t = 7) : Cn.act L r = ⟨8, 0, 0, 0, 0, 0, Pr.e0, 0⟩ := by unfold Cn.act; rw [if_neg (by omega), if_neg (by omega), if_pos h]
theorem act_n (L : List Cn.Act) (r : Pr.Rq) (h1 : ¬ r.t = 1) (h2 : ¬ r.t = 2) (h7 : ¬ r.t = 7) (h3 : Cn.had L 3 r.j = false) : Cn.act L r = Cn.refuse r.j 31 := by unfold Cn.act; rw [if_neg h1, if_neg h2, if_neg h7, if_pos h3]
theorem act_o (L : List Cn.Act) (r : Pr.Rq) (h1 : ¬ r.t = 1) (h2 : ¬ r.t = 2) (h7 : ¬ r.t = 7) (h3 : Cn.had L 3 r.j = true) (ho : Cn.over L r = true) : Cn.act L r = Cn.refuse r.j 32 := by unfold Cn.act; rw [if_neg h1, if_neg h2, if_neg h7, if_neg (by rw [h3]; decide), if_pos ho]
theorem act_u (L : List Cn.Act) (r : Pr.Rq) (h1 : ¬ r.t = 1) (h2 : ¬ r.t = 2) (h7 : ¬ r.t = 7) (h3 : Cn.had L 3 r.j = true) (ho : Cn.over L r = false) : Cn.act L r = Cn.use r := by unfold Cn.act; rw [if_neg h1, if_neg h2, if_neg h7, if_neg (by rw [h3]; decide), if_neg (by rw [ho]; decide)]
set_option maxRecDepth 100000 in
set_option maxHeartbeats 1600000 in
theorem act_walk (b m : Nat) (a : Option Addr) (cap : Nat) (l : List Tn.Ten) (L : List Cn.Act) (r : Pr.Rq) (w : World) (h : ConnAt w b m a cap l L) (hj : I64 r.j) (h0 : Cn.tenant L ≠ -1) :
    Calls Tryd.prog 30 #[.pointer (some ⟨b, 0, none⟩), rqV r] w fun e w' => e = .returned (actV (Cn.act L r)) ∧ Stepped w w' b m a cap l L (Cn.act L r) := by
  have HC0 := Lib.hid h
  have HLOW := Lib.hid h.low
  have HLK := Lib.hid (fun (w : World) (h : MapAt w m L) => h.look r.j hj)
  have HOP := Lib.hid (fun (w : World) (h : ConnAt w b m a cap l L) => Calls.act (copen_walk b m a cap l L r w h hj h0))
  have HUS := fun h3 ho => Lib.hid (fun (w : World) (h : ConnAt w b m a cap l L) => Calls.act (use_walk b m a cap l L r w h hj h0 h3 ho))
  have HOV := fun h3 => Lib.hid (fun (w : World) (h : ConnAt w b m a cap l L) => over_walk b m a cap l L r w h hj h3)
  have A1 := act_1 L r; have A2 := act_2 L r; have A7 := act_7 L r; have AN := act_n L r; have AO := act_o L r; have AU := act_u L r
  have hm0 := Cn.mark_no h.good r.j
  have hme := mark4 L r.j
  generalize Cn.act L r = X at *
  generalize Cn.opn L r = Xo at *
  generalize Cn.use r = Xu at *
  generalize Cn.over L r = ov at *
  obtain ⟨t, j, tok, txt, k, lv, n⟩ := r
  simp only [rqV] at A1 A2 A7 AN AO AU HLK hme hm0 HOP HUS HOV
  show Calls Tryd.prog 30 #[.pointer (some ⟨b, 0, none⟩), .agg #[.int .i64 t, .int .i64 j, .string tok, .string txt, .int .i64 k, .int .i64 lv, .int .i64 n]] w _
  clear h h0 hj
  by_cases t1 : t = 1
  · rw [A1 t1]
    subst t1
    clear A1 A2 A7 AN AO AU hm0 hme HOP HUS HOV HLK
    go_enter Tryd.func30, Tryd.ntmps30
    go_upto_region 1 with (fail)
    have HU := Lib.hid (U2.new w [b, m] #[.int .i64 1, .int .i64 j, .string tok, .string txt, .int .i64 k, .int .i64 lv, .int .i64 n] #[.int .i64 0, .int .i64 0, .int .i64 0, .int .i64 0, .int .i64 0, .int .i64 0, .string ⟨#[]⟩, .int .i64 0] 70 38)
    have HC := Lib.hid (HC0.out.keep (two_below w (.cells #[.int .i64 1, .int .i64 j, .string tok, .string txt, .int .i64 k, .int .i64 lv, .int .i64 n] 70) (.cells #[.int .i64 0, .int .i64 0, .int .i64 0, .int .i64 0, .int .i64 0, .int .i64 0, .string ⟨#[]⟩, .int .i64 0] 38)))
    clear HC0
    generalize (w.alloc (.cells #[.int .i64 1, .int .i64 j, .string tok, .string txt, .int .i64 k, .int .i64 lv, .int .i64 n] 70)).alloc (.cells #[.int .i64 0, .int .i64 0, .int .i64 0, .int .i64 0, .int .i64 0, .int .i64 0, .string ⟨#[]⟩, .int .i64 0] 38) = w1 at *
    have x0 := HU.out.hp.cell 0; have x1 := HU.out.hp.cell 1; have x2 := HU.out.hp.cell 2; have x3 := HU.out.hp.cell 3; have x4 := HU.out.hp.cell 4; have x5 := HU.out.hp.cell 5; have x6 := HU.out.hp.cell 6
    simp only [List.getElem?_toArray, List.getElem?_cons_zero, List.getElem?_cons_succ] at x0 x1 x2 x3 x4 x5 x6
    go_wp2_with fail
    clear x0 x1 x2 x3 x4 x5 x6
    with_reducible refine (refuse_wide _ _ _).mono ?_
    rintro r3 w3 ⟨rfl, hb⟩
    have HU3 := Lib.hid (HU.out.keep hb)
    have HC3 := Lib.hid ((HC.out.keep hb).refuse j 8)
    clear HU HC hb
    have HU := HU3
    have HC := HC3
    clear HU3 HC3
    have z0 := HU.out.hr.cell 0; have z1 := HU.out.hr.cell 1; have z2 := HU.out.hr.cell 2; have z3 := HU.out.hr.cell 3; have z4 := HU.out.hr.cell 4; have z5 := HU.out.hr.cell 5; have z6 := HU.out.hr.cell 6; have z7 := HU.out.hr.cell 7
    have g0 := HU.out.hr.free 0; have g1 := HU.out.hr.free 1; have g2 := HU.out.hr.free 2; have g3 := HU.out.hr.free 3; have g4 := HU.out.hr.free 4; have g5 := HU.out.hr.free 5; have g6 := HU.out.hr.free 6; have g7 := HU.out.hr.free 7
    simp only [List.getElem?_toArray, List.getElem?_cons_zero, List.getElem?_cons_succ] at z0 z1 z2 z3 z4 z5 z6 z7
    go_wp2
    ((try simp only [Exit.inBlock, Exit.then]); refine bodyPost_ret (v := (.agg #[.int .i64 1, .int .i64 j, .int .i64 0, .int .i64 0, .int .i64 0, .int .i64 0, .string ⟨#[]⟩, .int .i64 8])) ?_ rfl ⟨?_, ?_⟩; (rw [results_cell1 rfl]; go_simp))
    · rfl
    · refine fin_step HC.out HLOW.out HU.out.hc ?_
      (repeat (first | (with_reducible exact (Below.refl _ _)) | refine Below.setCell ?_ (by first | exact Nat.le_refl _ | exact Nat.le_succ _) _))
  by_cases t2 : t = 2
  · have HSUB := HOP
    rw [← A2 t2] at HSUB
    subst t2
    clear A1 A2 A7 AN AO AU hm0 hme HOP HUS HOV HLK t1
    go_enter Tryd.func30, Tryd.ntmps30
    go_upto_region 1 with (fail)
    have HU := Lib.hid (U2.new w [b, m] #[.int .i64 2, .int .i64 j, .string tok, .string txt, .int .i64 k, .int .i64 lv, .int .i64 n] #[.int .i64 0, .int .i64 0, .int .i64 0, .int .i64 0, .int .i64 0, .int .i64 0, .string ⟨#[]⟩, .int .i64 0] 70 38)
    have HC := Lib.hid (HC0.out.keep (two_below w (.cells #[.int .i64 2, .int .i64 j, .string tok, .string txt, .int .i64 k, .int .i64 lv, .int .i64 n] 70) (.cells #[.int .i64 0, .int .i64 0, .int .i64 0, .int .i64 0, .int .i64 0, .int .i64 0, .string ⟨#[]⟩, .int .i64 0] 38)))
    clear HC0
    generalize (w.alloc (.cells #[.int .i64 2, .int .i64 j, .string tok, .string txt, .int .i64 k, .int .i64 lv, .int .i64 n] 70)).alloc (.cells #[.int .i64 0, .int .i64 0, .int .i64 0, .int .i64 0, .int .i64 0, .int .i64 0, .string ⟨#[]⟩, .int .i64 0] 38) = w1 at *
    have x0 := HU.out.hp.cell 0; have x1 := HU.out.hp.cell 1; have x2 := HU.out.hp.cell 2; have x3 := HU.out.hp.cell 3; have x4 := HU.out.hp.cell 4; have x5 := HU.out.hp.cell 5; have x6 := HU.out.hp.cell 6
    simp only [List.getElem?_toArray, List.getElem?_cons_zero, List.getElem?_cons_succ] at x0 x1 x2 x3 x4 x5 x6
    go_wp2_with fail
    clear x0 x1 x2 x3 x4 x5 x6
    with_reducible refine (HSUB.out _ HC.out).mono ?_
    rintro r3 w3 ⟨rfl, hs⟩
    have HU3 := Lib.hid (HU.out.chg hs.2 (low_in HLOW.out))
    have HC3 := Lib.hid hs.1
    clear HU HC hs
    have HU := HU3
    have HC := HC3
    clear HU3 HC3
    have z0 := HU.out.hr.cell 0; have z1 := HU.out.hr.cell 1; have z2 := HU.out.hr.cell 2; have z3 := HU.out.hr.cell 3; have z4 := HU.out.hr.cell 4; have z5 := HU.out.hr.cell 5; have z6 := HU.out.hr.cell 6; have z7 := HU.out.hr.cell 7
    have g0 := HU.out.hr.free 0; have g1 := HU.out.hr.free 1; have g2 := HU.out.hr.free 2; have g3 := HU.out.hr.free 3; have g4 := HU.out.hr.free 4; have g5 := HU.out.hr.free 5; have g6 := HU.out.hr.free 6; have g7 := HU.out.hr.free 7
    simp only [List.getElem?_toArray, List.getElem?_cons_zero, List.getElem?_cons_succ] at z0 z1 z2 z3 z4 z5 z6 z7
    go_wp2
    ((try simp only [Exit.inBlock, Exit.then]); refine bodyPost_ret (v := (.agg #[.int .i64 X.what, .int .i64 X.job, .int .i64 X.ten, .int .i64 X.kind, .int .i64 X.lev, .int .i64 X.n, .string X.txt, .int .i64 X.err])) ?_ rfl ⟨?_, ?_⟩; (rw [results_cell1 rfl]; go_simp))
    · rfl
    · refine fin_step HC.out HLOW.out HU.out.hc ?_
      (repeat (first | (with_reducible exact (Below.refl _ _)) | refine Below.setCell ?_ (by first | exact Nat.le_refl _ | exact Nat.le_succ _) _))
  by_cases t7 : t = 7
  · rw [A7 t7]
    subst t7
    clear A1 A2 A7 AN AO AU hm0 hme HOP HUS HOV HLK t1 t2
    go_enter Tryd.func30, Tryd.ntmps30
    go_upto_region 1 with (fail)
    have HU := Lib.hid (U2.new w [b, m] #[.int .i64 7, .int .i64 j, .string tok, .string txt, .int .i64 k, .int .i64 lv, .int .i64 n] #[.int .i64 0, .int .i64 0, .int .i64 0, .int .i64 0, .int .i64 0, .int .i64 0, .string ⟨#[]⟩, .int .i64 0] 70 38)
    have HC := Lib.hid (HC0.out.keep (two_below w (.cells #[.int .i64 7, .int .i64 j, .string tok, .string txt, .int .i64 k, .int .i64 lv, .int .i64 n] 70) (.cells #[.int .i64 0, .int .i64 0, .int .i64 0, .int .i64 0, .int .i64 0, .int .i64 0, .string ⟨#[]⟩, .int .i64 0] 38)))
    clear HC0
    generalize (w.alloc (.cells #[.int .i64 7, .int .i64 j, .string tok, .string txt, .int .i64 k, .int .i64 lv, .int .i64 n] 70)).alloc (.cells #[.int .i64 0, .int .i64 0, .int .i64 0, .int .i64 0, .int .i64 0, .int .i64 0, .string ⟨#[]⟩, .int .i64 0] 38) = w1 at *
    have HC2 := Lib.hid (HC.out.still ⟨8, 0, 0, 0, 0, 0, Pr.e0, 0⟩ (show (8 : Int) ≠ 2 by decide) (show (8 : Int) ≠ 3 by decide) (show (8 : Int) ≠ 5 by decide) (show (8 : Int) ≠ 6 by decide))
    clear HC
    have HC := HC2
    clear HC2
    have x0 := HU.out.hp.cell 0; have x1 := HU.out.hp.cell 1; have x2 := HU.out.hp.cell 2; have x3 := HU.out.hp.cell 3; have x4 := HU.out.hp.cell 4; have x5 := HU.out.hp.cell 5; have x6 := HU.out.hp.cell 6
    simp only [List.getElem?_toArray, List.getElem?_cons_zero, List.getElem?_cons_succ] at x0 x1 x2 x3 x4 x5 x6
    have z0 := HU.out.hr.cell 0; have z1 := HU.out.hr.cell 1; have z2 := HU.out.hr.cell 2; have z3 := HU.out.hr.cell 3; have z4 := HU.out.hr.cell 4; have z5 := HU.out.hr.cell 5; have z6 := HU.out.hr.cell 6; have z7 := HU.out.hr.cell 7
    have g0 := HU.out.hr.free 0; have g1 := HU.out.hr.free 1; have g2 := HU.out.hr.free 2; have g3 := HU.out.hr.free 3; have g4 := HU.out.hr.free 4; have g5 := HU.out.hr.free 5; have g6 := HU.out.hr.free 6; have g7 := HU.out.hr.free 7
    simp only [List.getElem?_toArray, List.getElem?_cons_zero, List.getElem?_cons_succ] at z0 z1 z2 z3 z4 z5 z6 z7
    go_wp2
    ((try simp only [Exit.inBlock, Exit.then]); refine bodyPost_ret (v := (.agg #[.int .i64 8, .int .i64 0, .int .i64 0, .int .i64 0, .int .i64 0, .int .i64 0, .string ⟨#[]⟩, .int .i64 0])) ?_ rfl ⟨?_, ?_⟩; (rw [results_cell1 rfl]; go_simp))
    · rfl
    · refine fin_step HC.out HLOW.out HU.out.hc ?_
      (repeat (first | (with_reducible exact (Below.refl _ _)) | refine Below.setCell ?_ (by first | exact Nat.le_refl _ | exact Nat.le_succ _) _))
  have q1 : (t == 1) = false := by simpa using t1
  have q2 : (t == 2) = false := by simpa using t2
  have q7 : (t == 7) = false := by simpa using t7
  cases h3 : Cn.had L 3 j with
  | false =>
    rw [AN t1 t2 t7 h3]
    rw [hm0 h3] at HLK
    clear A1 A2 A7 AN AO AU hm0 hme HOP HUS HOV h3 t1 t2 t7
    go_enter Tryd.func30, Tryd.ntmps30
    go_upto_region 1 with (fail)
    have HU := Lib.hid (U2.new w [b, m] #[.int .i64 t, .int .i64 j, .string tok, .string txt, .int .i64 k, .int .i64 lv, .int .i64 n] #[.int .i64 0, .int .i64 0, .int .i64 0, .int .i64 0, .int .i64 0, .int .i64 0, .string ⟨#[]⟩, .int .i64 0] 70 38)
    have HC := Lib.hid (HC0.out.keep (two_below w (.cells #[.int .i64 t, .int .i64 j, .string tok, .string txt, .int .i64 k, .int .i64 lv, .int .i64 n] 70) (.cells #[.int .i64 0, .int .i64 0, .int .i64 0, .int .i64 0, .int .i64 0, .int .i64 0, .string ⟨#[]⟩, .int .i64 0] 38)))
    clear HC0
    generalize (w.alloc (.cells #[.int .i64 t, .int .i64 j, .string tok, .string txt, .int .i64 k, .int .i64 lv, .int .i64 n] 70)).alloc (.cells #[.int .i64 0, .int .i64 0, .int .i64 0, .int .i64 0, .int .i64 0, .int .i64 0, .string ⟨#[]⟩, .int .i64 0] 38) = w1 at *
    have x0 := HU.out.hp.cell 0; have x1 := HU.out.hp.cell 1; have x2 := HU.out.hp.cell 2; have x3 := HU.out.hp.cell 3; have x4 := HU.out.hp.cell 4; have x5 := HU.out.hp.cell 5; have x6 := HU.out.hp.cell 6
    simp only [List.getElem?_toArray, List.getElem?_cons_zero, List.getElem?_cons_succ] at x0 x1 x2 x3 x4 x5 x6
    go_upto_region 7 with (fail)
    clear x0 x1 x2 x3 x4 x5 x6
    have c2 : ∀ y : Later w1, y.at.cell? ⟨b, 2, none⟩ = some (.map (some m)) := fun y => y.cell (HC.out.cells.cell 2)
    have x1 : ∀ y : Later w1, y.at.cell? ⟨w.heap.size, 1, none⟩ = some (.int .i64 j) := fun y => y.cell (HU.out.hp.cell 1)
    have lk := fun y : Later w1 => HLK.out _ (HC.out.keep y.below).map
    refine region_later 9 (by kernel_rfl) (by kernel_rfl) ?_
    simp only [List.take_succ_cons, List.take_zero, List.drop_succ_cons, List.drop_zero]
    repeat (go_big_quiet_step (fail))
    refine wpQuiet_nil ?_
    rintro w' ⟨x, rfl⟩
    have HU2 := Lib.hid (HU.out.keep x.below)
    have HC2 := Lib.hid (HC.out.keep x.below)
    clear HC HU c2 x1 lk
    generalize x.at = w3 at *
    have HU := HU2
    have HC := HC2
    clear HU2 HC2 HLK
    have x0 := HU.out.hp.cell 0; have x1 := HU.out.hp.cell 1; have x2 := HU.out.hp.cell 2; have x3 := HU.out.hp.cell 3; have x4 := HU.out.hp.cell 4; have x5 := HU.out.hp.cell 5; have x6 := HU.out.hp.cell 6
    simp only [List.getElem?_toArray, List.getElem?_cons_zero, List.getElem?_cons_succ] at x0 x1 x2 x3 x4 x5 x6
    go_wp2_with fail
    clear x0 x1 x2 x3 x4 x5 x6
    with_reducible refine (refuse_wide _ _ _).mono ?_
    rintro r3 w3 ⟨rfl, hb⟩
    have HU3 := Lib.hid (HU.out.keep hb)
    have HC3 := Lib.hid ((HC.out.keep hb).refuse j 31)
    clear HU HC hb
    have HU := HU3
    have HC := HC3
    clear HU3 HC3
    have z0 := HU.out.hr.cell 0; have z1 := HU.out.hr.cell 1; have z2 := HU.out.hr.cell 2; have z3 := HU.out.hr.cell 3; have z4 := HU.out.hr.cell 4; have z5 := HU.out.hr.cell 5; have z6 := HU.out.hr.cell 6; have z7 := HU.out.hr.cell 7
    have g0 := HU.out.hr.free 0; have g1 := HU.out.hr.free 1; have g2 := HU.out.hr.free 2; have g3 := HU.out.hr.free 3; have g4 := HU.out.hr.free 4; have g5 := HU.out.hr.free 5; have g6 := HU.out.hr.free 6; have g7 := HU.out.hr.free 7
    simp only [List.getElem?_toArray, List.getElem?_cons_zero, List.getElem?_cons_succ] at z0 z1 z2 z3 z4 z5 z6 z7
    go_wp2
    ((try simp only [Exit.inBlock, Exit.then]); refine bodyPost_ret (v := (.agg #[.int .i64 1, .int .i64 j, .int .i64 0, .int .i64 0, .int .i64 0, .int .i64 0, .string ⟨#[]⟩, .int .i64 31])) ?_ rfl ⟨?_, ?_⟩; (rw [results_cell1 rfl]; go_simp))
    · rfl
    · refine fin_step HC.out HLOW.out HU.out.hc ?_
      (repeat (first | (with_reducible exact (Below.refl _ _)) | refine Below.setCell ?_ (by first | exact Nat.le_refl _ | exact Nat.le_succ _) _))
  | true =>
    have hv : (Cn.mark L j == 0) = false := by
      rcases hme h3 with ⟨e, _⟩ | ⟨e, _⟩ | ⟨e, _⟩ | ⟨e, _⟩ <;> rw [e] <;> rfl
    have HOV2 := HOV h3
    cases ov with
    | true =>
      rw [AO t1 t2 t7 h3 rfl]
      clear A1 A2 A7 AN AO AU hm0 hme HOP HUS HOV h3 t1 t2 t7
      generalize Cn.mark L j = v at *
      go_enter Tryd.func30, Tryd.ntmps30
      go_upto_region 1 with (fail)
      have HU := Lib.hid (U2.new w [b, m] #[.int .i64 t, .int .i64 j, .string tok, .string txt, .int .i64 k, .int .i64 lv, .int .i64 n] #[.int .i64 0, .int .i64 0, .int .i64 0, .int .i64 0, .int .i64 0, .int .i64 0, .string ⟨#[]⟩, .int .i64 0] 70 38)
      have HC := Lib.hid (HC0.out.keep (two_below w (.cells #[.int .i64 t, .int .i64 j, .string tok, .string txt, .int .i64 k, .int .i64 lv, .int .i64 n] 70) (.cells #[.int .i64 0, .int .i64 0, .int .i64 0, .int .i64 0, .int .i64 0, .int .i64 0, .string ⟨#[]⟩, .int .i64 0] 38)))
      clear HC0
      generalize (w.alloc (.cells #[.int .i64 t, .int .i64 j, .string tok, .string txt, .int .i64 k, .int .i64 lv, .int .i64 n] 70)).alloc (.cells #[.int .i64 0, .int .i64 0, .int .i64 0, .int .i64 0, .int .i64 0, .int .i64 0, .string ⟨#[]⟩, .int .i64 0] 38) = w1 at *
      have x0 := HU.out.hp.cell 0; have x1 := HU.out.hp.cell 1; have x2 := HU.out.hp.cell 2; have x3 := HU.out.hp.cell 3; have x4 := HU.out.hp.cell 4; have x5 := HU.out.hp.cell 5; have x6 := HU.out.hp.cell 6
      simp only [List.getElem?_toArray, List.getElem?_cons_zero, List.getElem?_cons_succ] at x0 x1 x2 x3 x4 x5 x6
      go_upto_region 7 with (fail)
      clear x0 x1 x2 x3 x4 x5 x6
      have c2 : ∀ y : Later w1, y.at.cell? ⟨b, 2, none⟩ = some (.map (some m)) := fun y => y.cell (HC.out.cells.cell 2)
      have x1 : ∀ y : Later w1, y.at.cell? ⟨w.heap.size, 1, none⟩ = some (.int .i64 j) := fun y => y.cell (HU.out.hp.cell 1)
      have lk := fun y : Later w1 => HLK.out _ (HC.out.keep y.below).map
      refine region_later 9 (by kernel_rfl) (by kernel_rfl) ?_
      simp only [List.take_succ_cons, List.take_zero, List.drop_succ_cons, List.drop_zero]
      repeat (go_big_quiet_step (fail))
      refine wpQuiet_nil ?_
      rintro w' ⟨x, rfl⟩
      have HU2 := Lib.hid (HU.out.keep x.below)
      have HC2 := Lib.hid (HC.out.keep x.below)
      clear HC HU c2 x1 lk
      generalize x.at = w3 at *
      have HU := HU2
      have HC := HC2
      clear HU2 HC2 HLK
      have x0 := HU.out.hp.cell 0; have x1 := HU.out.hp.cell 1; have x2 := HU.out.hp.cell 2; have x3 := HU.out.hp.cell 3; have x4 := HU.out.hp.cell 4; have x5 := HU.out.hp.cell 5; have x6 := HU.out.hp.cell 6
      simp only [List.getElem?_toArray, List.getElem?_cons_zero, List.getElem?_cons_succ] at x0 x1 x2 x3 x4 x5 x6
      go_wp2_with fail
      with_reducible refine (HOV2.out _ HC.out).mono ?_
      rintro r5 w5 ⟨rfl, hb⟩
      have HU2 := Lib.hid (HU.out.keep hb)
      have HC2 := Lib.hid (HC.out.keep hb)
      clear HU HC hb
      clear x0 x1 x2 x3 x4 x5 x6
      have HU := HU2
      have HC := HC2
      clear HU2 HC2
      have x0 := HU.out.hp.cell 0; have x1 := HU.out.hp.cell 1; have x2 := HU.out.hp.cell 2; have x3 := HU.out.hp.cell 3; have x4 := HU.out.hp.cell 4; have x5 := HU.out.hp.cell 5; have x6 := HU.out.hp.cell 6
      simp only [List.getElem?_toArray, List.getElem?_cons_zero, List.getElem?_cons_succ] at x0 x1 x2 x3 x4 x5 x6
      go_wp2_with fail
      clear x0 x1 x2 x3 x4 x5 x6
      with_reducible refine (refuse_wide _ _ _).mono ?_
      rintro r3 w3 ⟨rfl, hb⟩
      have HU3 := Lib.hid (HU.out.keep hb)
      have HC3 := Lib.hid ((HC.out.keep hb).refuse j 32)
      clear HU HC hb
      have HU := HU3
      have HC := HC3
      clear HU3 HC3
      have z0 := HU.out.hr.cell 0; have z1 := HU.out.hr.cell 1; have z2 := HU.out.hr.cell 2; have z3 := HU.out.hr.cell 3; have z4 := HU.out.hr.cell 4; have z5 := HU.out.hr.cell 5; have z6 := HU.out.hr.cell 6; have z7 := HU.out.hr.cell 7
      have g0 := HU.out.hr.free 0; have g1 := HU.out.hr.free 1; have g2 := HU.out.hr.free 2; have g3 := HU.out.hr.free 3; have g4 := HU.out.hr.free 4; have g5 := HU.out.hr.free 5; have g6 := HU.out.hr.free 6; have g7 := HU.out.hr.free 7
      simp only [List.getElem?_toArray, List.getElem?_cons_zero, List.getElem?_cons_succ] at z0 z1 z2 z3 z4 z5 z6 z7
      go_wp2
      ((try simp only [Exit.inBlock, Exit.then]); refine bodyPost_ret (v := (.agg #[.int .i64 1, .int .i64 j, .int .i64 0, .int .i64 0, .int .i64 0, .int .i64 0, .string ⟨#[]⟩, .int .i64 32])) ?_ rfl ⟨?_, ?_⟩; (rw [results_cell1 rfl]; go_simp))
      · rfl
      · refine fin_step HC.out HLOW.out HU.out.hc ?_
        (repeat (first | (with_reducible exact (Below.refl _ _)) | refine Below.setCell ?_ (by first | exact Nat.le_refl _ | exact Nat.le_succ _) _))
    | false =>
      have HSUB := HUS h3 rfl
      rw [← AU t1 t2 t7 h3 rfl] at HSUB
      clear A1 A2 A7 AN AO AU hm0 hme HOP HUS HOV h3 t1 t2 t7
      generalize Cn.mark L j = v at *
      go_enter Tryd.func30, Tryd.ntmps30
      go_upto_region 1 with (fail)
      have HU := Lib.hid (U2.new w [b, m] #[.int .i64 t, .int .i64 j, .string tok, .string txt, .int .i64 k, .int .i64 lv, .int .i64 n] #[.int .i64 0, .int .i64 0, .int .i64 0, .int .i64 0, .int .i64 0, .int .i64 0, .string ⟨#[]⟩, .int .i64 0] 70 38)
      have HC := Lib.hid (HC0.out.keep (two_below w (.cells #[.int .i64 t, .int .i64 j, .string tok, .string txt, .int .i64 k, .int .i64 lv, .int .i64 n] 70) (.cells #[.int .i64 0, .int .i64 0, .int .i64 0, .int .i64 0, .int .i64 0, .int .i64 0, .string ⟨#[]⟩, .int .i64 0] 38)))
      clear HC0
      generalize (w.alloc (.cells #[.int .i64 t, .int .i64 j, .string tok, .string txt, .int .i64 k, .int .i64 lv, .int .i64 n] 70)).alloc (.cells #[.int .i64 0, .int .i64 0, .int .i64 0, .int .i64 0, .int .i64 0, .int .i64 0, .string ⟨#[]⟩, .int .i64 0] 38) = w1 at *
      have x0 := HU.out.hp.cell 0; have x1 := HU.out.hp.cell 1; have x2 := HU.out.hp.cell 2; have x3 := HU.out.hp.cell 3; have x4 := HU.out.hp.cell 4; have x5 := HU.out.hp.cell 5; have x6 := HU.out.hp.cell 6
      simp only [List.getElem?_toArray, List.getElem?_cons_zero, List.getElem?_cons_succ] at x0 x1 x2 x3 x4 x5 x6
      go_upto_region 7 with (fail)
      clear x0 x1 x2 x3 x4 x5 x6
      have c2 : ∀ y : Later w1, y.at.cell? ⟨b, 2, none⟩ = some (.map (some m)) := fun y => y.cell (HC.out.cells.cell 2)
      have x1 : ∀ y : Later w1, y.at.cell? ⟨w.heap.size, 1, none⟩ = some (.int .i64 j) := fun y => y.cell (HU.out.hp.cell 1)
      have lk := fun y : Later w1 => HLK.out _ (HC.out.keep y.below).map
      refine region_later 9 (by kernel_rfl) (by kernel_rfl) ?_
      simp only [List.take_succ_cons, List.take_zero, List.drop_succ_cons, List.drop_zero]
      repeat (go_big_quiet_step (fail))
      refine wpQuiet_nil ?_
      rintro w' ⟨x, rfl⟩
      have HU2 := Lib.hid (HU.out.keep x.below)
      have HC2 := Lib.hid (HC.out.keep x.below)
      clear HC HU c2 x1 lk
      generalize x.at = w3 at *
      have HU := HU2
      have HC := HC2
      clear HU2 HC2 HLK
      have x0 := HU.out.hp.cell 0; have x1 := HU.out.hp.cell 1; have x2 := HU.out.hp.cell 2; have x3 := HU.out.hp.cell 3; have x4 := HU.out.hp.cell 4; have x5 := HU.out.hp.cell 5; have x6 := HU.out.hp.cell 6
      simp only [List.getElem?_toArray, List.getElem?_cons_zero, List.getElem?_cons_succ] at x0 x1 x2 x3 x4 x5 x6
      go_wp2_with fail
      with_reducible refine (HOV2.out _ HC.out).mono ?_
      rintro r5 w5 ⟨rfl, hb⟩
      have HU2 := Lib.hid (HU.out.keep hb)
      have HC2 := Lib.hid (HC.out.keep hb)
      clear HU HC hb
      clear x0 x1 x2 x3 x4 x5 x6
      have HU := HU2
      have HC := HC2
      clear HU2 HC2
      have x0 := HU.out.hp.cell 0; have x1 := HU.out.hp.cell 1; have x2 := HU.out.hp.cell 2; have x3 := HU.out.hp.cell 3; have x4 := HU.out.hp.cell 4; have x5 := HU.out.hp.cell 5; have x6 := HU.out.hp.cell 6
      simp only [List.getElem?_toArray, List.getElem?_cons_zero, List.getElem?_cons_succ] at x0 x1 x2 x3 x4 x5 x6
      go_wp2_with fail
      clear x0 x1 x2 x3 x4 x5 x6
      with_reducible refine (HSUB.out _ HC.out).mono ?_
      rintro r3 w3 ⟨rfl, hs⟩
      have HU3 := Lib.hid (HU.out.chg hs.2 (low_in HLOW.out))
      have HC3 := Lib.hid hs.1
      clear HU HC hs
      have HU := HU3
      have HC := HC3
      clear HU3 HC3
      have z0 := HU.out.hr.cell 0; have z1 := HU.out.hr.cell 1; have z2 := HU.out.hr.cell 2; have z3 := HU.out.hr.cell 3; have z4 := HU.out.hr.cell 4; have z5 := HU.out.hr.cell 5; have z6 := HU.out.hr.cell 6; have z7 := HU.out.hr.cell 7
      have g0 := HU.out.hr.free 0; have g1 := HU.out.hr.free 1; have g2 := HU.out.hr.free 2; have g3 := HU.out.hr.free 3; have g4 := HU.out.hr.free 4; have g5 := HU.out.hr.free 5; have g6 := HU.out.hr.free 6; have g7 := HU.out.hr.free 7
      simp only [List.getElem?_toArray, List.getElem?_cons_zero, List.getElem?_cons_succ] at z0 z1 z2 z3 z4 z5 z6 z7
      go_wp2
      ((try simp only [Exit.inBlock, Exit.then]); refine bodyPost_ret (v := (.agg #[.int .i64 X.what, .int .i64 X.job, .int .i64 X.ten, .int .i64 X.kind, .int .i64 X.lev, .int .i64 X.n, .string X.txt, .int .i64 X.err])) ?_ rfl ⟨?_, ?_⟩; (rw [results_cell1 rfl]; go_simp))
      · rfl
      · refine fin_step HC.out HLOW.out HU.out.hc ?_
        (repeat (first | (with_reducible exact (Below.refl _ _)) | refine Below.setCell ?_ (by first | exact Nat.le_refl _ | exact Nat.le_succ _) _))
end Go.Proofs.YtajalllecoclcaaDoor
