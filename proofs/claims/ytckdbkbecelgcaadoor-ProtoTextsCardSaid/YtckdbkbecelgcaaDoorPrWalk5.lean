/- Answers: Write. -/
import Derived.Test.YtckdbkbecelgcaaDoorPrWalk4
namespace Go.Proofs.YtckdbkbecelgcaaDoor
open Go.RowKit
set_option linter.unusedVariables false
set_option linter.unusedSimpArgs false

set_option maxRecDepth 100000 in
set_option maxHeartbeats 2000000 in
theorem write_walk (t j : Int) (txt : ByteArray) (r : Int) (w : World) (hs : txt.size ≤ 1000000) : Calls Tryd.prog 17 #[.agg #[.int .i64 t, .int .i64 j, .string txt, .int .i64 r]] w fun e w' => e = .returned (askF (Pr.wr ⟨t, j, txt, r⟩)) ∧ Below w.heap.size w w' := by
  have hwr : Pr.wr ⟨t, j, txt, r⟩ = if Pr.hear ⟨t, j, Pr.wd ⟨t, j, txt, r⟩⟩ = some ⟨t, j, txt, r⟩ then some ⟨t, j, Pr.wd ⟨t, j, txt, r⟩⟩ else none := rfl
  generalize Pr.wr ⟨t, j, txt, r⟩ = A at *
  by_cases hr : 1 ≤ r ∧ r ≤ 255
  · have e1 : decide (1 ≤ r) = true := by simpa using hr.1
    have e2 : decide (r ≤ 255) = true := by simpa using hr.2
    have hd : Pr.wd ⟨t, j, txt, r⟩ = txt ++ Fr.bs [UInt8.ofNat r.toNat] := by unfold Pr.wd; rw [if_pos hr]
    rw [hd] at hwr
    have hb : r = ((UInt8.ofNat r.toNat).toNat : Int) := by rw [UInt8.toNat_ofNat']; omega
    have HCV := Lib.hid (fun w => one_cv w _ _ hb)
    have hz := bs_size [UInt8.ofNat r.toNat]
    generalize Fr.bs [UInt8.ofNat r.toNat] = DG at *
    have hz1 : DG.size = 1 := hz
    have hcat : txt.size + DG.size ≤ 10000000 := by omega
    obtain ⟨D, hD⟩ : ∃ D, D = txt ++ DG := ⟨_, rfl⟩
    rw [← hD] at hwr
    have HD := Lib.hid hD
    have HA3 := Lib.hid (fun w => phear_walk t j D w)
    have HASK := Lib.hid hwr
    obtain ⟨g1, g2⟩ := hr
    clear hwr hd hb hz hD
    go_enter Tryd.func17, Tryd.ntmps17
    go_upto_region 2 with (fail)
    have H2 := Lib.hid (T3.new w #[.int .i64 t, .int .i64 j, .string txt, .int .i64 r] #[.int .i64 0, .int .i64 0, .string ⟨#[]⟩] #[.int .i64 t, .int .i64 j, .string txt] 42 23 23)
    generalize ((w.alloc (.cells #[.int .i64 t, .int .i64 j, .string txt, .int .i64 r] 42)).alloc (.cells #[.int .i64 0, .int .i64 0, .string ⟨#[]⟩] 23)).alloc (.cells #[.int .i64 t, .int .i64 j, .string txt] 23) = w2 at *
    have p3 := H2.out.hp.cell 3
    have z0 := H2.out.ha.cell 0; have z1 := H2.out.ha.cell 1; have z2 := H2.out.ha.cell 2
    have y2 := H2.out.ha.free 2
    simp only [List.getElem?_toArray, List.getElem?_cons_zero, List.getElem?_cons_succ] at p3 z0 z1 z2
    have hcv := HCV.out w2
    have hlt := H2.out.ha.lt
    go_upto_region 4 with (fail)
    rw [← HD.out]
    have H3 := Lib.hid ((H2.out.seta 2 (.string D)).keep ((Below.refl _ _).alloc (Nat.le_refl _) (.cells #[.int .u8 r] 5)))
    have HF3 := Lib.hid (show Has ((w2.setCell ⟨w.heap.size + 1 + 1, 2, none⟩ (.string D)).alloc (.cells #[.int .u8 r] 5)) (w.heap.size + 1 + 1) #[.int .i64 t, .int .i64 j, .string D] 23 from H3.out.ha)
    have HP3 := Lib.hid H3.out.hp
    have HR3 := Lib.hid H3.out.hr
    have HB3 := Lib.hid H3.out.hb
    clear p3 z0 z1 z2 y2 H2 H3 hlt hcv HCV hcat HD
    generalize (w2.setCell ⟨w.heap.size + 1 + 1, 2, none⟩ (.string D)).alloc (.cells #[.int .u8 r] 5) = w3 at *
    have z0 := HF3.out.cell 0; have z1 := HF3.out.cell 1; have z2 := HF3.out.cell 2
    simp only [List.getElem?_toArray, List.getElem?_cons_zero, List.getElem?_cons_succ] at z0 z1 z2
    have HAX := Lib.hid (HA3.out w3)
    clear HA3
    cases hrd : Pr.hear ⟨t, j, D⟩ with
    | none =>
      rw [hrd] at HAX HASK
      simp only [hearV] at HAX
      have HA := Lib.hid (show A = none by rw [HASK.out, if_neg (by simp)])
      clear hrd HASK
      go_wp2_with fail
      (with_reducible refine (HAX.out).mono ?_)
      rintro e w4 ⟨rfl, hb⟩
      have HF4 := Lib.hid (HF3.out.below hb HF3.out.lt)
      have HP4 := Lib.hid (HP3.out.below hb HP3.out.lt)
      have HR4 := Lib.hid (HR3.out.below hb HR3.out.lt)
      have HB4 := Lib.hid (HB3.out.trans (hb.mono HB3.out.size))
      clear hb z0 z1 z2 HF3 HP3 HR3 HB3 HAX
      go_upto_region 5 with (fail)
      have HF5 := Lib.hid (HF4.out.alloc (.cells #[.int .i64 0, .int .i64 0, .string ⟨#[]⟩, .int .i64 0] 42))
      have HP5 := Lib.hid (HP4.out.alloc (.cells #[.int .i64 0, .int .i64 0, .string ⟨#[]⟩, .int .i64 0] 42))
      have HR5 := Lib.hid (HR4.out.alloc (.cells #[.int .i64 0, .int .i64 0, .string ⟨#[]⟩, .int .i64 0] 42))
      have HB5 := Lib.hid (HB4.out.alloc HB4.out.size (.cells #[.int .i64 0, .int .i64 0, .string ⟨#[]⟩, .int .i64 0] 42))
      have HX5 := Lib.hid (Has.new w4 #[.int .i64 0, .int .i64 0, .string ⟨#[]⟩, .int .i64 0] 42)
      clear HF4 HP4 HR4 HB4
      generalize w4.heap.size = u at *
      generalize w4.alloc (.cells #[.int .i64 0, .int .i64 0, .string ⟨#[]⟩, .int .i64 0] 42) = w5 at *
      have z0 := HF5.out.cell 0; have z1 := HF5.out.cell 1; have z2 := HF5.out.cell 2
      have p0 := HP5.out.cell 0; have p1 := HP5.out.cell 1; have p2 := HP5.out.cell 2; have p3 := HP5.out.cell 3
      have x0 := HX5.out.cell 0; have x1 := HX5.out.cell 1; have x2 := HX5.out.cell 2; have x3 := HX5.out.cell 3
      have r0 := HR5.out.cell 0; have r1' := HR5.out.cell 1; have r2 := HR5.out.cell 2
      have f0 := HR5.out.free 0; have f1 := HR5.out.free 1; have f2 := HR5.out.free 2
      simp only [List.getElem?_toArray, List.getElem?_cons_zero, List.getElem?_cons_succ] at z0 z1 z2 p0 p1 p2 p3 x0 x1 x2 x3 r0 r1' r2
      clear HF5 HP5 HR5 HX5
      go_wp2
      ((try simp only [Exit.inBlock, Exit.then]); refine bodyPost_ret (v := (.tuple #[.agg #[.int .i64 0, .int .i64 0, .string ⟨#[]⟩], .int .i64 35])) ?_ rfl ⟨?_, ?_⟩; (rw [results_cell_tmp1 rfl]; go_simp))
      · rw [HA.out]; rfl
      · repeat (first | (with_reducible exact HB5.out) | refine below_set ?_ _ _ (by omega) _)
    | some x =>
      rw [hrd] at HAX HASK
      by_cases hx : x = ⟨t, j, txt, r⟩
      · subst hx
        simp only [hearV] at HAX
        have HA := Lib.hid (show A = some ⟨t, j, D⟩ by rw [HASK.out, if_pos rfl])
        clear hrd HASK
        go_wp2_with fail
        (with_reducible refine (HAX.out).mono ?_)
        rintro e w4 ⟨rfl, hb⟩
        have HF4 := Lib.hid (HF3.out.below hb HF3.out.lt)
        have HP4 := Lib.hid (HP3.out.below hb HP3.out.lt)
        have HR4 := Lib.hid (HR3.out.below hb HR3.out.lt)
        have HB4 := Lib.hid (HB3.out.trans (hb.mono HB3.out.size))
        clear hb z0 z1 z2 HF3 HP3 HR3 HB3 HAX
        go_upto_region 5 with (fail)
        have HF5 := Lib.hid (HF4.out.alloc (.cells #[.int .i64 t, .int .i64 j, .string txt, .int .i64 r] 42))
        have HP5 := Lib.hid (HP4.out.alloc (.cells #[.int .i64 t, .int .i64 j, .string txt, .int .i64 r] 42))
        have HR5 := Lib.hid (HR4.out.alloc (.cells #[.int .i64 t, .int .i64 j, .string txt, .int .i64 r] 42))
        have HB5 := Lib.hid (HB4.out.alloc HB4.out.size (.cells #[.int .i64 t, .int .i64 j, .string txt, .int .i64 r] 42))
        have HX5 := Lib.hid (Has.new w4 #[.int .i64 t, .int .i64 j, .string txt, .int .i64 r] 42)
        clear HF4 HP4 HR4 HB4
        generalize w4.heap.size = u at *
        generalize w4.alloc (.cells #[.int .i64 t, .int .i64 j, .string txt, .int .i64 r] 42) = w5 at *
        have z0 := HF5.out.cell 0; have z1 := HF5.out.cell 1; have z2 := HF5.out.cell 2
        have p0 := HP5.out.cell 0; have p1 := HP5.out.cell 1; have p2 := HP5.out.cell 2; have p3 := HP5.out.cell 3
        have x0 := HX5.out.cell 0; have x1 := HX5.out.cell 1; have x2 := HX5.out.cell 2; have x3 := HX5.out.cell 3
        have r0 := HR5.out.cell 0; have r1' := HR5.out.cell 1; have r2 := HR5.out.cell 2
        have f0 := HR5.out.free 0; have f1 := HR5.out.free 1; have f2 := HR5.out.free 2
        simp only [List.getElem?_toArray, List.getElem?_cons_zero, List.getElem?_cons_succ] at z0 z1 z2 p0 p1 p2 p3 x0 x1 x2 x3 r0 r1' r2
        clear HF5 HP5 HR5 HX5
        go_wp2
        ((try simp only [Exit.inBlock, Exit.then]); refine bodyPost_ret (v := (.tuple #[.agg #[.int .i64 t, .int .i64 j, .string D], .int .i64 0])) ?_ rfl ⟨?_, ?_⟩; (rw [results_cell_tmp1 rfl]; go_simp))
        · rw [HA.out]; rfl
        · repeat (first | (with_reducible exact HB5.out) | refine below_set ?_ _ _ (by omega) _)
      · have hne := an_neq x ⟨t, j, txt, r⟩ hx
        have HA := Lib.hid (show A = none by rw [HASK.out, if_neg (fun e => hx (Option.some.inj e))])
        obtain ⟨b1, b2, b3, b4⟩ := x
        simp only [hearV] at HAX
        simp only [anV] at hne
        clear hrd HASK hx
        go_wp2_with fail
        (with_reducible refine (HAX.out).mono ?_)
        rintro e w4 ⟨rfl, hb⟩
        have HF4 := Lib.hid (HF3.out.below hb HF3.out.lt)
        have HP4 := Lib.hid (HP3.out.below hb HP3.out.lt)
        have HR4 := Lib.hid (HR3.out.below hb HR3.out.lt)
        have HB4 := Lib.hid (HB3.out.trans (hb.mono HB3.out.size))
        clear hb z0 z1 z2 HF3 HP3 HR3 HB3 HAX
        go_upto_region 5 with (fail)
        have HF5 := Lib.hid (HF4.out.alloc (.cells #[.int .i64 b1, .int .i64 b2, .string b3, .int .i64 b4] 42))
        have HP5 := Lib.hid (HP4.out.alloc (.cells #[.int .i64 b1, .int .i64 b2, .string b3, .int .i64 b4] 42))
        have HR5 := Lib.hid (HR4.out.alloc (.cells #[.int .i64 b1, .int .i64 b2, .string b3, .int .i64 b4] 42))
        have HB5 := Lib.hid (HB4.out.alloc HB4.out.size (.cells #[.int .i64 b1, .int .i64 b2, .string b3, .int .i64 b4] 42))
        have HX5 := Lib.hid (Has.new w4 #[.int .i64 b1, .int .i64 b2, .string b3, .int .i64 b4] 42)
        clear HF4 HP4 HR4 HB4
        generalize w4.heap.size = u at *
        generalize w4.alloc (.cells #[.int .i64 b1, .int .i64 b2, .string b3, .int .i64 b4] 42) = w5 at *
        have z0 := HF5.out.cell 0; have z1 := HF5.out.cell 1; have z2 := HF5.out.cell 2
        have p0 := HP5.out.cell 0; have p1 := HP5.out.cell 1; have p2 := HP5.out.cell 2; have p3 := HP5.out.cell 3
        have x0 := HX5.out.cell 0; have x1 := HX5.out.cell 1; have x2 := HX5.out.cell 2; have x3 := HX5.out.cell 3
        have r0 := HR5.out.cell 0; have r1' := HR5.out.cell 1; have r2 := HR5.out.cell 2
        have f0 := HR5.out.free 0; have f1 := HR5.out.free 1; have f2 := HR5.out.free 2
        simp only [List.getElem?_toArray, List.getElem?_cons_zero, List.getElem?_cons_succ] at z0 z1 z2 p0 p1 p2 p3 x0 x1 x2 x3 r0 r1' r2
        clear HF5 HP5 HR5 HX5
        go_wp2
        ((try simp only [Exit.inBlock, Exit.then]); refine bodyPost_ret (v := (.tuple #[.agg #[.int .i64 0, .int .i64 0, .string ⟨#[]⟩], .int .i64 35])) ?_ rfl ⟨?_, ?_⟩; (rw [results_cell_tmp1 rfl]; go_simp))
        · rw [HA.out]; rfl
        · repeat (first | (with_reducible exact HB5.out) | refine below_set ?_ _ _ (by omega) _)
  · have hd : Pr.wd ⟨t, j, txt, r⟩ = txt := by unfold Pr.wd; rw [if_neg hr, Pr.app_e0]
    rw [hd] at hwr
    have hdd : decide (1 ≤ r) = false ∨ (decide (1 ≤ r) = true ∧ decide (r ≤ 255) = false) := by
      by_cases g : 1 ≤ r
      · exact .inr ⟨decide_eq_true g, decide_eq_false (fun x => hr ⟨g, x⟩)⟩
      · exact .inl (decide_eq_false g)
    have HA3 := Lib.hid (fun w => phear_walk t j txt w)
    have HASK := Lib.hid hwr
    clear hwr hd hr hs
    rcases hdd with e1 | ⟨e1, e2⟩
    · go_enter Tryd.func17, Tryd.ntmps17
      go_upto_region 2 with (fail)
      have H2 := Lib.hid (T3.new w #[.int .i64 t, .int .i64 j, .string txt, .int .i64 r] #[.int .i64 0, .int .i64 0, .string ⟨#[]⟩] #[.int .i64 t, .int .i64 j, .string txt] 42 23 23)
      generalize ((w.alloc (.cells #[.int .i64 t, .int .i64 j, .string txt, .int .i64 r] 42)).alloc (.cells #[.int .i64 0, .int .i64 0, .string ⟨#[]⟩] 23)).alloc (.cells #[.int .i64 t, .int .i64 j, .string txt] 23) = w2 at *
      have p3 := H2.out.hp.cell 3
      have z0 := H2.out.ha.cell 0; have z1 := H2.out.ha.cell 1; have z2 := H2.out.ha.cell 2
      have y2 := H2.out.ha.free 2
      simp only [List.getElem?_toArray, List.getElem?_cons_zero, List.getElem?_cons_succ] at p3 z0 z1 z2
      have HF3 := Lib.hid H2.out.ha
      have HP3 := Lib.hid H2.out.hp
      have HR3 := Lib.hid H2.out.hr
      have HB3 := Lib.hid H2.out.hb
      clear H2
      go_upto_region 4 with (fail)
      clear p3 y2
      have HAX := Lib.hid (HA3.out w2)
      clear HA3
      cases hrd : Pr.hear ⟨t, j, txt⟩ with
      | none =>
        rw [hrd] at HAX HASK
        simp only [hearV] at HAX
        have HA := Lib.hid (show A = none by rw [HASK.out, if_neg (by simp)])
        clear hrd HASK
        go_wp2_with fail
        (with_reducible refine (HAX.out).mono ?_)
        rintro e w4 ⟨rfl, hb⟩
        have HF4 := Lib.hid (HF3.out.below hb HF3.out.lt)
        have HP4 := Lib.hid (HP3.out.below hb HP3.out.lt)
        have HR4 := Lib.hid (HR3.out.below hb HR3.out.lt)
        have HB4 := Lib.hid (HB3.out.trans (hb.mono HB3.out.size))
        clear hb z0 z1 z2 HF3 HP3 HR3 HB3 HAX
        go_upto_region 5 with (fail)
        have HF5 := Lib.hid (HF4.out.alloc (.cells #[.int .i64 0, .int .i64 0, .string ⟨#[]⟩, .int .i64 0] 42))
        have HP5 := Lib.hid (HP4.out.alloc (.cells #[.int .i64 0, .int .i64 0, .string ⟨#[]⟩, .int .i64 0] 42))
        have HR5 := Lib.hid (HR4.out.alloc (.cells #[.int .i64 0, .int .i64 0, .string ⟨#[]⟩, .int .i64 0] 42))
        have HB5 := Lib.hid (HB4.out.alloc HB4.out.size (.cells #[.int .i64 0, .int .i64 0, .string ⟨#[]⟩, .int .i64 0] 42))
        have HX5 := Lib.hid (Has.new w4 #[.int .i64 0, .int .i64 0, .string ⟨#[]⟩, .int .i64 0] 42)
        clear HF4 HP4 HR4 HB4
        generalize w4.heap.size = u at *
        generalize w4.alloc (.cells #[.int .i64 0, .int .i64 0, .string ⟨#[]⟩, .int .i64 0] 42) = w5 at *
        have z0 := HF5.out.cell 0; have z1 := HF5.out.cell 1; have z2 := HF5.out.cell 2
        have p0 := HP5.out.cell 0; have p1 := HP5.out.cell 1; have p2 := HP5.out.cell 2; have p3 := HP5.out.cell 3
        have x0 := HX5.out.cell 0; have x1 := HX5.out.cell 1; have x2 := HX5.out.cell 2; have x3 := HX5.out.cell 3
        have r0 := HR5.out.cell 0; have r1' := HR5.out.cell 1; have r2 := HR5.out.cell 2
        have f0 := HR5.out.free 0; have f1 := HR5.out.free 1; have f2 := HR5.out.free 2
        simp only [List.getElem?_toArray, List.getElem?_cons_zero, List.getElem?_cons_succ] at z0 z1 z2 p0 p1 p2 p3 x0 x1 x2 x3 r0 r1' r2
        clear HF5 HP5 HR5 HX5
        go_wp2
        ((try simp only [Exit.inBlock, Exit.then]); refine bodyPost_ret (v := (.tuple #[.agg #[.int .i64 0, .int .i64 0, .string ⟨#[]⟩], .int .i64 35])) ?_ rfl ⟨?_, ?_⟩; (rw [results_cell_tmp1 rfl]; go_simp))
        · rw [HA.out]; rfl
        · repeat (first | (with_reducible exact HB5.out) | refine below_set ?_ _ _ (by omega) _)
      | some x =>
        rw [hrd] at HAX HASK
        by_cases hx : x = ⟨t, j, txt, r⟩
        · subst hx
          simp only [hearV] at HAX
          have HA := Lib.hid (show A = some ⟨t, j, txt⟩ by rw [HASK.out, if_pos rfl])
          clear hrd HASK
          go_wp2_with fail
          (with_reducible refine (HAX.out).mono ?_)
          rintro e w4 ⟨rfl, hb⟩
          have HF4 := Lib.hid (HF3.out.below hb HF3.out.lt)
          have HP4 := Lib.hid (HP3.out.below hb HP3.out.lt)
          have HR4 := Lib.hid (HR3.out.below hb HR3.out.lt)
          have HB4 := Lib.hid (HB3.out.trans (hb.mono HB3.out.size))
          clear hb z0 z1 z2 HF3 HP3 HR3 HB3 HAX
          go_upto_region 5 with (fail)
          have HF5 := Lib.hid (HF4.out.alloc (.cells #[.int .i64 t, .int .i64 j, .string txt, .int .i64 r] 42))
          have HP5 := Lib.hid (HP4.out.alloc (.cells #[.int .i64 t, .int .i64 j, .string txt, .int .i64 r] 42))
          have HR5 := Lib.hid (HR4.out.alloc (.cells #[.int .i64 t, .int .i64 j, .string txt, .int .i64 r] 42))
          have HB5 := Lib.hid (HB4.out.alloc HB4.out.size (.cells #[.int .i64 t, .int .i64 j, .string txt, .int .i64 r] 42))
          have HX5 := Lib.hid (Has.new w4 #[.int .i64 t, .int .i64 j, .string txt, .int .i64 r] 42)
          clear HF4 HP4 HR4 HB4
          generalize w4.heap.size = u at *
          generalize w4.alloc (.cells #[.int .i64 t, .int .i64 j, .string txt, .int .i64 r] 42) = w5 at *
          have z0 := HF5.out.cell 0; have z1 := HF5.out.cell 1; have z2 := HF5.out.cell 2
          have p0 := HP5.out.cell 0; have p1 := HP5.out.cell 1; have p2 := HP5.out.cell 2; have p3 := HP5.out.cell 3
          have x0 := HX5.out.cell 0; have x1 := HX5.out.cell 1; have x2 := HX5.out.cell 2; have x3 := HX5.out.cell 3
          have r0 := HR5.out.cell 0; have r1' := HR5.out.cell 1; have r2 := HR5.out.cell 2
          have f0 := HR5.out.free 0; have f1 := HR5.out.free 1; have f2 := HR5.out.free 2
          simp only [List.getElem?_toArray, List.getElem?_cons_zero, List.getElem?_cons_succ] at z0 z1 z2 p0 p1 p2 p3 x0 x1 x2 x3 r0 r1' r2
          clear HF5 HP5 HR5 HX5
          go_wp2
          ((try simp only [Exit.inBlock, Exit.then]); refine bodyPost_ret (v := (.tuple #[.agg #[.int .i64 t, .int .i64 j, .string txt], .int .i64 0])) ?_ rfl ⟨?_, ?_⟩; (rw [results_cell_tmp1 rfl]; go_simp))
          · rw [HA.out]; rfl
          · repeat (first | (with_reducible exact HB5.out) | refine below_set ?_ _ _ (by omega) _)
        · have hne := an_neq x ⟨t, j, txt, r⟩ hx
          have HA := Lib.hid (show A = none by rw [HASK.out, if_neg (fun e => hx (Option.some.inj e))])
          obtain ⟨b1, b2, b3, b4⟩ := x
          simp only [hearV] at HAX
          simp only [anV] at hne
          clear hrd HASK hx
          go_wp2_with fail
          (with_reducible refine (HAX.out).mono ?_)
          rintro e w4 ⟨rfl, hb⟩
          have HF4 := Lib.hid (HF3.out.below hb HF3.out.lt)
          have HP4 := Lib.hid (HP3.out.below hb HP3.out.lt)
          have HR4 := Lib.hid (HR3.out.below hb HR3.out.lt)
          have HB4 := Lib.hid (HB3.out.trans (hb.mono HB3.out.size))
          clear hb z0 z1 z2 HF3 HP3 HR3 HB3 HAX
          go_upto_region 5 with (fail)
          have HF5 := Lib.hid (HF4.out.alloc (.cells #[.int .i64 b1, .int .i64 b2, .string b3, .int .i64 b4] 42))
          have HP5 := Lib.hid (HP4.out.alloc (.cells #[.int .i64 b1, .int .i64 b2, .string b3, .int .i64 b4] 42))
          have HR5 := Lib.hid (HR4.out.alloc (.cells #[.int .i64 b1, .int .i64 b2, .string b3, .int .i64 b4] 42))
          have HB5 := Lib.hid (HB4.out.alloc HB4.out.size (.cells #[.int .i64 b1, .int .i64 b2, .string b3, .int .i64 b4] 42))
          have HX5 := Lib.hid (Has.new w4 #[.int .i64 b1, .int .i64 b2, .string b3, .int .i64 b4] 42)
          clear HF4 HP4 HR4 HB4
          generalize w4.heap.size = u at *
          generalize w4.alloc (.cells #[.int .i64 b1, .int .i64 b2, .string b3, .int .i64 b4] 42) = w5 at *
          have z0 := HF5.out.cell 0; have z1 := HF5.out.cell 1; have z2 := HF5.out.cell 2
          have p0 := HP5.out.cell 0; have p1 := HP5.out.cell 1; have p2 := HP5.out.cell 2; have p3 := HP5.out.cell 3
          have x0 := HX5.out.cell 0; have x1 := HX5.out.cell 1; have x2 := HX5.out.cell 2; have x3 := HX5.out.cell 3
          have r0 := HR5.out.cell 0; have r1' := HR5.out.cell 1; have r2 := HR5.out.cell 2
          have f0 := HR5.out.free 0; have f1 := HR5.out.free 1; have f2 := HR5.out.free 2
          simp only [List.getElem?_toArray, List.getElem?_cons_zero, List.getElem?_cons_succ] at z0 z1 z2 p0 p1 p2 p3 x0 x1 x2 x3 r0 r1' r2
          clear HF5 HP5 HR5 HX5
          go_wp2
          ((try simp only [Exit.inBlock, Exit.then]); refine bodyPost_ret (v := (.tuple #[.agg #[.int .i64 0, .int .i64 0, .string ⟨#[]⟩], .int .i64 35])) ?_ rfl ⟨?_, ?_⟩; (rw [results_cell_tmp1 rfl]; go_simp))
          · rw [HA.out]; rfl
          · repeat (first | (with_reducible exact HB5.out) | refine below_set ?_ _ _ (by omega) _)
    · go_enter Tryd.func17, Tryd.ntmps17
      go_upto_region 2 with (fail)
      have H2 := Lib.hid (T3.new w #[.int .i64 t, .int .i64 j, .string txt, .int .i64 r] #[.int .i64 0, .int .i64 0, .string ⟨#[]⟩] #[.int .i64 t, .int .i64 j, .string txt] 42 23 23)
      generalize ((w.alloc (.cells #[.int .i64 t, .int .i64 j, .string txt, .int .i64 r] 42)).alloc (.cells #[.int .i64 0, .int .i64 0, .string ⟨#[]⟩] 23)).alloc (.cells #[.int .i64 t, .int .i64 j, .string txt] 23) = w2 at *
      have p3 := H2.out.hp.cell 3
      have z0 := H2.out.ha.cell 0; have z1 := H2.out.ha.cell 1; have z2 := H2.out.ha.cell 2
      have y2 := H2.out.ha.free 2
      simp only [List.getElem?_toArray, List.getElem?_cons_zero, List.getElem?_cons_succ] at p3 z0 z1 z2
      have HF3 := Lib.hid H2.out.ha
      have HP3 := Lib.hid H2.out.hp
      have HR3 := Lib.hid H2.out.hr
      have HB3 := Lib.hid H2.out.hb
      clear H2
      go_upto_region 4 with (fail)
      clear p3 y2
      have HAX := Lib.hid (HA3.out w2)
      clear HA3
      cases hrd : Pr.hear ⟨t, j, txt⟩ with
      | none =>
        rw [hrd] at HAX HASK
        simp only [hearV] at HAX
        have HA := Lib.hid (show A = none by rw [HASK.out, if_neg (by simp)])
        clear hrd HASK
        go_wp2_with fail
        (with_reducible refine (HAX.out).mono ?_)
        rintro e w4 ⟨rfl, hb⟩
        have HF4 := Lib.hid (HF3.out.below hb HF3.out.lt)
        have HP4 := Lib.hid (HP3.out.below hb HP3.out.lt)
        have HR4 := Lib.hid (HR3.out.below hb HR3.out.lt)
        have HB4 := Lib.hid (HB3.out.trans (hb.mono HB3.out.size))
        clear hb z0 z1 z2 HF3 HP3 HR3 HB3 HAX
        go_upto_region 5 with (fail)
        have HF5 := Lib.hid (HF4.out.alloc (.cells #[.int .i64 0, .int .i64 0, .string ⟨#[]⟩, .int .i64 0] 42))
        have HP5 := Lib.hid (HP4.out.alloc (.cells #[.int .i64 0, .int .i64 0, .string ⟨#[]⟩, .int .i64 0] 42))
        have HR5 := Lib.hid (HR4.out.alloc (.cells #[.int .i64 0, .int .i64 0, .string ⟨#[]⟩, .int .i64 0] 42))
        have HB5 := Lib.hid (HB4.out.alloc HB4.out.size (.cells #[.int .i64 0, .int .i64 0, .string ⟨#[]⟩, .int .i64 0] 42))
        have HX5 := Lib.hid (Has.new w4 #[.int .i64 0, .int .i64 0, .string ⟨#[]⟩, .int .i64 0] 42)
        clear HF4 HP4 HR4 HB4
        generalize w4.heap.size = u at *
        generalize w4.alloc (.cells #[.int .i64 0, .int .i64 0, .string ⟨#[]⟩, .int .i64 0] 42) = w5 at *
        have z0 := HF5.out.cell 0; have z1 := HF5.out.cell 1; have z2 := HF5.out.cell 2
        have p0 := HP5.out.cell 0; have p1 := HP5.out.cell 1; have p2 := HP5.out.cell 2; have p3 := HP5.out.cell 3
        have x0 := HX5.out.cell 0; have x1 := HX5.out.cell 1; have x2 := HX5.out.cell 2; have x3 := HX5.out.cell 3
        have r0 := HR5.out.cell 0; have r1' := HR5.out.cell 1; have r2 := HR5.out.cell 2
        have f0 := HR5.out.free 0; have f1 := HR5.out.free 1; have f2 := HR5.out.free 2
        simp only [List.getElem?_toArray, List.getElem?_cons_zero, List.getElem?_cons_succ] at z0 z1 z2 p0 p1 p2 p3 x0 x1 x2 x3 r0 r1' r2
        clear HF5 HP5 HR5 HX5
        go_wp2
        ((try simp only [Exit.inBlock, Exit.then]); refine bodyPost_ret (v := (.tuple #[.agg #[.int .i64 0, .int .i64 0, .string ⟨#[]⟩], .int .i64 35])) ?_ rfl ⟨?_, ?_⟩; (rw [results_cell_tmp1 rfl]; go_simp))
        · rw [HA.out]; rfl
        · repeat (first | (with_reducible exact HB5.out) | refine below_set ?_ _ _ (by omega) _)
      | some x =>
        rw [hrd] at HAX HASK
        by_cases hx : x = ⟨t, j, txt, r⟩
        · subst hx
          simp only [hearV] at HAX
          have HA := Lib.hid (show A = some ⟨t, j, txt⟩ by rw [HASK.out, if_pos rfl])
          clear hrd HASK
          go_wp2_with fail
          (with_reducible refine (HAX.out).mono ?_)
          rintro e w4 ⟨rfl, hb⟩
          have HF4 := Lib.hid (HF3.out.below hb HF3.out.lt)
          have HP4 := Lib.hid (HP3.out.below hb HP3.out.lt)
          have HR4 := Lib.hid (HR3.out.below hb HR3.out.lt)
          have HB4 := Lib.hid (HB3.out.trans (hb.mono HB3.out.size))
          clear hb z0 z1 z2 HF3 HP3 HR3 HB3 HAX
          go_upto_region 5 with (fail)
          have HF5 := Lib.hid (HF4.out.alloc (.cells #[.int .i64 t, .int .i64 j, .string txt, .int .i64 r] 42))
          have HP5 := Lib.hid (HP4.out.alloc (.cells #[.int .i64 t, .int .i64 j, .string txt, .int .i64 r] 42))
          have HR5 := Lib.hid (HR4.out.alloc (.cells #[.int .i64 t, .int .i64 j, .string txt, .int .i64 r] 42))
          have HB5 := Lib.hid (HB4.out.alloc HB4.out.size (.cells #[.int .i64 t, .int .i64 j, .string txt, .int .i64 r] 42))
          have HX5 := Lib.hid (Has.new w4 #[.int .i64 t, .int .i64 j, .string txt, .int .i64 r] 42)
          clear HF4 HP4 HR4 HB4
          generalize w4.heap.size = u at *
          generalize w4.alloc (.cells #[.int .i64 t, .int .i64 j, .string txt, .int .i64 r] 42) = w5 at *
          have z0 := HF5.out.cell 0; have z1 := HF5.out.cell 1; have z2 := HF5.out.cell 2
          have p0 := HP5.out.cell 0; have p1 := HP5.out.cell 1; have p2 := HP5.out.cell 2; have p3 := HP5.out.cell 3
          have x0 := HX5.out.cell 0; have x1 := HX5.out.cell 1; have x2 := HX5.out.cell 2; have x3 := HX5.out.cell 3
          have r0 := HR5.out.cell 0; have r1' := HR5.out.cell 1; have r2 := HR5.out.cell 2
          have f0 := HR5.out.free 0; have f1 := HR5.out.free 1; have f2 := HR5.out.free 2
          simp only [List.getElem?_toArray, List.getElem?_cons_zero, List.getElem?_cons_succ] at z0 z1 z2 p0 p1 p2 p3 x0 x1 x2 x3 r0 r1' r2
          clear HF5 HP5 HR5 HX5
          go_wp2
          ((try simp only [Exit.inBlock, Exit.then]); refine bodyPost_ret (v := (.tuple #[.agg #[.int .i64 t, .int .i64 j, .string txt], .int .i64 0])) ?_ rfl ⟨?_, ?_⟩; (rw [results_cell_tmp1 rfl]; go_simp))
          · rw [HA.out]; rfl
          · repeat (first | (with_reducible exact HB5.out) | refine below_set ?_ _ _ (by omega) _)
        · have hne := an_neq x ⟨t, j, txt, r⟩ hx
          have HA := Lib.hid (show A = none by rw [HASK.out, if_neg (fun e => hx (Option.some.inj e))])
          obtain ⟨b1, b2, b3, b4⟩ := x
          simp only [hearV] at HAX
          simp only [anV] at hne
          clear hrd HASK hx
          go_wp2_with fail
          (with_reducible refine (HAX.out).mono ?_)
          rintro e w4 ⟨rfl, hb⟩
          have HF4 := Lib.hid (HF3.out.below hb HF3.out.lt)
          have HP4 := Lib.hid (HP3.out.below hb HP3.out.lt)
          have HR4 := Lib.hid (HR3.out.below hb HR3.out.lt)
          have HB4 := Lib.hid (HB3.out.trans (hb.mono HB3.out.size))
          clear hb z0 z1 z2 HF3 HP3 HR3 HB3 HAX
          go_upto_region 5 with (fail)
          have HF5 := Lib.hid (HF4.out.alloc (.cells #[.int .i64 b1, .int .i64 b2, .string b3, .int .i64 b4] 42))
          have HP5 := Lib.hid (HP4.out.alloc (.cells #[.int .i64 b1, .int .i64 b2, .string b3, .int .i64 b4] 42))
          have HR5 := Lib.hid (HR4.out.alloc (.cells #[.int .i64 b1, .int .i64 b2, .string b3, .int .i64 b4] 42))
          have HB5 := Lib.hid (HB4.out.alloc HB4.out.size (.cells #[.int .i64 b1, .int .i64 b2, .string b3, .int .i64 b4] 42))
          have HX5 := Lib.hid (Has.new w4 #[.int .i64 b1, .int .i64 b2, .string b3, .int .i64 b4] 42)
          clear HF4 HP4 HR4 HB4
          generalize w4.heap.size = u at *
          generalize w4.alloc (.cells #[.int .i64 b1, .int .i64 b2, .string b3, .int .i64 b4] 42) = w5 at *
          have z0 := HF5.out.cell 0; have z1 := HF5.out.cell 1; have z2 := HF5.out.cell 2
          have p0 := HP5.out.cell 0; have p1 := HP5.out.cell 1; have p2 := HP5.out.cell 2; have p3 := HP5.out.cell 3
          have x0 := HX5.out.cell 0; have x1 := HX5.out.cell 1; have x2 := HX5.out.cell 2; have x3 := HX5.out.cell 3
          have r0 := HR5.out.cell 0; have r1' := HR5.out.cell 1; have r2 := HR5.out.cell 2
          have f0 := HR5.out.free 0; have f1 := HR5.out.free 1; have f2 := HR5.out.free 2
          simp only [List.getElem?_toArray, List.getElem?_cons_zero, List.getElem?_cons_succ] at z0 z1 z2 p0 p1 p2 p3 x0 x1 x2 x3 r0 r1' r2
          clear HF5 HP5 HR5 HX5
          go_wp2
          ((try simp only [Exit.inBlock, Exit.then]); refine bodyPost_ret (v := (.tuple #[.agg #[.int .i64 0, .int .i64 0, .string ⟨#[]⟩], .int .i64 35])) ?_ rfl ⟨?_, ?_⟩; (rw [results_cell_tmp1 rfl]; go_simp))
          · rw [HA.out]; rfl
          · repeat (first | (with_reducible exact HB5.out) | refine below_set ?_ _ _ (by omega) _)
end Go.Proofs.YtckdbkbecelgcaaDoor
