/- The answers of bytes: the reference's. -/
import Derived.Test.YtckdbkbecelgcaaDoorPrAns1
import Derived.Test.YtckdbkbecelgcaaDoorPrHearR
namespace Go.Proofs.YtckdbkbecelgcaaDoor
open Go.RowKit
set_option linter.unusedVariables false

set_option maxRecDepth 100000 in
set_option maxHeartbeats 2000000 in
theorem ranswers_walk (s : ByteArray) (w : World) (hS : s.size ≤ 1000) : Calls Tryd.prog 23 #[.string s] w fun e w' => ∃ v, e = .returned (.agg #[v, .int .i64 (Pr.allA s).2]) ∧
      w'.ownsRow w.heap.size 45 4 v (Pr.allA s).1.length ((Pr.allA s).1.flatMap acells) ∧ Below w.heap.size w w' := by
  have H1 := Lib.hid (fun w => refall_walk s w hS)
  have hal : Pr.allA s = if (Fr.run s s.size 0 []).2.2 ≠ 0 then ([], (Fr.run s s.size 0 []).2.2) else Pr.told (Fr.run s s.size 0 []).1 [] := rfl
  have hlen := Fr.run_length s s.size 0 []
  generalize Fr.run s s.size 0 [] = R at *
  generalize Pr.allA s = A at *
  obtain ⟨fs, p, er⟩ := R
  simp only [List.length_nil, Nat.zero_add] at H1 hal hlen
  have Hlen := Lib.hid (show fs.length ≤ 1000 by omega)
  clear hlen hS
  go_enter Tryd.func23, Tryd.ntmps23
  go_upto_region 1 with (fail)
  have HQ0 := Lib.hid (Has.new w #[.slice none 0 0, .int .i64 0] 63)
  have HB0 := Lib.hid ((Below.refl w.heap.size w).alloc (Nat.le_refl _) (.cells #[.slice none 0 0, .int .i64 0] 63))
  obtain ⟨q, hq⟩ : ∃ q, q = w.heap.size := ⟨_, rfl⟩
  have HQE := Lib.hid hq
  rw [← hq] at HQ0
  rw [← hq]
  clear hq
  generalize w.alloc (.cells #[.slice none 0 0, .int .i64 0] 63) = w0 at *
  go_wp2_with fail
  refine (H1.out _).mono ?_
  rintro e w1 ⟨v1, rfl, ho1, hb1⟩
  obtain ⟨a1, c1, rfl, hr1, _⟩ := rowS_owns ho1
  have hal2 := (Below.refl w1.heap.size w1).alloc (Nat.le_refl _) (.cells #[.slice a1 fs.length c1, .int .i64 (p : Int), .int .i64 er] 89)
  have Hr1 := Lib.hid (hr1.keep hal2)
  have HQ1 := Lib.hid ((HQ0.out.below hb1 HQ0.out.lt).alloc (.cells #[.slice a1 fs.length c1, .int .i64 (p : Int), .int .i64 er] 89))
  have Hb1 := Lib.hid ((HB0.out.trans (hb1.mono HB0.out.size)).trans (hal2.mono (HB0.out.trans (hb1.mono HB0.out.size)).size))
  have HR1 := Lib.hid (Has.new w1 #[.slice a1 fs.length c1, .int .i64 (p : Int), .int .i64 er] 89)
  clear ho1 hr1 hb1 hal2 HQ0 HB0
  go_upto_region 2 with (fail)
  generalize w1.heap.size = u at *
  generalize w1.alloc (.cells #[.slice a1 fs.length c1, .int .i64 (p : Int), .int .i64 er] 89) = w2 at *
  have r0 := HR1.out.cell 0; have r1 := HR1.out.cell 1; have r2 := HR1.out.cell 2
  simp only [List.getElem?_toArray, List.getElem?_cons_zero, List.getElem?_cons_succ] at r0 r1 r2
  by_cases he : er = 0
  · subst he
    have HA := Lib.hid (show Pr.told fs [] = A by rw [hal, if_neg (by simp)])
    clear hal
    go_wp2_with fail
    go_loopw [4, 19] (fun v i wr => ∃ (k : Nat) (l : List Pr.An), k ≤ fs.length ∧ i = .int .i64 k ∧ Pr.told (fs.drop k) l = A ∧ l.length ≤ k ∧ wr.ownsRow w2.heap.size 45 4 v l.length (l.flatMap acells) ∧ Below w2.heap.size w2 wr) (fun _ i _ => fs.length - (intOf i).toNat)
    case atStart => exact ⟨0, [], Nat.zero_le _, rfl, HA.out, Nat.le_refl _, World.ownsRow_nil _ _ _ _, Below.refl _ _⟩
    case round =>
      obtain ⟨k, l, hk, rfl, htold, hlk, hown, hbr⟩ := hrel
      have Hown := Lib.hid hown
      have Hbr := Lib.hid hbr
      clear hown hbr r0 r1 r2
      by_cases hlt : k < fs.length
      · obtain ⟨ba, oa, rfl, hba, hca⟩ := (Hr1.out.keep Hbr.out).at k hlt
        obtain ⟨e0, e1, e2⟩ := fcells_get fs k hlt
        have a0 := hca 0 (by decide); have a1 := hca 1 (by decide); have a2 := hca 2 (by decide)
        rw [e0] at a0
        rw [e1] at a1
        rw [e2] at a2
        clear hca e0 e1 e2
        have hsome := Pr.told_some fs k l hlt
        have hnone := Pr.told_none fs k l hlt
        rw [htold] at hsome hnone
        generalize fs[k] = f at *
        obtain ⟨t, j, d⟩ := f
        simp only at a0 a1 a2
        simp only [← Nat.add_assoc, Nat.add_zero] at a0 a1 a2
        have hk1 : (k : Int) < (fs.length : Int) := by omega
        have HH := Lib.hid (fun w => rhear_walk t j d w)
        cases hh : Pr.hear ⟨t, j, d⟩ with
        | some a =>
          have Htold := Lib.hid (hsome a hh).symm
          rw [hh] at HH
          obtain ⟨b1, b2, b3, b4⟩ := a
          simp only [toldV] at HH
          clear hh hsome hnone htold
          go_wp2_with fail
          refine (HH.out _).mono ?_
          rintro e w3 ⟨rfl, hb2⟩
          have hbx := (((Below.refl wr.heap.size wr).alloc (Nat.le_refl _) (.cells #[Value.int .i64 t, Value.int .i64 j, Value.string d] 23)).trans (hb2.mono (by simp)))
          have hown1 := (ownsRow_keep Hown.out hbx).alloc (.cells #[Value.int .i64 b1, Value.int .i64 b2, Value.string b3, Value.int .i64 b4, .bool true] 47)
          have hb3 := Hbr.out.trans (((hbx.trans ((Below.refl w3.heap.size w3).alloc (Nat.le_refl _) (.cells #[Value.int .i64 b1, Value.int .i64 b2, Value.string b3, Value.int .i64 b4, .bool true] 47) |>.mono hbx.size))).mono Hbr.out.size)
          have Hown1 := Lib.hid hown1
          have Hb3 := Lib.hid hb3
          clear hb2 hbx hown1 hb3 Hown Hbr a0 a1 a2
          go_wp2_with (at_builtin; refine appendS Tryd.underlying61 info_ranswer rfl (by decide) rfl _ _ rfl w2.heap.size l.length _ _ rfl Hown1.out #[Value.int .i64 b1, Value.int .i64 b2, Value.string b3, Value.int .i64 b4] rfl (by intro u hu; simp at hu; rcases hu with rfl | rfl | rfl | rfl <;> rfl) _ rfl (by simp) (by unfold maxLen; have := Hlen.out; omega) (by have := Hlen.out; omega) Hb3.out.size ?_)
          intro g cap' w4 ho hc hb4 _ _ _
          have ho2 : w4.ownsRow w2.heap.size 45 4 (.slice (some ⟨g, 0, none⟩) (l.length + 1) cap') (l ++ [Pr.An.mk b1 b2 b3 b4]).length ((l ++ [Pr.An.mk b1 b2 b3 b4]).flatMap acells) := by
            rw [List.length_append, List.flatMap_append]
            exact ho
          have hb5 := Hb3.out.trans hb4
          have hkw := Hlen.out
          clear ho hc hb4 Hown1 Hb3
          go_wp2
          go_roundw
          case rel => exact ⟨k + 1, l ++ [⟨b1, b2, b3, b4⟩], hlt, by go_num, Htold.out, by rw [List.length_append]; show l.length + 1 ≤ _; omega, ho2, hb5⟩
          case measure => simp [intOf]; omega
        | none =>
          have HN := Lib.hid (hnone hh)
          rw [hh] at HH
          simp only [toldV] at HH
          clear hh hsome hnone htold
          go_wp2_with fail
          refine (HH.out _).mono ?_
          rintro e w3 ⟨rfl, hb2⟩
          have hbx := (((Below.refl wr.heap.size wr).alloc (Nat.le_refl _) (.cells #[Value.int .i64 t, Value.int .i64 j, Value.string d] 23)).trans (hb2.mono (by simp)))
          have hb3 := Hbr.out.trans (((hbx.trans ((Below.refl w3.heap.size w3).alloc (Nat.le_refl _) (.cells #[Value.int .i64 0, Value.int .i64 0, Value.string ⟨#[]⟩, Value.int .i64 0, .bool false] 47) |>.mono hbx.size))).mono Hbr.out.size)
          have Hb3 := Lib.hid (Hb1.out.trans (hb3.mono Hb1.out.size))
          have HQ3 := Lib.hid (HQ1.out.below hb3 HQ1.out.lt)
          clear hb2 hbx hb3 Hown Hbr a0 a1 a2
          go_upto_region 9 with (fail)
          have X4 := (Has.new w3 #[Value.int .i64 0, Value.int .i64 0, Value.string ⟨#[]⟩, Value.int .i64 0, .bool false] 47).cell 4
          simp only [List.getElem?_toArray, List.getElem?_cons_zero, List.getElem?_cons_succ] at X4
          have c0 := HQ3.out.cell 0; have c1' := HQ3.out.cell 1
          have f0 := HQ3.out.free 0; have f1 := HQ3.out.free 1
          have hql := HQ3.out.lt
          simp only [List.getElem?_toArray, List.getElem?_cons_zero, List.getElem?_cons_succ] at c0 c1'
          generalize w3.heap.size = u3 at *
          generalize w3.alloc (.cells #[Value.int .i64 0, Value.int .i64 0, Value.string ⟨#[]⟩, Value.int .i64 0, .bool false] 47) = w4 at *
          go_wp2
          (try simp only [Exit.inBlock, Exit.then])
          refine bodyPost_ret (v := .agg #[.slice none 0 0, .int .i64 35]) ?_ rfl ?_
          · rw [results_cell1 rfl]
            go_simp
          · rw [HN.out]
            refine ⟨_, rfl, World.ownsRow_nil _ _ _ _, ?_⟩
            rw [HQE.out]
            exact (Hb3.out.setCell (p := ⟨w.heap.size, 0, none⟩) (Nat.le_refl _) _).setCell (p := ⟨w.heap.size, 1, none⟩) (Nat.le_refl _) _
      · have hR2 := Lib.hid ((Pr.told_end fs k l (by omega)).symm.trans htold)
        have hlt' : ¬ ((k : Int) < (fs.length : Int)) := by omega
        clear htold
        have HQ3 := Lib.hid (HQ1.out.below Hbr.out HQ1.out.lt)
        have c0 := HQ3.out.cell 0; have c1' := HQ3.out.cell 1
        have f0 := HQ3.out.free 0; have f1 := HQ3.out.free 1
        have hql := HQ3.out.lt
        simp only [List.getElem?_toArray, List.getElem?_cons_zero, List.getElem?_cons_succ] at c0 c1'
        obtain ⟨va, vc, rfl, _, _⟩ := rowS_owns Hown.out
        go_wp2
        (try simp only [Exit.inBlock, Exit.then])
        refine bodyPost_ret (v := .agg #[.slice va l.length vc, .int .i64 0]) ?_ rfl ?_
        · rw [results_cell1 rfl]
          go_simp
        · rw [← hR2.out]
          have hqB := HQ1.out.lt
          refine ⟨_, rfl, ?_, ?_⟩
          · exact ownsRow_mono (own_set (own_set Hown.out _ _ hqB) _ _ hqB) Hb1.out.size
          · rw [HQE.out]
            exact ((Hb1.out.trans (Hbr.out.mono Hb1.out.size)).setCell (p := ⟨w.heap.size, 0, none⟩) (Nat.le_refl _) _).setCell (p := ⟨w.heap.size, 1, none⟩) (Nat.le_refl _) _
  · have HA := Lib.hid (show A = ([], er) by rw [hal, if_pos he])
    have he' : (er == 0) = false := by simpa using he
    clear hal
    have c0 := HQ1.out.cell 0; have c1' := HQ1.out.cell 1
    have f0 := HQ1.out.free 0; have f1 := HQ1.out.free 1
    have hql := HQ1.out.lt
    simp only [List.getElem?_toArray, List.getElem?_cons_zero, List.getElem?_cons_succ] at c0 c1'
    go_wp2
    (try simp only [Exit.inBlock, Exit.then])
    refine bodyPost_ret (v := .agg #[.slice none 0 0, .int .i64 er]) ?_ rfl ?_
    · rw [results_cell1 rfl]
      go_simp
    · rw [HA.out]
      refine ⟨_, rfl, World.ownsRow_nil _ _ _ _, ?_⟩
      rw [HQE.out]
      exact (Hb1.out.setCell (p := ⟨w.heap.size, 0, none⟩) (Nat.le_refl _) _).setCell (p := ⟨w.heap.size, 1, none⟩) (Nat.le_refl _) _
end Go.Proofs.YtckdbkbecelgcaaDoor
