/- ProtoAnswers. -/
import Derived.Test.YtckdbkbecelgcaaDoorPrAns2
import Derived.Test.YtckdbkbecelgcaaDoorPrLaw1
namespace Go.Proofs.YtckdbkbecelgcaaDoor
open Go.RowKit
set_option linter.unusedVariables false
set_option linter.unusedSimpArgs false

theorem Pr.allA_length (s : ByteArray) : (Pr.allA s).1.length ≤ s.size := by
  unfold Pr.allA
  split
  · exact Nat.zero_le _
  · have h1 := Pr.told_length (Fr.run s s.size 0 []).1 []
    have h2 := Fr.run_length s s.size 0 []
    simp only [List.length_nil, Nat.zero_add] at h1 h2
    omega
set_option maxRecDepth 100000 in
set_option maxHeartbeats 2000000 in
theorem protoAnswers_walk (s : ByteArray) (w : World) (_ : s.size ≤ maxLen) (hT : Tabs w) : Calls Tryd.prog 8 #[.string s] w fun e w' => e = .returned (.bool true) ∧ Below w.heap.size w w' := by
  have HT := Lib.hid hT
  clear hT
  by_cases hl : 300 < s.size
  · have hl' : (300 : Int) < (s.size : Int) := by omega
    go_enter Tryd.func8, Tryd.ntmps8
    go_wp2_with fail
    (with_reducible refine (nine_walk _ HT.out).mono ?_)
    rintro e w1 ⟨rfl, hb⟩
    go_wp2
    go_ret
    exact ⟨rfl, hb⟩
  · have hl' : ¬ (300 : Int) < (s.size : Int) := by omega
    have H1 := Lib.hid (answers_walk s w (by omega))
    have H2 := Lib.hid (fun w => ranswers_walk s w (by omega))
    have hlen := Pr.allA_length s
    generalize Pr.allA s = A at *
    obtain ⟨L, er⟩ := A
    simp only at H1 H2 hlen
    have Hlen := Lib.hid (show L.length ≤ 300 by omega)
    clear hlen hl
    go_enter Tryd.func8, Tryd.ntmps8
    go_wp2_with fail
    refine H1.out.mono ?_
    rintro e w1 ⟨v1, rfl, ho1, hb1⟩
    obtain ⟨a1, c1, rfl, hr1, _⟩ := rowS_owns ho1
    have Hr1 := Lib.hid hr1
    have Hb1 := Lib.hid hb1
    clear ho1 hr1 hb1
    go_wp2_with fail
    refine (H2.out _).mono ?_
    rintro e w2 ⟨v2, rfl, ho2, hb2⟩
    obtain ⟨a2, c2, rfl, hr2, _⟩ := rowS_owns ho2
    have hal := (Below.refl w2.heap.size w2).alloc (Nat.le_refl _) (.cells #[.slice a2 L.length c2, .int .i64 er] 63)
    have Hr3 := Lib.hid (hr2.keep hal)
    have Hr4 := Lib.hid ((Hr1.out.keep hb2).keep hal)
    have Hb2 := Lib.hid (Hb1.out.trans (hb2.mono Hb1.out.size))
    have Hb3 := Lib.hid (Hb2.out.trans (hal.mono Hb2.out.size))
    have HQ := Lib.hid (Has.new w2 #[.slice a2 L.length c2, .int .i64 er] 63)
    clear ho2 hr2 hb2 hal Hr1 Hb1 Hb2
    go_upto_region 5 with (fail)
    generalize w2.heap.size = q at *
    generalize w2.alloc (.cells #[.slice a2 L.length c2, .int .i64 er] 63) = w3 at *
    have r0 := HQ.out.cell 0; have r1 := HQ.out.cell 1
    simp only [List.getElem?_toArray, List.getElem?_cons_zero, List.getElem?_cons_succ] at r0 r1
    go_wp2_with fail
    clear r0 r1
    go_loopw [33] (fun i wr => ∃ k : Nat, k ≤ L.length ∧ i = .int .i64 k ∧ Below w3.heap.size w3 wr) (fun i _ => L.length - (intOf i).toNat)
    case atStart => exact ⟨0, Nat.zero_le _, rfl, Below.refl _ _⟩
    case round =>
      obtain ⟨k, hk, rfl, hbr⟩ := hrel
      have Hbr := Lib.hid hbr
      clear hbr
      have hkw := Hlen.out
      by_cases hlt : k < L.length
      · obtain ⟨ba, oa, rfl, hba, hca⟩ := (Hr4.out.keep Hbr.out).at k hlt
        obtain ⟨bb, ob, rfl, hbb, hcb⟩ := (Hr3.out.keep Hbr.out).at k hlt
        obtain ⟨e0, e1, e2, e3⟩ := acells_get L k hlt
        have a0 := hca 0 (by decide); have a1 := hca 1 (by decide); have a2 := hca 2 (by decide); have a3 := hca 3 (by decide)
        have b0 := hcb 0 (by decide); have b1 := hcb 1 (by decide); have b2 := hcb 2 (by decide); have b3 := hcb 3 (by decide)
        rw [e0] at a0 b0
        rw [e1] at a1 b1
        rw [e2] at a2 b2
        rw [e3] at a3 b3
        clear hca hcb e0 e1 e2 e3
        generalize L[k] = f at *
        obtain ⟨t, j, d, r⟩ := f
        simp only at a0 a1 a2 a3 b0 b1 b2 b3
        simp only [← Nat.add_assoc, Nat.add_zero] at a0 a1 a2 a3 b0 b1 b2 b3
        have hk1 : (k : Int) < (L.length : Int) := by omega
        have hal6 := (Below.refl wr.heap.size wr).alloc (Nat.le_refl _) (.cells #[Value.int .i64 t, Value.int .i64 j, Value.string d, Value.int .i64 r] 42)
        have HW := Lib.hid (Has.new wr #[Value.int .i64 t, Value.int .i64 j, Value.string d, Value.int .i64 r] 42)
        have HQ6 := Lib.hid ((HQ.out.below Hbr.out HQ.out.lt).below hal6 (HQ.out.below Hbr.out HQ.out.lt).lt)
        have Hb6 := Lib.hid (Hbr.out.trans (hal6.mono Hbr.out.size))
        have B0 := Lib.hid ((hal6.cell (p := ⟨bb, ob + k * 4, none⟩) hbb).trans b0)
        have B1 := Lib.hid ((hal6.cell (p := ⟨bb, ob + k * 4 + 1, none⟩) hbb).trans b1)
        have B2 := Lib.hid ((hal6.cell (p := ⟨bb, ob + k * 4 + 2, none⟩) hbb).trans b2)
        have B3 := Lib.hid ((hal6.cell (p := ⟨bb, ob + k * 4 + 3, none⟩) hbb).trans b3)
        clear hal6 b0 b1 b2 b3 Hbr
        go_upto_region 10 with (fail)
        generalize wr.heap.size = u at *
        generalize wr.alloc (.cells #[Value.int .i64 t, Value.int .i64 j, Value.string d, Value.int .i64 r] 42) = w6 at *
        have m0 : ∀ x : Later w6, x.at.cell? ⟨u, 0, none⟩ = some (.int .i64 t) := fun x => x.cell (HW.out.cell 0)
        have m1 : ∀ x : Later w6, x.at.cell? ⟨u, 1, none⟩ = some (.int .i64 j) := fun x => x.cell (HW.out.cell 1)
        have m2 : ∀ x : Later w6, x.at.cell? ⟨u, 2, none⟩ = some (.string d) := fun x => x.cell (HW.out.cell 2)
        have m3 : ∀ x : Later w6, x.at.cell? ⟨u, 3, none⟩ = some (.int .i64 r) := fun x => x.cell (HW.out.cell 3)
        have n0 : ∀ x : Later w6, x.at.cell? ⟨q, 0, none⟩ = some (.slice (some ⟨bb, ob, none⟩) L.length c2) := fun x => x.cell (HQ6.out.cell 0)
        have p0 : ∀ x : Later w6, x.at.cell? ⟨bb, ob + k * 4, none⟩ = some (.int .i64 t) := fun x => x.cell B0.out
        have p1 : ∀ x : Later w6, x.at.cell? ⟨bb, ob + k * 4 + 1, none⟩ = some (.int .i64 j) := fun x => x.cell B1.out
        have p2 : ∀ x : Later w6, x.at.cell? ⟨bb, ob + k * 4 + 2, none⟩ = some (.string d) := fun x => x.cell B2.out
        have p3 : ∀ x : Later w6, x.at.cell? ⟨bb, ob + k * 4 + 3, none⟩ = some (.int .i64 r) := fun x => x.cell B3.out
        have V1 := Lib.hid (fun x : Later w6 => later_call (x := x) (answer_walk t j d r x.at))
        refine region_later 8 (by kernel_rfl) (by kernel_rfl) ?_
        simp only [List.take_succ_cons, List.take_zero, List.drop_succ_cons, List.drop_zero]
        repeat (go_big_quiet_step ((with_reducible exact V1.out _)))
        refine wpQuiet_nil ?_
        rintro w' ⟨x, rfl⟩
        have Hb7 := Lib.hid (Hb6.out.trans (x.below.mono Hb6.out.size))
        clear V1 m0 m1 m2 m3 n0 p0 p1 p2 p3
        generalize x.at = w7 at *
        go_wp2_with fail
        go_roundw
        case rel => exact ⟨k + 1, hlt, by go_num, Hb7.out⟩
        case measure => simp [intOf]; omega
      · have hk1 : ¬ (k : Int) < (L.length : Int) := by omega
        go_wp2_with fail
        (with_reducible refine (nine_walk _ (HT.out.keep (Hb3.out.trans (Hbr.out.mono Hb3.out.size)))).mono ?_)
        rintro e w6 ⟨rfl, hb⟩
        have Hb9 := Lib.hid ((Hb3.out.trans (Hbr.out.mono Hb3.out.size)).trans (hb.mono (Hb3.out.trans (Hbr.out.mono Hb3.out.size)).size))
        go_wp2
        go_ret
        exact ⟨rfl, Hb9.out⟩
end Go.Proofs.YtckdbkbecelgcaaDoor
