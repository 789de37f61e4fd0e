/- Decode of the reference. -/
import Derived.Test.YtckdbkbecelgcaaDoorFrameWalk5
namespace Go.Proofs.YtckdbkbecelgcaaDoor
open Go.RowKit

/-- what the reference hands back -/
def gv (g : Fr.Got) : Value := .agg #[.int .i64 g.f.t, .int .i64 g.f.j, .string g.f.d, .int .i64 (g.len : Int), .int .i64 g.err]


set_option maxRecDepth 100000 in
set_option maxHeartbeats 2000000 in
theorem refdec_walk (s : ByteArray) (w : World) (hS : s.size < 4611686018427387904) :
    Calls Tryd.prog 50 #[.string s] w fun e w' => e = .returned (gv (Fr.dec s)) ∧ Below w.heap.size w w' := by
  generalize hR : Fr.dec s = R
  have HR := Lib.hid hR
  clear hR
  by_cases h0 : s.size = 0
  · have hD := Lib.hid (Fr.dec_0 s h0)
    go_enter Tryd.func50, Tryd.ntmps50
    go_wp2
    ((try simp only [Exit.inBlock, Exit.then]); refine bodyPost_ret (v := (gv (Fr.none_ 3))) ?_ rfl ⟨?_, ?_⟩; (rw [results_cell1 rfl]; go_simp))
    · rfl
    · rw [← HR.out, hD.out]
    · exact (Below.refl _ _).alloc (Nat.le_refl _) _
  · have hlen : ¬ ((s.size : Int) ≤ 0) := by omega
    have hlen' : 0 < s.size := by omega
    have hne : ((s.size : Int) == 0) = false := by simpa using h0
    have hg := getD_idx s 0 hlen'
    have hb0 : wrap64 (s[0].toNat : Int) = s[0].toNat := by
      have := s[0].toNat_lt
      unfold wrap64; omega
    cases hm : Fr.mayT ((s.data.toList.getD 0 0).toNat : Int) with
    | false =>
      have hD := Lib.hid (Fr.dec_t s h0 hm)
      have hM := Lib.hid hm
      rw [hg] at hM
      clear hm hg
      go_enter Tryd.func50, Tryd.ntmps50
      go_wp2_with fail
      refine (reftype_walk (s[0].toNat : Int) _).mono ?_
      rw [hM.out]
      rintro e w1 ⟨rfl, rfl⟩
      go_wp2
      ((try simp only [Exit.inBlock, Exit.then]); refine bodyPost_ret (v := (gv (Fr.none_ 35))) ?_ rfl ⟨?_, ?_⟩; (rw [results_cell1 rfl]; go_simp))
      · rfl
      · rw [← HR.out, hD.out]
      · exact (Below.refl _ _).alloc (Nat.le_refl _) _
    | true =>
      have hM := Lib.hid hm
      rw [hg] at hM
      by_cases h9 : s.size < 9
      · have hD := Lib.hid (Fr.dec_9 s h0 hm h9)
        have h9' : (s.size : Int) < 9 := by omega
        clear hm hg h9
        go_enter Tryd.func50, Tryd.ntmps50
        go_wp2_with fail
        refine (reftype_walk (s[0].toNat : Int) _).mono ?_
        rw [hM.out]
        rintro e w1 ⟨rfl, rfl⟩
        go_wp2
        ((try simp only [Exit.inBlock, Exit.then]); refine bodyPost_ret (v := (gv (Fr.none_ 3))) ?_ rfl ⟨?_, ?_⟩; (rw [results_cell1 rfl]; go_simp))
        · rfl
        · rw [← HR.out, hD.out]
        · exact (Below.refl _ _).alloc (Nat.le_refl _) _
      · have h9' : ¬ (s.size : Int) < 9 := by omega
        have N1 := Lib.hid (fun w => refnumber_walk (s.extract 1 5) w (by rw [ByteArray.size_extract]; omega))
        have N5 := Lib.hid (fun w => refnumber_walk (s.extract 5 9) w (by rw [ByteArray.size_extract]; omega))
        rw [Fr.num4_ext s 1 5 (by omega)] at N1
        rw [Fr.num4_ext s 5 9 (by omega)] at N5
        have hn1 := Fr.num4_lt (s.data.toList.drop 1)
        have hn5 := Fr.num4_lt (s.data.toList.drop 5)
        have hwn : wrap64 (9 + (Fr.num4 (s.data.toList.drop 5) : Int)) = 9 + (Fr.num4 (s.data.toList.drop 5) : Int) := by unfold wrap64; omega
        have hz1 : ((5 : Int) ≤ (s.size : Int)) := by omega
        have hz5 : ((9 : Int) ≤ (s.size : Int)) := by omega
        by_cases hl : 65536 < Fr.num4 (s.data.toList.drop 5)
        · have hD := Lib.hid (Fr.dec_l s hm h9 hl)
          clear hm hg h9
          generalize Fr.num4 (s.data.toList.drop 1) = j at *
          generalize Fr.num4 (s.data.toList.drop 5) = n at *
          have hl' : (65536 : Int) < (n : Int) := by omega
          go_enter Tryd.func50, Tryd.ntmps50
          go_wp2_with fail
          refine (reftype_walk (s[0].toNat : Int) _).mono ?_
          rw [hM.out]
          rintro e w1 ⟨rfl, rfl⟩
          go_wp2_with fail
          refine (N5.out _).mono ?_
          rintro e w2 ⟨rfl, hb⟩
          have R0 := Has.below (Has.new w _ _) hb (by simp)
          have Hbw := Lib.hid (((Below.refl w.heap.size w).alloc (Nat.le_refl _) _).trans (hb.mono (by simp)))
          have HR0 := Lib.hid R0
          have r0 := R0.cell 0; have r1 := R0.cell 1; have r2 := R0.cell 2; have r3 := R0.cell 3; have r4 := R0.cell 4
          have f0 := R0.free 0; have f1 := R0.free 1; have f2 := R0.free 2; have f3 := R0.free 3; have f4 := R0.free 4
          simp only [List.getElem?_toArray, List.getElem?_cons_zero, List.getElem?_cons_succ] at r0 r1 r2 r3 r4
          clear hb R0
          go_wp2
          ((try simp only [Exit.inBlock, Exit.then]); refine bodyPost_ret (v := (gv (Fr.none_ 2))) ?_ rfl ⟨?_, ?_⟩; (rw [results_cell1 rfl]; go_simp))
          · rfl
          · rw [← HR.out, hD.out]
          · (repeat (first | (with_reducible exact Hbw.out) | refine Below.setCell ?_ (by first | exact Nat.le_refl _ | exact Nat.le_succ _) _))
        · by_cases hs : s.size < 9 + Fr.num4 (s.data.toList.drop 5)
          · have hD := Lib.hid (Fr.dec_s s hm h9 hl hs)
            clear hm hg h9
            generalize Fr.num4 (s.data.toList.drop 1) = j at *
            generalize Fr.num4 (s.data.toList.drop 5) = n at *
            have hl' : ¬ (65536 : Int) < (n : Int) := by omega
            have hs' : (s.size : Int) < 9 + (n : Int) := by omega
            go_enter Tryd.func50, Tryd.ntmps50
            go_wp2_with fail
            refine (reftype_walk (s[0].toNat : Int) _).mono ?_
            rw [hM.out]
            rintro e w1 ⟨rfl, rfl⟩
            go_wp2_with fail
            refine (N5.out _).mono ?_
            rintro e w2 ⟨rfl, hb⟩
            have R0 := Has.below (Has.new w _ _) hb (by simp)
            have Hbw := Lib.hid (((Below.refl w.heap.size w).alloc (Nat.le_refl _) _).trans (hb.mono (by simp)))
            have HR0 := Lib.hid R0
            have r0 := R0.cell 0; have r1 := R0.cell 1; have r2 := R0.cell 2; have r3 := R0.cell 3; have r4 := R0.cell 4
            have f0 := R0.free 0; have f1 := R0.free 1; have f2 := R0.free 2; have f3 := R0.free 3; have f4 := R0.free 4
            simp only [List.getElem?_toArray, List.getElem?_cons_zero, List.getElem?_cons_succ] at r0 r1 r2 r3 r4
            clear hb R0
            go_wp2
            ((try simp only [Exit.inBlock, Exit.then]); refine bodyPost_ret (v := (gv (Fr.none_ 3))) ?_ rfl ⟨?_, ?_⟩; (rw [results_cell1 rfl]; go_simp))
            · rfl
            · rw [← HR.out, hD.out]
            · (repeat (first | (with_reducible exact Hbw.out) | refine Below.setCell ?_ (by first | exact Nat.le_refl _ | exact Nat.le_succ _) _))
          · have hD := Lib.hid (Fr.dec_y s hm h9 hl hs)
            rw [hg] at hD
            clear hm hg h9
            generalize Fr.num4 (s.data.toList.drop 1) = j at *
            generalize Fr.num4 (s.data.toList.drop 5) = n at *
            have hl' : ¬ (65536 : Int) < (n : Int) := by omega
            have hs' : ¬ ((s.size : Int) < 9 + (n : Int)) := by omega
            obtain ⟨m, hmn⟩ : ∃ m, m = 9 + n := ⟨_, rfl⟩
            rw [← hmn] at hD
            have Hmn := Lib.hid hmn
            have hsl := run_slice_str Tryd.underlying9 s 9 m 9 (9 + (n : Int)) rfl (by omega) (by omega) (by omega)
            clear hs hmn
            go_enter Tryd.func50, Tryd.ntmps50
            go_wp2_with fail
            refine (reftype_walk (s[0].toNat : Int) _).mono ?_
            rw [hM.out]
            rintro e w1 ⟨rfl, rfl⟩
            go_wp2_with fail
            refine (N5.out _).mono ?_
            rintro e w2 ⟨rfl, hb⟩
            have R0 := Has.below (Has.new w _ _) hb (by simp)
            have Hbw := Lib.hid (((Below.refl w.heap.size w).alloc (Nat.le_refl _) _).trans (hb.mono (by simp)))
            have HR0 := Lib.hid R0
            have r0 := R0.cell 0; have r1 := R0.cell 1; have r2 := R0.cell 2; have r3 := R0.cell 3; have r4 := R0.cell 4
            have f0 := R0.free 0; have f1 := R0.free 1; have f2 := R0.free 2; have f3 := R0.free 3; have f4 := R0.free 4
            simp only [List.getElem?_toArray, List.getElem?_cons_zero, List.getElem?_cons_succ] at r0 r1 r2 r3 r4
            clear hb R0
            go_wp2_with fail
            refine region_later 14 (by kernel_rfl) (by kernel_rfl) ?_
            simp only [List.take_succ_cons, List.take_zero, List.drop_succ_cons, List.drop_zero]
            have H1 := Lib.hid (fun x : Later w2 => later_call (x := x) (N1.out x.at))
            repeat (go_big_quiet_step (with_reducible exact H1.out _))
            refine wpQuiet_nil ?_
            rintro w' ⟨x, rfl⟩
            have R1 := HR0.out.below x.below HR0.out.lt
            have Hbw2 := Lib.hid (Hbw.out.trans (x.below.mono Hbw.out.size))
            clear H1 r0 r1 r2 r3 r4 f0 f1 f2 f3 f4
            generalize x.at = w4 at *
            have r0 := R1.cell 0; have r1 := R1.cell 1; have r2 := R1.cell 2; have r3 := R1.cell 3; have r4 := R1.cell 4
            have f0 := R1.free 0; have f1 := R1.free 1; have f2 := R1.free 2; have f3 := R1.free 3; have f4 := R1.free 4
            simp only [List.getElem?_toArray, List.getElem?_cons_zero, List.getElem?_cons_succ] at r0 r1 r2 r3 r4
            clear R1
            go_wp2
            ((try simp only [Exit.inBlock, Exit.then]); refine bodyPost_ret (v := (gv ⟨⟨(s[0].toNat : Int), (j : Int), s.extract 9 m⟩, m, 0⟩)) ?_ rfl ⟨?_, ?_⟩; (rw [results_cell1 rfl]; go_simp))
            · show _ = _
              rw [Hmn.out]
              rfl
            · rw [← HR.out, hD.out]
            · (repeat (first | (with_reducible exact Hbw2.out) | refine Below.setCell ?_ (by first | exact Nat.le_refl _ | exact Nat.le_succ _) _))
end Go.Proofs.YtckdbkbecelgcaaDoor
