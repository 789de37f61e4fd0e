/- Decode, of the program and of the reference. -/
import Derived.Test.YtckdbkbecelgcaaDoorFrameWalk1
import Derived.Test.YtckdbkbecelgcaaDoorRet
namespace Go.Proofs.YtckdbkbecelgcaaDoor
open Go.RowKit

theorem Fr.dec_0 (s : ByteArray) (h : s.size = 0) : Fr.dec s = Fr.none_ 3 := by unfold Fr.dec; rw [if_pos h]
theorem Fr.dec_t (s : ByteArray) (h : s.size ≠ 0) (hm : Fr.mayT ((s.data.toList.getD 0 0).toNat : Int) = false) : Fr.dec s = Fr.none_ 35 := by unfold Fr.dec; rw [if_neg h, if_pos hm]
theorem Fr.dec_9 (s : ByteArray) (h : s.size ≠ 0) (hm : Fr.mayT ((s.data.toList.getD 0 0).toNat : Int) = true) (h9 : s.size < 9) : Fr.dec s = Fr.none_ 3 := by
  unfold Fr.dec; rw [if_neg h, if_neg (by rw [hm]; decide), if_pos h9]
theorem Fr.dec_l (s : ByteArray) (hm : Fr.mayT ((s.data.toList.getD 0 0).toNat : Int) = true) (h9 : ¬ s.size < 9) (hn : 65536 < Fr.num4 (s.data.toList.drop 5)) : Fr.dec s = Fr.none_ 2 := by
  unfold Fr.dec; rw [if_neg (by omega), if_neg (by rw [hm]; decide), if_neg h9, if_pos hn]
theorem Fr.dec_s (s : ByteArray) (hm : Fr.mayT ((s.data.toList.getD 0 0).toNat : Int) = true) (h9 : ¬ s.size < 9) (hn : ¬ 65536 < Fr.num4 (s.data.toList.drop 5)) (hs : s.size < 9 + Fr.num4 (s.data.toList.drop 5)) : Fr.dec s = Fr.none_ 3 := by
  unfold Fr.dec; rw [if_neg (by omega), if_neg (by rw [hm]; decide), if_neg h9, if_neg hn, if_pos hs]
theorem Fr.dec_y (s : ByteArray) (hm : Fr.mayT ((s.data.toList.getD 0 0).toNat : Int) = true) (h9 : ¬ s.size < 9) (hn : ¬ 65536 < Fr.num4 (s.data.toList.drop 5)) (hs : ¬ s.size < 9 + Fr.num4 (s.data.toList.drop 5)) :
    Fr.dec s = ⟨⟨((s.data.toList.getD 0 0).toNat : Int), (Fr.num4 (s.data.toList.drop 1) : Int), s.extract 9 (9 + Fr.num4 (s.data.toList.drop 5))⟩, 9 + Fr.num4 (s.data.toList.drop 5), 0⟩ := by
  unfold Fr.dec; rw [if_neg (by omega), if_neg (by rw [hm]; decide), if_neg h9, if_neg hn, if_neg hs]
theorem Fr.num4_ext (s : ByteArray) (a b : Nat) (h : a + 4 ≤ b) : Fr.num4 (s.extract a b).data.toList = Fr.num4 (s.data.toList.drop a) := by
  have : ∀ i, i < 4 → (s.extract a b).data.toList.getD i 0 = (s.data.toList.drop a).getD i 0 := fun i hi => by
    rw [ByteArray.data_extract, Array.toList_extract, List.extract_eq_take_drop]
    simp only [List.getD_eq_getElem?_getD]
    rw [List.getElem?_take_of_lt (by omega)]
  unfold Fr.num4
  rw [this 0 (by omega), this 1 (by omega), this 2 (by omega), this 3 (by omega)]

theorem empty_of (s : ByteArray) : s.toList.isEmpty = decide (s.size = 0) := by
  rw [ByteArray.toList_eq, Bool.eq_iff_iff, decide_eq_true_eq, List.isEmpty_iff, ← Fr.size_list]
  exact ⟨fun h => by rw [h]; rfl, fun h => List.eq_nil_of_length_eq_zero h⟩

theorem below_alloc2 (w : World) (a b : Obj) : Below w.heap.size w ((w.alloc a).alloc b) := ((Below.refl _ _).alloc (Nat.le_refl _) a).alloc (by simp) b

theorem dec_rows {w w1 : World} {x : Int} (hb : Below ((w.alloc (.cells #[Value.int .i64 0, Value.int .i64 0, Value.string ⟨#[]⟩] 23)).alloc (.cells #[Value.int .i64 x, Value.int .i64 0, Value.string ⟨#[]⟩] 23)).heap.size ((w.alloc (.cells #[Value.int .i64 0, Value.int .i64 0, Value.string ⟨#[]⟩] 23)).alloc (.cells #[Value.int .i64 x, Value.int .i64 0, Value.string ⟨#[]⟩] 23)) w1) :
    Has w1 w.heap.size #[Value.int .i64 0, Value.int .i64 0, Value.string ⟨#[]⟩] 23 ∧ Has w1 (w.heap.size + 1) #[Value.int .i64 x, Value.int .i64 0, Value.string ⟨#[]⟩] 23 ∧ Below w.heap.size w w1 ∧ w.heap.size + 2 ≤ w1.heap.size := by
  have h1 := (Has.new w #[Value.int .i64 0, Value.int .i64 0, Value.string ⟨#[]⟩] 23).alloc (.cells #[Value.int .i64 x, Value.int .i64 0, Value.string ⟨#[]⟩] 23)
  have h2 := Has.new (w.alloc (.cells #[Value.int .i64 0, Value.int .i64 0, Value.string ⟨#[]⟩] 23)) #[Value.int .i64 x, Value.int .i64 0, Value.string ⟨#[]⟩] 23
  rw [World.size_alloc] at h2
  have hs := hb.size
  rw [World.size_alloc, World.size_alloc] at hs
  refine ⟨h1.below hb h1.lt, h2.below hb h2.lt, (below_alloc2 w _ _).trans (hb.mono (by rw [World.size_alloc, World.size_alloc]; omega)), hs⟩

set_option maxRecDepth 100000 in
set_option maxHeartbeats 2000000 in
theorem xdec_walk (s : ByteArray) (w : World) (hS : s.size < 4611686018427387904) :
    Calls Tryd.prog 49 #[.string s] w fun e w' => e = .returned (.tuple #[fv (Fr.dec s).f, .int .i64 (Fr.dec s).len, .int .i64 (Fr.dec s).err]) ∧ Below w.heap.size w w' := by
  generalize hR : Fr.dec s = R
  have HR := Lib.hid hR
  clear hR
  have he := empty_of s
  by_cases h0 : s.size = 0
  · have hD := Lib.hid (Fr.dec_0 s h0)
    rw [h0] at he
    have hq : s.toList.isEmpty = true := he
    clear he h0
    go_enter Tryd.func49, Tryd.ntmps49
    go_wp2
    ((try simp only [Exit.inBlock, Exit.then]); refine bodyPost_ret (v := (.tuple #[fv (Fr.none_ 3).f, .int .i64 ((Fr.none_ 3).len : Nat), .int .i64 (Fr.none_ 3).err])) ?_ rfl ⟨?_, ?_⟩; (rw [results_cell_tmp2 rfl]; go_simp))
    · exact ⟨rfl, rfl, rfl⟩
    · rw [← HR.out, hD.out]
    · exact (Below.refl _ _).alloc (Nat.le_refl _) _
  · have hq : s.toList.isEmpty = false := by rw [he, decide_eq_false h0]
    clear he
    have hlen : ¬ ((s.size : Int) ≤ 0) := by omega
    have hlen' : 0 < s.size := by omega
    have hg := getD_idx s 0 hlen'
    have hb0 : wrap64 (s[0].toNat : Int) = s[0].toNat := by
      have := s[0].toNat_lt
      unfold wrap64; omega
    have hb0 : wrap64 (s[0].toNat : Int) = s[0].toNat := by
      have := s[0].toNat_lt
      unfold wrap64; omega
    cases hm : Fr.mayT ((s.data.toList.getD 0 0).toNat : Int) with
    | false =>
      have hD := Lib.hid (Fr.dec_t s h0 hm)
      have hM := Lib.hid hm
      rw [hg] at hM
      clear hm hg
      go_enter Tryd.func49, Tryd.ntmps49
      go_wp2_with fail
      refine (may_walk (s[0].toNat : Int) 0 ⟨#[]⟩ _).mono ?_
      rw [hM.out]
      rintro e w1 ⟨rfl, hb⟩
      obtain ⟨R0, R1, hbw, hs2⟩ := dec_rows hb
      have Hbw := Lib.hid hbw
      have r0 := R0.cell 0; have r1 := R0.cell 1; have r2 := R0.cell 2
      have f0 := R0.free 0; have f1 := R0.free 1; have f2 := R0.free 2
      have q0 := R1.cell 0; have q1 := R1.cell 1; have q2 := R1.cell 2
      have g0 := R1.free 0; have g1 := R1.free 1; have g2 := R1.free 2
      simp only [List.getElem?_toArray, List.getElem?_cons_zero, List.getElem?_cons_succ] at r0 r1 r2 q0 q1 q2
      clear hb R0 R1 hbw hs2
      go_wp2
      ((try simp only [Exit.inBlock, Exit.then]); refine bodyPost_ret (v := (.tuple #[fv (Fr.none_ 35).f, .int .i64 ((Fr.none_ 35).len : Nat), .int .i64 (Fr.none_ 35).err])) ?_ rfl ⟨?_, ?_⟩; (rw [results_cell_tmp2 rfl]; go_simp))
      · exact ⟨rfl, rfl, rfl⟩
      · rw [← HR.out, hD.out]
      · (repeat (first | (with_reducible exact Hbw.out) | refine Below.setCell ?_ (by first | exact Nat.le_refl _ | exact Nat.le_succ _) _))
    | true =>
      have hM := Lib.hid hm
      rw [hg] at hM
      by_cases h9 : s.size < 9
      · have hD := Lib.hid (Fr.dec_9 s h0 hm h9)
        have h9' : (s.size : Int) < 9 := by omega
        clear hm hg h9
        go_enter Tryd.func49, Tryd.ntmps49
        go_wp2_with fail
        refine (may_walk (s[0].toNat : Int) 0 ⟨#[]⟩ _).mono ?_
        rw [hM.out]
        rintro e w1 ⟨rfl, hb⟩
        obtain ⟨R0, R1, hbw, hs2⟩ := dec_rows hb
        have Hbw := Lib.hid hbw
        have r0 := R0.cell 0; have r1 := R0.cell 1; have r2 := R0.cell 2
        have f0 := R0.free 0; have f1 := R0.free 1; have f2 := R0.free 2
        have q0 := R1.cell 0; have q1 := R1.cell 1; have q2 := R1.cell 2
        have g0 := R1.free 0; have g1 := R1.free 1; have g2 := R1.free 2
        simp only [List.getElem?_toArray, List.getElem?_cons_zero, List.getElem?_cons_succ] at r0 r1 r2 q0 q1 q2
        clear hb R0 R1 hbw hs2
        go_wp2
        ((try simp only [Exit.inBlock, Exit.then]); refine bodyPost_ret (v := (.tuple #[fv (Fr.none_ 3).f, .int .i64 ((Fr.none_ 3).len : Nat), .int .i64 (Fr.none_ 3).err])) ?_ rfl ⟨?_, ?_⟩; (rw [results_cell_tmp2 rfl]; go_simp))
        · exact ⟨rfl, rfl, rfl⟩
        · rw [← HR.out, hD.out]
        · (repeat (first | (with_reducible exact Hbw.out) | refine Below.setCell ?_ (by first | exact Nat.le_refl _ | exact Nat.le_succ _) _))
      · have h9' : ¬ (s.size : Int) < 9 := by omega
        have N1 := Lib.hid (fun w => number_walk (s.extract 1 s.size) w (by rw [ByteArray.size_extract]; omega))
        have N5 := Lib.hid (fun w => number_walk (s.extract 5 s.size) w (by rw [ByteArray.size_extract]; omega))
        rw [Fr.num4_ext s 1 s.size (by omega)] at N1
        rw [Fr.num4_ext s 5 s.size (by omega)] at N5
        have hn1 := Fr.num4_lt (s.data.toList.drop 1)
        have hn5 := Fr.num4_lt (s.data.toList.drop 5)
        have hw9 : 9 ≤ s.size → wrap64 ((s.size : Int) - 9) = (s.size : Int) - 9 := fun h => by unfold wrap64; omega
        replace hw9 := hw9 (by omega)
        have hwn : wrap64 (9 + (Fr.num4 (s.data.toList.drop 5) : Int)) = 9 + (Fr.num4 (s.data.toList.drop 5) : Int) := by unfold wrap64; omega
        have hz1 : ((1 : Int) ≤ (s.size : Int)) := by omega
        have hz5 : ((5 : Int) ≤ (s.size : Int)) := by omega
        by_cases hl : 65536 < Fr.num4 (s.data.toList.drop 5)
        · have hD := Lib.hid (Fr.dec_l s hm h9 hl)
          clear hm hg h9
          generalize Fr.num4 (s.data.toList.drop 1) = j at *
          generalize Fr.num4 (s.data.toList.drop 5) = n at *
          have hl' : (65536 : Int) < (n : Int) := by omega
          go_enter Tryd.func49, Tryd.ntmps49
          go_wp2_with fail
          refine (may_walk (s[0].toNat : Int) 0 ⟨#[]⟩ _).mono ?_
          rw [hM.out]
          rintro e w1 ⟨rfl, hb⟩
          obtain ⟨R0, R1, hbw, hs2⟩ := dec_rows hb
          have Hbw := Lib.hid hbw
          have r0 := R0.cell 0; have r1 := R0.cell 1; have r2 := R0.cell 2
          have f0 := R0.free 0; have f1 := R0.free 1; have f2 := R0.free 2
          have q0 := R1.cell 0; have q1 := R1.cell 1; have q2 := R1.cell 2
          have g0 := R1.free 0; have g1 := R1.free 1; have g2 := R1.free 2
          simp only [List.getElem?_toArray, List.getElem?_cons_zero, List.getElem?_cons_succ] at r0 r1 r2 q0 q1 q2
          clear hb R0 R1 hbw hs2
          go_wp2_with fail
          refine (N1.out _).mono ?_
          rintro e w2 ⟨rfl, rfl⟩
          go_wp2_with fail
          refine (N5.out _).mono ?_
          rintro e w2 ⟨rfl, rfl⟩
          go_wp2
          ((try simp only [Exit.inBlock, Exit.then]); refine bodyPost_ret (v := (.tuple #[fv (Fr.none_ 2).f, .int .i64 ((Fr.none_ 2).len : Nat), .int .i64 (Fr.none_ 2).err])) ?_ rfl ⟨?_, ?_⟩; (rw [results_cell_tmp2 rfl]; go_simp))
          · exact ⟨rfl, rfl, rfl⟩
          · rw [← HR.out, hD.out]
          · (repeat (first | (with_reducible exact Hbw.out) | refine Below.setCell ?_ (by first | exact Nat.le_refl _ | exact Nat.le_succ _) _))
        · by_cases hs : s.size < 9 + Fr.num4 (s.data.toList.drop 5)
          · have hD := Lib.hid (Fr.dec_s s hm h9 hl hs)
            clear hm hg h9
            generalize Fr.num4 (s.data.toList.drop 1) = j at *
            generalize Fr.num4 (s.data.toList.drop 5) = n at *
            have hl' : ¬ (65536 : Int) < (n : Int) := by omega
            have hs' : (s.size : Int) - 9 < (n : Int) := by omega
            go_enter Tryd.func49, Tryd.ntmps49
            go_wp2_with fail
            refine (may_walk (s[0].toNat : Int) 0 ⟨#[]⟩ _).mono ?_
            rw [hM.out]
            rintro e w1 ⟨rfl, hb⟩
            obtain ⟨R0, R1, hbw, hs2⟩ := dec_rows hb
            have Hbw := Lib.hid hbw
            have r0 := R0.cell 0; have r1 := R0.cell 1; have r2 := R0.cell 2
            have f0 := R0.free 0; have f1 := R0.free 1; have f2 := R0.free 2
            have q0 := R1.cell 0; have q1 := R1.cell 1; have q2 := R1.cell 2
            have g0 := R1.free 0; have g1 := R1.free 1; have g2 := R1.free 2
            simp only [List.getElem?_toArray, List.getElem?_cons_zero, List.getElem?_cons_succ] at r0 r1 r2 q0 q1 q2
            clear hb R0 R1 hbw hs2
            go_wp2_with fail
            refine (N1.out _).mono ?_
            rintro e w2 ⟨rfl, rfl⟩
            go_wp2_with fail
            refine (N5.out _).mono ?_
            rintro e w2 ⟨rfl, rfl⟩
            go_wp2
            ((try simp only [Exit.inBlock, Exit.then]); refine bodyPost_ret (v := (.tuple #[fv (Fr.none_ 3).f, .int .i64 ((Fr.none_ 3).len : Nat), .int .i64 (Fr.none_ 3).err])) ?_ rfl ⟨?_, ?_⟩; (rw [results_cell_tmp2 rfl]; go_simp))
            · exact ⟨rfl, rfl, rfl⟩
            · rw [← HR.out, hD.out]
            · (repeat (first | (with_reducible exact Hbw.out) | refine Below.setCell ?_ (by first | exact Nat.le_refl _ | exact Nat.le_succ _) _))
          · have hD := Lib.hid (Fr.dec_y s hm h9 hl hs)
            rw [hg] at hD
            clear hm hg h9
            generalize Fr.num4 (s.data.toList.drop 1) = j at *
            generalize Fr.num4 (s.data.toList.drop 5) = n at *
            have hl' : ¬ (65536 : Int) < (n : Int) := by omega
            have hs' : ¬ ((s.size : Int) - 9 < (n : Int)) := by omega
            obtain ⟨m, hmn⟩ : ∃ m, m = 9 + n := ⟨_, rfl⟩
            rw [← hmn] at hD
            have hmn' : ((9 : Int) + (n : Int)).toNat = m := by omega
            have hp0 : (0 : Int) ≤ 9 + (n : Int) := by omega
            have hp1 : (9 : Int) + (n : Int) ≤ (s.size : Int) := by omega
            have Hmn := Lib.hid hmn
            have hm9 : (9 : Int) ≤ (m : Int) := by omega
            have hms : (m : Int) ≤ (s.size : Int) := by omega
            have hm9' : 9 ≤ m := by omega
            have hms' : m ≤ s.size := by omega
            have hsl := run_slice_str Tryd.underlying9 s 9 m 9 (9 + (n : Int)) rfl (by omega) (by omega) (by omega)
            clear hs hmn hmn' hp0 hp1
            go_enter Tryd.func49, Tryd.ntmps49
            go_wp2_with fail
            refine (may_walk (s[0].toNat : Int) 0 ⟨#[]⟩ _).mono ?_
            rw [hM.out]
            rintro e w1 ⟨rfl, hb⟩
            obtain ⟨R0, R1, hbw, hs2⟩ := dec_rows hb
            have Hbw := Lib.hid hbw
            have r0 := R0.cell 0; have r1 := R0.cell 1; have r2 := R0.cell 2
            have f0 := R0.free 0; have f1 := R0.free 1; have f2 := R0.free 2
            have q0 := R1.cell 0; have q1 := R1.cell 1; have q2 := R1.cell 2
            have g0 := R1.free 0; have g1 := R1.free 1; have g2 := R1.free 2
            simp only [List.getElem?_toArray, List.getElem?_cons_zero, List.getElem?_cons_succ] at r0 r1 r2 q0 q1 q2
            clear hb R0 R1 hbw hs2
            go_wp2_with fail
            refine (N1.out _).mono ?_
            rintro e w2 ⟨rfl, rfl⟩
            go_wp2_with fail
            refine (N5.out _).mono ?_
            rintro e w2 ⟨rfl, rfl⟩
            go_wp2
            ((try simp only [Exit.inBlock, Exit.then]); refine bodyPost_ret (v := (.tuple #[fv (Fr.Frm.mk (s[0].toNat : Int) (j : Int) (s.extract 9 m)), .int .i64 (m : Int), .int .i64 0])) ?_ rfl ⟨?_, ?_⟩; (rw [results_cell_tmp2 rfl]; go_simp))
            · exact ⟨rfl, by rw [Hmn.out]; omega⟩
            · rw [← HR.out, hD.out]
            · (repeat (first | (with_reducible exact Hbw.out) | refine Below.setCell ?_ (by first | exact Nat.le_refl _ | exact Nat.le_succ _) _))
end Go.Proofs.YtckdbkbecelgcaaDoor
