/- All of the reference. -/
import Derived.Test.YtckdbkbecelgcaaDoorFrameAll1
import Derived.Test.YtckdbkbecelgcaaDoorFrameWalk6
namespace Go.Proofs.YtckdbkbecelgcaaDoor
open Go.RowKit

/-- what a row of frames holds, at two blocks -/
structure AllAt (w wr : World) (v : Value) (p : Nat) (fs : List Fr.Frm) : Prop where
  r0 : Has wr w.heap.size #[.slice none 0 0, .int .i64 0, .int .i64 0] 89
  r1 : Has wr (w.heap.size + 1) #[v, .int .i64 (p : Int), .int .i64 0] 89
  own : wr.ownsRow (w.heap.size + 2) 23 3 v fs.length (fs.flatMap fcells)
  below : Below w.heap.size w wr
theorem AllAt.keep {w wr w' : World} {v : Value} {p : Nat} {fs : List Fr.Frm} (h : AllAt w wr v p fs) (hb : Below wr.heap.size wr w') : AllAt w w' v p fs :=
  ⟨h.r0.below hb h.r0.lt, h.r1.below hb h.r1.lt, ownsRow_keep h.own hb, h.below.trans (hb.mono h.below.size)⟩

set_option maxRecDepth 100000 in
set_option maxHeartbeats 2000000 in
theorem refall_walk (s : ByteArray) (w : World) (hS : s.size ≤ 1000) :
    Calls Tryd.prog 39 #[.string s] w fun e w' => ∃ v, e = .returned (.agg #[v, .int .i64 ((Fr.run s s.size 0 []).2.1 : Nat), .int .i64 (Fr.run s s.size 0 []).2.2]) ∧
      w'.ownsRow w.heap.size 23 3 v (Fr.run s s.size 0 []).1.length ((Fr.run s s.size 0 []).1.flatMap fcells) ∧ Below w.heap.size w w' := by
  generalize hR : Fr.run s s.size 0 [] = R
  have HR := Lib.hid hR
  clear hR
  have HS := Lib.hid hS
  go_enter Tryd.func39, Tryd.ntmps39
  go_wp2_with fail
  go_loopw [8] (fun i wr => ∃ (k p : Nat) (fs : List Fr.Frm) (v : Value), i = .int .i64 k ∧ k ≤ s.size ∧ k ≤ p ∧ p ≤ s.size ∧ Fr.run s (s.size - k) p fs = R ∧ fs.length ≤ p ∧ AllAt w wr v p fs) (fun i _ => s.size - (intOf i).toNat)
  case atStart =>
    refine ⟨0, 0, [], .slice none 0 0, rfl, Nat.zero_le _, Nat.zero_le _, Nat.zero_le _, HR.out, Nat.le_refl _, ?_, ?_, World.ownsRow_nil _ _ _ _, below_alloc2 w _ _⟩
    · exact (Has.new w _ _).alloc _
    · have := Has.new (w.alloc (.cells #[.slice none 0 0, .int .i64 0, .int .i64 0] 89)) #[.slice none 0 0, .int .i64 0, .int .i64 0] 89
      rw [World.size_alloc] at this
      exact this
  case round =>
    obtain ⟨k, p, fs, v, rfl, hk, hkp, hp, hrun, hfp, hat⟩ := hrel
    obtain ⟨va, vc, rfl, _, _⟩ := rowS_owns hat.own
    have HA := Lib.hid hat
    have hsz := hat.r1.lt
    have c0 := hat.r1.cell 0; have c1 := hat.r1.cell 1; have c2 := hat.r1.cell 2
    have f0 := hat.r1.free 0; have f1 := hat.r1.free 1; have f2 := hat.r1.free 2
    have d0 := hat.r0.cell 0; have d1 := hat.r0.cell 1; have d2 := hat.r0.cell 2
    have g0 := hat.r0.free 0; have g1 := hat.r0.free 1; have g2 := hat.r0.free 2
    simp only [List.getElem?_toArray, List.getElem?_cons_zero, List.getElem?_cons_succ] at c0 c1 c2 d0 d1 d2
    have Hrun := Lib.hid hrun
    clear hat hrun
    by_cases hlt : p < s.size
    · have hk1 : k < s.size := by omega
      have hk2 : (k : Int) < (s.size : Int) := by omega
      have hpe : ((p : Int) == (s.size : Int)) = false := by
        apply Bool.eq_false_iff.2
        intro h
        have := eq_of_beq h
        omega
      have HD := Lib.hid (fun w => refdec_walk (s.extract p s.size) w (by rw [ByteArray.size_extract]; omega))
      have hsl := run_slice_from Tryd.underlying9 s p (p : Int) rfl (by omega)
      obtain ⟨n, hn⟩ : ∃ n', s.size - k = n' + 1 := ⟨s.size - k - 1, by omega⟩
      have hst := Fr.run_step s n p fs hlt
      have hsp := Fr.run_stop s n p fs hlt
      have hdl := Fr.dec_len s p hlt
      rw [hn] at Hrun
      generalize hg : Fr.dec (s.extract p s.size) = g at *
      obtain ⟨⟨t, j, d⟩, len, er⟩ := g
      simp only [gv] at HD hst hsp hdl
      clear hg
      by_cases he : er = 0
      · obtain ⟨hl9, hle⟩ := hdl he
        have Hst := Lib.hid (hst he)
        subst he
        clear hst hsp hdl
        go_wp2_with fail
        refine (HD.out _).mono ?_
        rintro e w1 ⟨rfl, hb1⟩
        have HA1 := Lib.hid (HA.out.keep hb1)
        have hlt1 : w.heap.size + 1 < w1.heap.size := Nat.lt_of_lt_of_le hsz hb1.size
        have hlt0 : w.heap.size < w1.heap.size := by omega
        clear hb1 c0 c1 c2 d0 d1 d2 f0 f1 f2 g0 g1 g2
        have c0 := HA1.out.r1.cell 0; have c1 := HA1.out.r1.cell 1; have c2 := HA1.out.r1.cell 2
        have f0 := HA1.out.r1.free 0; have f1 := HA1.out.r1.free 1; have f2 := HA1.out.r1.free 2
        simp only [List.getElem?_toArray, List.getElem?_cons_zero, List.getElem?_cons_succ] at c0 c1 c2
        have hown1 := (HA1.out.own).alloc (.cells #[Value.int .i64 t, Value.int .i64 j, Value.string d, .int .i64 (len : Int), .int .i64 0] 103)
        have Hown1 := Lib.hid hown1
        clear hown1
        have HB1 := Lib.hid (show w.heap.size + 2 ≤ (w1.alloc (.cells #[Value.int .i64 t, Value.int .i64 j, Value.string d, .int .i64 (len : Int), .int .i64 0] 103)).heap.size by simp; omega)
        go_wp2_with (at_builtin; refine appendS Tryd.underlying85 info_frame rfl (by decide) rfl _ _ rfl (w.heap.size + 2) fs.length _ _ rfl Hown1.out #[Value.int .i64 t, Value.int .i64 j, Value.string d] rfl (by intro u hu; simp at hu; rcases hu with rfl | rfl | rfl <;> rfl) _ rfl (by simp) (by unfold maxLen; have := HS.out; omega) (by have := HS.out; omega) HB1.out ?_)
        intro g cap' w3 ho hc hb3 _ _ _
        have q1 := (HA1.out.r1.alloc (.cells #[Value.int .i64 t, Value.int .i64 j, Value.string d, .int .i64 (len : Int), .int .i64 0] 103)).below hb3 (Nat.lt_succ_self _)
        have q0 := (HA1.out.r0.alloc (.cells #[Value.int .i64 t, Value.int .i64 j, Value.string d, .int .i64 (len : Int), .int .i64 0] 103)).below hb3 (Nat.lt_add_of_pos_right (by decide))
        have q4 := (Has.new w1 #[Value.int .i64 t, Value.int .i64 j, Value.string d, .int .i64 (len : Int), .int .i64 0] 103).chg hc (own_not HA1.out.own (.inr (Nat.le_refl _)))
        have hbw := HA1.out.below.trans ((((Below.refl w1.heap.size w1).alloc (Nat.le_refl _) (.cells #[Value.int .i64 t, Value.int .i64 j, Value.string d, .int .i64 (len : Int), .int .i64 0] 103))).mono HA1.out.below.size)
        have hbw2 := hbw.trans (hb3.mono (Nat.le_add_right _ _))
        have HAt : ∀ u : Value, AllAt w ((w3.setCell ⟨w.heap.size + 1, 0, none⟩ (.slice (some ⟨g, 0, none⟩) (fs.length + 1) cap')).setCell ⟨w.heap.size + 1, 1, none⟩ (.int .i64 ((p + len : Nat) : Int))) (.slice (some ⟨g, 0, none⟩) (fs.length + 1) cap') (p + len) (fs ++ [Fr.Frm.mk t j d]) := fun _ =>
          ⟨(q0.setCell_other _ _ (by simp)).setCell_other _ _ (by simp), (q1.setCell 0 _).setCell 1 _, by
            rw [List.length_append, List.flatMap_append]
            exact own_set (own_set ho _ _ (Nat.lt_succ_self _)) _ _ (Nat.lt_succ_self _), (hbw2.setCell (p := ⟨w.heap.size + 1, 0, none⟩) (Nat.le_succ _) _).setCell (p := ⟨w.heap.size + 1, 1, none⟩) (Nat.le_succ _) _⟩
        have HAT := Lib.hid (HAt (.int .i64 0))
        rw [Int.natCast_add] at HAT
        have hrun2 := Lib.hid (Hst.out.symm.trans Hrun.out)
        clear c0 c1 c2 f0 f1 f2
        have c0 := q1.cell 0; have c1 := q1.cell 1; have c2 := q1.cell 2
        have f0 := q1.free 0; have f1 := q1.free 1; have f2 := q1.free 2
        have d3 := q4.cell 3
        simp only [List.getElem?_toArray, List.getElem?_cons_zero, List.getElem?_cons_succ] at c0 c1 c2 d3
        have hk0 : (k : Int) < 1000 := by omega
        have hpl : (p : Int) + (len : Int) ≤ 1000 := by omega
        have HF := Lib.hid (show k + 1 ≤ s.size ∧ k + 1 ≤ p + len ∧ p + len ≤ s.size ∧ s.size - (k + 1) = n ∧ fs.length + 1 ≤ p + len from by omega)
        clear hk hkp hp hfp hn HD hsl hpe hk1 hlt hk2 HB1 Hown1 hle hl9
        have hne : w.heap.size + 1 ≠ w1.heap.size := by omega
        clear HAt hbw hbw2 q0 q1 q4 ho hc hb3 Hst Hrun HA1 HA
        go_wp2_with fail
        go_roundw
        case rel =>
          obtain ⟨h1, h2, h3, h4, h5⟩ := HF.out
          exact ⟨k + 1, p + len, fs ++ [⟨t, j, d⟩], _, by go_num, h1, h2, h3, by rw [h4]; exact hrun2.out, by rw [List.length_append]; exact h5, HAT.out⟩
        case measure =>
          obtain ⟨h1, h2, h3, h4, h5⟩ := HF.out
          simp [intOf]; omega
      · have hR2 := Lib.hid ((hsp he).symm.trans Hrun.out)
        have he' : (er == 0) = false := by simpa using he
        clear hst hsp hdl Hrun
        go_wp2_with fail
        refine (HD.out _).mono ?_
        rintro e w1 ⟨rfl, hb1⟩
        have HA1 := Lib.hid (HA.out.keep hb1)
        have hlt1 : w.heap.size + 1 < w1.heap.size := Nat.lt_of_lt_of_le hsz hb1.size
        have hlt0 : w.heap.size < w1.heap.size := by omega
        clear hb1 c0 c1 c2 d0 d1 d2 f0 f1 f2 g0 g1 g2
        have c0 := HA1.out.r1.cell 0; have c1 := HA1.out.r1.cell 1; have c2 := HA1.out.r1.cell 2
        have f0 := HA1.out.r1.free 0; have f1 := HA1.out.r1.free 1; have f2 := HA1.out.r1.free 2
        have d0 := HA1.out.r0.cell 0; have d1 := HA1.out.r0.cell 1; have d2 := HA1.out.r0.cell 2
        have g0 := HA1.out.r0.free 0; have g1 := HA1.out.r0.free 1; have g2 := HA1.out.r0.free 2
        simp only [List.getElem?_toArray, List.getElem?_cons_zero, List.getElem?_cons_succ] at c0 c1 c2 d0 d1 d2
        go_wp2
        (try simp only [Exit.inBlock, Exit.then])
        refine bodyPost_ret (v := .agg #[.slice va fs.length vc, .int .i64 (p : Int), .int .i64 er]) ?_ rfl ?_
        · rw [results_cell1 rfl]
          go_simp
        · rw [← hR2.out]
          refine ⟨_, rfl, ownsRow_mono ?_ (Nat.le_add_right w.heap.size 2), ?_⟩
          · exact ((own_set (own_set (own_set (own_set HA1.out.own _ _ (Nat.lt_succ_self _)) _ _ (Nat.lt_add_of_pos_right (by decide))) _ _ (Nat.lt_add_of_pos_right (by decide))) _ _ (Nat.lt_add_of_pos_right (by decide))).alloc _)
          · exact ((((HA1.out.below.setCell (p := ⟨w.heap.size + 1, 2, none⟩) (Nat.le_succ _) _).setCell (p := ⟨w.heap.size, 0, none⟩) (Nat.le_refl _) _).setCell (p := ⟨w.heap.size, 1, none⟩) (Nat.le_refl _) _).setCell (p := ⟨w.heap.size, 2, none⟩) (Nat.le_refl _) _).alloc (by simp; omega) _
    · have hpe : p = s.size := by omega
      have hR2 := Lib.hid ((Fr.run_end s (s.size - k) p fs (by omega)).symm.trans Hrun.out)
      have hlt0 : w.heap.size < wr.heap.size := by omega
      by_cases hk1 : k < s.size
      · have hk2 : (k : Int) < (s.size : Int) := by omega
        have hpq : ((p : Int) == (s.size : Int)) = true := by rw [hpe]; simp
        clear hpe hlt
        go_wp2
        (try simp only [Exit.inBlock, Exit.then])
        refine bodyPost_ret (v := .agg #[.slice va fs.length vc, .int .i64 (p : Int), .int .i64 0]) ?_ rfl ?_
        · rw [results_cell1 rfl]
          go_simp
        · rw [← hR2.out]
          refine ⟨_, rfl, ownsRow_mono ?_ (Nat.le_add_right w.heap.size 2), ?_⟩
          · exact own_set (own_set (own_set HA.out.own _ _ (Nat.lt_add_of_pos_right (by decide))) _ _ (Nat.lt_add_of_pos_right (by decide))) _ _ (Nat.lt_add_of_pos_right (by decide))
          · exact (((HA.out.below.setCell (p := ⟨w.heap.size, 0, none⟩) (Nat.le_refl _) _).setCell (p := ⟨w.heap.size, 1, none⟩) (Nat.le_refl _) _).setCell (p := ⟨w.heap.size, 2, none⟩) (Nat.le_refl _) _)
      · have hk2 : ¬ (k : Int) < (s.size : Int) := by omega
        clear hpe hlt
        go_wp2
        (try simp only [Exit.inBlock, Exit.then])
        refine bodyPost_ret (v := .agg #[.slice va fs.length vc, .int .i64 (p : Int), .int .i64 0]) ?_ rfl ?_
        · rw [results_cell1 rfl]
          go_simp
        · rw [← hR2.out]
          refine ⟨_, rfl, ownsRow_mono ?_ (Nat.le_add_right w.heap.size 2), ?_⟩
          · exact own_set (own_set (own_set HA.out.own _ _ (Nat.lt_add_of_pos_right (by decide))) _ _ (Nat.lt_add_of_pos_right (by decide))) _ _ (Nat.lt_add_of_pos_right (by decide))
          · exact (((HA.out.below.setCell (p := ⟨w.heap.size, 0, none⟩) (Nat.le_refl _) _).setCell (p := ⟨w.heap.size, 1, none⟩) (Nat.le_refl _) _).setCell (p := ⟨w.heap.size, 2, none⟩) (Nat.le_refl _) _)
end Go.Proofs.YtckdbkbecelgcaaDoor
