/- All of the reference, by a room. -/
import Derived.Test.YtngheokngonhjaaParRef1
import Derived.Test.YtngheokngonhjaaFrameAll2
namespace Go.Proofs.Ytngheokngonhjaa
open Go.RowKit

theorem rrun_length (s : ByteArray) (room : Nat) : ∀ (n p : Nat) (fs : List Fr.Frm), (rrun s room n p fs).1.length ≤ fs.length + n
  | 0, p, fs => by simp [rrun]
  | n + 1, p, fs => by
    unfold rrun
    split
    · have := rrun_length s room n (p + (rnext (s.extract p s.size) room).len) (fs ++ [(rnext (s.extract p s.size) room).f])
      rw [List.length_append] at this
      simp at this
      omega
    · show fs.length ≤ _; omega
theorem rnext_at (s : ByteArray) (room p : Nat) (hp : p ≤ s.size) (he : (rnext (s.extract p s.size) room).err = 0) : 9 ≤ (rnext (s.extract p s.size) room).len ∧ p + (rnext (s.extract p s.size) room).len ≤ s.size := by
  have h1 := rnext_len _ _ he
  have hs : (s.extract p s.size).size = s.size - p := by rw [ByteArray.size_extract]; omega
  omega
/-- what the loop's variables hold, behind the call: the row's two blocks, and the frame's -/
theorem AllAt.fin {w wr : World} {v : Value} {p : Nat} {fs : List Fr.Frm} (h : AllAt w wr v p fs) (x y z : Value) :
    (((wr.setCell ⟨w.heap.size, 0, none⟩ x).setCell ⟨w.heap.size, 1, none⟩ y).setCell ⟨w.heap.size, 2, none⟩ z).ownsRow w.heap.size 33 3 v fs.length (fs.flatMap fcells) ∧
    Below w.heap.size w (((wr.setCell ⟨w.heap.size, 0, none⟩ x).setCell ⟨w.heap.size, 1, none⟩ y).setCell ⟨w.heap.size, 2, none⟩ z) :=
  ⟨ownsRow_mono (own_set (own_set (own_set h.own _ _ (Nat.lt_add_of_pos_right (by decide))) _ _ (Nat.lt_add_of_pos_right (by decide))) _ _ (Nat.lt_add_of_pos_right (by decide))) (Nat.le_add_right _ _),
   ((h.below.setCell (p := ⟨w.heap.size, 0, none⟩) (Nat.le_refl _) _).setCell (p := ⟨w.heap.size, 1, none⟩) (Nat.le_refl _) _).setCell (p := ⟨w.heap.size, 2, none⟩) (Nat.le_refl _) _⟩
theorem AllAt.err {w wr : World} {v : Value} {p : Nat} {fs : List Fr.Frm} (h : AllAt w wr v p fs) (er x y z : Value) :
    ((((wr.setCell ⟨w.heap.size + 1, 2, none⟩ er).setCell ⟨w.heap.size, 0, none⟩ x).setCell ⟨w.heap.size, 1, none⟩ y).setCell ⟨w.heap.size, 2, none⟩ z).ownsRow w.heap.size 33 3 v fs.length (fs.flatMap fcells) ∧
    Below w.heap.size w ((((wr.setCell ⟨w.heap.size + 1, 2, none⟩ er).setCell ⟨w.heap.size, 0, none⟩ x).setCell ⟨w.heap.size, 1, none⟩ y).setCell ⟨w.heap.size, 2, none⟩ z) :=
  ⟨ownsRow_mono (own_set (own_set (own_set (own_set h.own _ _ (Nat.lt_succ_self _)) _ _ (Nat.lt_add_of_pos_right (by decide))) _ _ (Nat.lt_add_of_pos_right (by decide))) _ _ (Nat.lt_add_of_pos_right (by decide))) (Nat.le_add_right _ _),
   (((h.below.setCell (p := ⟨w.heap.size + 1, 2, none⟩) (Nat.le_succ _) _).setCell (p := ⟨w.heap.size, 0, none⟩) (Nat.le_refl _) _).setCell (p := ⟨w.heap.size, 1, none⟩) (Nat.le_refl _) _).setCell (p := ⟨w.heap.size, 2, none⟩) (Nat.le_refl _) _⟩

set_option maxRecDepth 100000 in
set_option maxHeartbeats 2000000 in
theorem refall34_walk (s : ByteArray) (room : Nat) (w : World) (hS : s.size ≤ 1000) :
    Calls Try.prog 12 #[.string s, .int .i64 (room : Int)] w fun e w' => ∃ v, e = .returned (.agg #[v, .int .i64 ((rrun s room s.size 0 []).2.1 : Nat), .int .i64 (rrun s room s.size 0 []).2.2]) ∧
      w'.ownsRow w.heap.size 33 3 v (rrun s room s.size 0 []).1.length ((rrun s room s.size 0 []).1.flatMap fcells) ∧ Below w.heap.size w w' := by
  generalize hR : rrun s room s.size 0 [] = R
  have HR := Lib.hid hR
  clear hR
  have HS := Lib.hid hS
  go_enter Try.func12, Try.ntmps12
  go_wp2_with fail
  go_loopw [10] (fun i wr => ∃ (k p : Nat) (fs : List Fr.Frm) (v : Value), i = .int .i64 k ∧ k ≤ s.size ∧ k ≤ p ∧ p ≤ s.size ∧ rrun s room (s.size - k) p fs = R ∧ fs.length ≤ p ∧ AllAt w wr v p fs) (fun i _ => s.size - (intOf i).toNat)
  case atStart =>
    refine ⟨0, 0, [], .slice none 0 0, rfl, Nat.zero_le _, Nat.zero_le _, Nat.zero_le _, HR.out, Nat.le_refl _, ?_, ?_, World.ownsRow_nil _ _ _ _, below_alloc2 w _ _⟩
    · exact (Has.new w _ _).alloc _
    · have := Has.new (w.alloc (.cells #[.slice none 0 0, .int .i64 0, .int .i64 0] 37)) #[.slice none 0 0, .int .i64 0, .int .i64 0] 37
      rw [World.size_alloc] at this
      exact this
  case round =>
    obtain ⟨k, p, fs, v, rfl, hk, hkp, hp, hrun, hfp, hat⟩ := hrel
    obtain ⟨va, vc, rfl, _, _⟩ := rowS_owns hat.own
    have HA := Lib.hid hat
    have hsz := hat.r1.lt
    have c0 := hat.r1.cell 0; have c1 := hat.r1.cell 1; have c2 := hat.r1.cell 2
    have f0 := hat.r1.free 0; have f1 := hat.r1.free 1; have f2 := hat.r1.free 2
    have d0 := hat.r0.cell 0; have d1 := hat.r0.cell 1; have d2 := hat.r0.cell 2
    have g0 := hat.r0.free 0; have g1 := hat.r0.free 1; have g2 := hat.r0.free 2
    simp only [List.getElem?_toArray, List.getElem?_cons_zero, List.getElem?_cons_succ] at c0 c1 c2 d0 d1 d2
    have Hrun := Lib.hid hrun
    clear hat hrun
    by_cases hk1 : k < s.size
    · have hk2 : (k : Int) < (s.size : Int) := by omega
      have HD := Lib.hid (fun w => refnext_walk (s.extract p s.size) room w (by rw [ByteArray.size_extract]; omega))
      have hsl := run_slice_from Try.underlying9 s p (p : Int) rfl (by omega)
      obtain ⟨n, hn⟩ : ∃ n', s.size - k = n' + 1 := ⟨s.size - k - 1, by omega⟩
      have hst := rrun_step s room n p fs
      have hsp := rrun_stop s room n p fs
      have hdl := rnext_at s room p hp
      rw [hn] at Hrun
      generalize hg : rnext (s.extract p s.size) room = g at *
      obtain ⟨⟨t, j, d⟩, len, er⟩ := g
      simp only [gv] at HD hst hsp hdl
      have Hst := Lib.hid hst
      have Hsp := Lib.hid hsp
      have Hdl := Lib.hid hdl
      clear hg hst hsp hdl
      go_wp2_with fail
      (with_reducible refine (HD.out _).mono ?_)
      rintro e w1 ⟨rfl, hb1⟩
      go_upto_region 5 with (fail)
      have HA1 := Lib.hid ((HA.out.keep hb1).keep ((Below.refl w1.heap.size w1).alloc (Nat.le_refl _) (.cells #[.int .i64 t, .int .i64 j, .string d, .int .i64 (len : Int), .int .i64 er] 45)))
      have HG := Lib.hid (Has.new w1 #[.int .i64 t, .int .i64 j, .string d, .int .i64 (len : Int), .int .i64 er] 45)
      have hlt1 : w.heap.size + 1 < w1.heap.size := Nat.lt_of_lt_of_le hsz hb1.size
      have HNB := Lib.hid (own_not (HA.out.keep hb1).own (.inr (Nat.le_refl _)))
      generalize w1.alloc (.cells #[.int .i64 t, .int .i64 j, .string d, .int .i64 (len : Int), .int .i64 er] 45) = w2 at *
      clear hb1 HA c0 c1 c2 d0 d1 d2 f0 f1 f2 g0 g1 g2
      generalize w1.heap.size = gb at *
      have m0 := HG.out.cell 0; have m1 := HG.out.cell 1; have m2 := HG.out.cell 2; have m3 := HG.out.cell 3; have m4 := HG.out.cell 4
      have c0 := HA1.out.r1.cell 0; have c1 := HA1.out.r1.cell 1; have c2 := HA1.out.r1.cell 2
      have f0 := HA1.out.r1.free 0; have f1 := HA1.out.r1.free 1; have f2 := HA1.out.r1.free 2
      have d0 := HA1.out.r0.cell 0; have d1 := HA1.out.r0.cell 1; have d2 := HA1.out.r0.cell 2
      have g0 := HA1.out.r0.free 0; have g1 := HA1.out.r0.free 1; have g2 := HA1.out.r0.free 2
      simp only [List.getElem?_toArray, List.getElem?_cons_zero, List.getElem?_cons_succ] at c0 c1 c2 d0 d1 d2 m0 m1 m2 m3 m4
      have hlt0 : w.heap.size < gb := by omega
      by_cases he : er = 0
      · subst he
        have hle := Hdl.out rfl
        have Hrun2 := Lib.hid ((Hst.out rfl).symm.trans Hrun.out)
        clear Hst Hsp Hdl Hrun
        have HB1 := Lib.hid (show w.heap.size + 2 ≤ w2.heap.size by have := HG.out.lt; omega)
        have hgw := HG.out.lt
        go_wp2_with (at_builtin; refine appendS Try.underlying29 info_frame rfl (by decide) rfl _ _ rfl (w.heap.size + 2) fs.length _ _ rfl HA1.out.own #[Value.int .i64 t, Value.int .i64 j, Value.string d] rfl (by intro u hu; simp at hu; rcases hu with rfl | rfl | rfl <;> rfl) _ rfl rfl (by unfold maxLen; have := HS.out; omega) (by have := HS.out; omega) HB1.out ?_)
        intro g cap' w3 ho hc hb3 _ _ _
        have q1 := HA1.out.r1.below hb3 (Nat.lt_succ_self _)
        have q0 := HA1.out.r0.below hb3 (Nat.lt_add_of_pos_right (by decide))
        have q4 := HG.out.chg hc HNB.out
        have hbw2 := HA1.out.below.trans (hb3.mono (Nat.le_add_right _ _))
        have HAt : ∀ u : Value, AllAt w ((w3.setCell ⟨w.heap.size + 1, 0, none⟩ (.slice (some ⟨g, 0, none⟩) (fs.length + 1) cap')).setCell ⟨w.heap.size + 1, 1, none⟩ (.int .i64 ((p + len : Nat) : Int))) (.slice (some ⟨g, 0, none⟩) (fs.length + 1) cap') (p + len) (fs ++ [Fr.Frm.mk t j d]) := fun _ =>
          ⟨(q0.setCell_other _ _ (by simp)).setCell_other _ _ (by simp), (q1.setCell 0 _).setCell 1 _, by
            rw [List.length_append, List.flatMap_append]
            exact own_set (own_set ho _ _ (Nat.lt_succ_self _)) _ _ (Nat.lt_succ_self _), (hbw2.setCell (p := ⟨w.heap.size + 1, 0, none⟩) (Nat.le_succ _) _).setCell (p := ⟨w.heap.size + 1, 1, none⟩) (Nat.le_succ _) _⟩
        have HAT := Lib.hid (HAt (.int .i64 0))
        rw [Int.natCast_add] at HAT
        clear c0 c1 c2 f0 f1 f2 m0 m1 m2 m3 m4 d0 d1 d2 g0 g1 g2
        have c0 := q1.cell 0; have c1 := q1.cell 1; have c2 := q1.cell 2
        have f0 := q1.free 0; have f1 := q1.free 1; have f2 := q1.free 2
        have m3 := q4.cell 3
        simp only [List.getElem?_toArray, List.getElem?_cons_zero, List.getElem?_cons_succ] at c0 c1 c2 m3
        have hk0 : (k : Int) < 1000 := by omega
        have hpl : (p : Int) + (len : Int) ≤ 1000 := by omega
        have HF := Lib.hid (show k + 1 ≤ s.size ∧ k + 1 ≤ p + len ∧ p + len ≤ s.size ∧ s.size - (k + 1) = n ∧ fs.length + 1 ≤ p + len from by omega)
        have hne : w.heap.size + 1 ≠ gb := by omega
        clear hk hkp hp hfp hn HD hsl hk1 hk2 hle HAt hbw2 q0 q1 q4 ho hc hb3 HA1 HG HB1 hgw
        go_wp2_with fail
        go_roundw
        case rel =>
          obtain ⟨h1, h2, h3, h4, h5⟩ := HF.out
          exact ⟨k + 1, p + len, fs ++ [⟨t, j, d⟩], _, by go_num, h1, h2, h3, by rw [h4]; exact Hrun2.out, by rw [List.length_append]; exact h5, HAT.out⟩
        case measure =>
          obtain ⟨h1, h2, h3, h4, h5⟩ := HF.out
          simp [intOf]; omega
      · have hR2 := Lib.hid ((Hsp.out he).symm.trans Hrun.out)
        have he' : (er == 0) = false := by simpa using he
        clear Hst Hsp Hdl Hrun
        by_cases h3 : er = 3
        · subst h3
          rw [if_pos rfl] at hR2
          go_wp2
          (try simp only [Exit.inBlock, Exit.then])
          refine bodyPost_ret (v := .agg #[.slice va fs.length vc, .int .i64 (p : Int), .int .i64 0]) ?_ rfl ?_
          · rw [results_cell1 rfl]
            go_simp
          · rw [← hR2.out]
            exact ⟨_, rfl, HA1.out.fin _ _ _⟩
        · have he3 : (er == 3) = false := by simpa using h3
          rw [if_neg h3] at hR2
          have hne1 : w.heap.size + 1 ≠ gb := by omega
          go_wp2
          (try simp only [Exit.inBlock, Exit.then])
          refine bodyPost_ret (v := .agg #[.slice va fs.length vc, .int .i64 (p : Int), .int .i64 er]) ?_ rfl ?_
          · rw [results_cell1 rfl]
            go_simp
          · rw [← hR2.out]
            exact ⟨_, rfl, HA1.out.err _ _ _ _⟩
    · have hk2 : ¬ (k : Int) < (s.size : Int) := by omega
      have hk0 : s.size - k = 0 := by omega
      rw [hk0] at Hrun
      have hR2 := Lib.hid (show (fs, p, 0) = R from Hrun.out)
      have hlt0 : w.heap.size < wr.heap.size := by omega
      clear Hrun
      go_wp2
      (try simp only [Exit.inBlock, Exit.then])
      refine bodyPost_ret (v := .agg #[.slice va fs.length vc, .int .i64 (p : Int), .int .i64 0]) ?_ rfl ?_
      · rw [results_cell1 rfl]
        go_simp
      · rw [← hR2.out]
        exact ⟨_, rfl, HA.out.fin _ _ _⟩
end Go.Proofs.Ytngheokngonhjaa
