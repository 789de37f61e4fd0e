/- Next. -/
import Derived.Test.YtngheokngonhjaaParWalk2
import Derived.RegionTactic
import Derived.ChangeAlike
namespace Go.Proofs.Ytngheokngonhjaa
open Go.RowKit

/-- what Next's calls find: the parser, and the result's variable -/
structure NxAt (w wr : World) (b : Nat) (p : Ps) : Prop where
  p : PAt wr b p
  r : Has wr w.heap.size #[.int .i64 0, .int .i64 0, .string ⟨#[]⟩] 33
  c : Chg [b] w wr
theorem NxAt.keep {w wr w' : World} {b : Nat} {p : Ps} (h : NxAt w wr b p) (k : Below wr.heap.size wr w') : NxAt w w' b p :=
  ⟨PAt.keep h.p k, h.r.below k h.r.lt, h.c.trans (below_chg k [b])⟩
theorem NxAt.start (w : World) (b : Nat) (p : Ps) (h : PAt w b p) : NxAt w (w.alloc (.cells #[.int .i64 0, .int .i64 0, .string ⟨#[]⟩] 33)) b p :=
  ⟨PAt.keep h ((Below.refl w.heap.size w).alloc (Nat.le_refl _) _), Has.new w _ _, (Chg.refl [b] w).alloc _⟩
/-- behind the store of the result -/
theorem NxAt.fin {w wr : World} {b : Nat} {p : Ps} (h : PAt wr b p) (c : Chg [b] w wr) (hb : b < w.heap.size) (x y z : Value) :
    PAt (((wr.setCell ⟨w.heap.size, 0, none⟩ x).setCell ⟨w.heap.size, 1, none⟩ y).setCell ⟨w.heap.size, 2, none⟩ z) b p ∧ Chg [b] w (((wr.setCell ⟨w.heap.size, 0, none⟩ x).setCell ⟨w.heap.size, 1, none⟩ y).setCell ⟨w.heap.size, 2, none⟩ z) :=
  ⟨((Has.setCell_other h _ _ (by simp; omega)).setCell_other _ _ (by simp; omega)).setCell_other _ _ (by simp; omega),
   ((c.setCell ⟨w.heap.size, 0, none⟩ x (.inr (Nat.le_refl _))).setCell ⟨w.heap.size, 1, none⟩ y (.inr (Nat.le_refl _))).setCell ⟨w.heap.size, 2, none⟩ z (.inr (Nat.le_refl _))⟩

set_option maxRecDepth 100000 in
set_option maxHeartbeats 800000 in
theorem next_a (b : Nat) (p : Ps) (w : World) (h : PAt w b p) (hw : p.wrong ≠ 0) :
    Calls Try.prog 11 #[ptr b] w fun e w' => e = .returned (.tuple #[fv zeroF, .bool false, .int .i64 p.wrong]) ∧ PAt w' b p ∧ Chg [b] w w' := by
  have hlt := h.lt
  have H := Lib.hid h
  have hne : b ≠ w.heap.size := by omega
  have HN := Lib.hid (NxAt.start w b p h)
  have hw' : (p.wrong == 0) = false := by simpa using hw
  obtain ⟨c0, c1, c2⟩ := h.c
  clear h hw
  unfold ptr
  go_enter Try.func11, Try.ntmps11
  go_wp2_with fail
  go_region
  go_wp2
  refine bodyPost_ret (v := .tuple #[fv zeroF, .bool false, .int .i64 p.wrong]) (by rw [results_cell_tmp2 rfl]; go_simp; rfl) rfl ?_
  exact ⟨rfl, Has.drew HN.out.p, HN.out.c.drew⟩

set_option maxRecDepth 100000 in
set_option maxHeartbeats 800000 in
theorem next_b (b : Nat) (p : Ps) (w : World) (h : PAt w b p) (hw : p.wrong = 0) (hs : p.s.size ≤ 65545) (t j : Int) (d : ByteArray) (len : Nat) (er : Int) (hg : Fr.dec p.s = ⟨⟨t, j, d⟩, len, er⟩) (he : er = 35 ∨ er = 2) :
    Calls Try.prog 11 #[ptr b] w fun e w' => e = .returned (.tuple #[fv zeroF, .bool false, .int .i64 er]) ∧ PAt w' b ⟨p.room, ⟨#[]⟩, er⟩ ∧ Chg [b] w w' := by
  have hlt := h.lt
  have H := Lib.hid h
  have hne : b ≠ w.heap.size := by omega
  have HN := Lib.hid (NxAt.start w b p h)
  obtain ⟨c0, c1, c2⟩ := h.c
  rw [hw] at c2
  have HD := Lib.hid (fun w => xdec_walk p.s w (by omega))
  rw [hg] at HD
  simp only [fv] at HD ⊢
  clear h hs
  unfold ptr
  rcases he with rfl | rfl
  all_goals
    go_enter Try.func11, Try.ntmps11
    go_wp2_with fail
    refine (HD.out _).mono ?_
    rintro e w1 ⟨rfl, hb1⟩
    have HN1 := Lib.hid ((HN.out.keep hb1).keep ((Below.refl w1.heap.size w1).alloc (Nat.le_refl _) (.cells #[.int .i64 t, .int .i64 j, .string d] 33)))
    clear hb1
    go_wp2_with fail
    refine (fail_walk b p _ _ HN1.out.p).mono ?_
    rintro e w2 ⟨rfl, hp2, hc2⟩
    have HR := Lib.hid (HN1.out.r.chg hc2 (by simp; omega))
    have HC := Lib.hid (HN1.out.c.trans hc2)
    have HP := Lib.hid hp2
    clear hc2 hp2
    have r0 := HR.out.cell 0; have r1 := HR.out.cell 1; have r2 := HR.out.cell 2
    have q0 := HR.out.free 0; have q1 := HR.out.free 1; have q2 := HR.out.free 2
    simp only [List.getElem?_toArray, List.getElem?_cons_zero, List.getElem?_cons_succ] at r0 r1 r2
    go_wp2
    refine bodyPost_ret (v := .tuple #[.agg #[.int .i64 0, .int .i64 0, .string ⟨#[]⟩], .bool false, .int .i64 _]) (by rw [results_cell_tmp2 rfl]; go_simp; rfl) rfl ?_
    exact ⟨rfl, NxAt.fin HP.out HC.out hlt _ _ _⟩

set_option maxRecDepth 100000 in
set_option maxHeartbeats 800000 in
theorem next_c (b : Nat) (p : Ps) (w : World) (h : PAt w b p) (hw : p.wrong = 0) (hs : p.s.size ≤ 65545) (t j : Int) (d : ByteArray) (len : Nat) (er : Int) (hg : Fr.dec p.s = ⟨⟨t, j, d⟩, len, er⟩) (he : (er == 35) = false) (he2 : (er == 2) = false) (hL : long p = true) :
    Calls Try.prog 11 #[ptr b] w fun e w' => e = .returned (.tuple #[fv zeroF, .bool false, .int .i64 2]) ∧ PAt w' b ⟨p.room, ⟨#[]⟩, 2⟩ ∧ Chg [b] w w' := by
  have hlt := h.lt
  have H := Lib.hid h
  have hne : b ≠ w.heap.size := by omega
  have HN := Lib.hid (NxAt.start w b p h)
  obtain ⟨c0, c1, c2⟩ := h.c
  rw [hw] at c2
  have HD := Lib.hid (fun w => xdec_walk p.s w (by omega))
  rw [hg] at HD
  simp only [fv] at HD ⊢
  have HT := Lib.hid (fun w h => tooLong_walk b p w h)
  rw [hL] at HT
  clear h hs hL
  unfold ptr
  go_enter Try.func11, Try.ntmps11
  go_wp2_with fail
  refine (HD.out _).mono ?_
  rintro e w1 ⟨rfl, hb1⟩
  have HN1 := Lib.hid ((HN.out.keep hb1).keep ((Below.refl w1.heap.size w1).alloc (Nat.le_refl _) (.cells #[.int .i64 t, .int .i64 j, .string d] 33)))
  clear hb1
  go_wp2_with fail
  refine (HT.out _ HN1.out.p).mono ?_
  rintro e w2 ⟨rfl, rfl⟩
  go_wp2_with fail
  refine (fail_walk b p _ _ HN1.out.p).mono ?_
  rintro e w2 ⟨rfl, hp2, hc2⟩
  have HR := Lib.hid (HN1.out.r.chg hc2 (by simp; omega))
  have HC := Lib.hid (HN1.out.c.trans hc2)
  have HP := Lib.hid hp2
  clear hc2 hp2
  have r0 := HR.out.cell 0; have r1 := HR.out.cell 1; have r2 := HR.out.cell 2
  have q0 := HR.out.free 0; have q1 := HR.out.free 1; have q2 := HR.out.free 2
  simp only [List.getElem?_toArray, List.getElem?_cons_zero, List.getElem?_cons_succ] at r0 r1 r2
  go_wp2
  refine bodyPost_ret (v := .tuple #[.agg #[.int .i64 0, .int .i64 0, .string ⟨#[]⟩], .bool false, .int .i64 2]) (by rw [results_cell_tmp2 rfl]; go_simp) rfl ?_
  exact ⟨rfl, NxAt.fin HP.out HC.out hlt _ _ _⟩

set_option maxRecDepth 100000 in
set_option maxHeartbeats 800000 in
theorem next_d (b : Nat) (p : Ps) (w : World) (h : PAt w b p) (hw : p.wrong = 0) (hs : p.s.size ≤ 65545) (t j : Int) (d : ByteArray) (len : Nat) (hg : Fr.dec p.s = ⟨⟨t, j, d⟩, len, 3⟩) (hL : long p = false) :
    Calls Try.prog 11 #[ptr b] w fun e w' => e = .returned (.tuple #[fv zeroF, .bool false, .int .i64 0]) ∧ PAt w' b p ∧ Chg [b] w w' := by
  have hlt := h.lt
  have H := Lib.hid h
  have hne : b ≠ w.heap.size := by omega
  have HN := Lib.hid (NxAt.start w b p h)
  obtain ⟨c0, c1, c2⟩ := h.c
  rw [hw] at c2
  have HD := Lib.hid (fun w => xdec_walk p.s w (by omega))
  rw [hg] at HD
  simp only [fv] at HD ⊢
  have HT := Lib.hid (fun w h => tooLong_walk b p w h)
  rw [hL] at HT
  clear h hs hL
  unfold ptr
  go_enter Try.func11, Try.ntmps11
  go_wp2_with fail
  refine (HD.out _).mono ?_
  rintro e w1 ⟨rfl, hb1⟩
  have HN1 := Lib.hid ((HN.out.keep hb1).keep ((Below.refl w1.heap.size w1).alloc (Nat.le_refl _) (.cells #[.int .i64 t, .int .i64 j, .string d] 33)))
  have hlt1 : w.heap.size < w1.heap.size := Nat.lt_of_lt_of_le (by simp) hb1.size
  have HN0 := Lib.hid (HN.out.keep hb1)
  clear hb1
  go_wp2_with fail
  refine (HT.out _ HN1.out.p).mono ?_
  rintro e w2 ⟨rfl, rfl⟩
  have r0 := HN0.out.r.cell 0; have r1 := HN0.out.r.cell 1; have r2 := HN0.out.r.cell 2
  have q0 := HN0.out.r.free 0; have q1 := HN0.out.r.free 1; have q2 := HN0.out.r.free 2
  simp only [List.getElem?_toArray, List.getElem?_cons_zero, List.getElem?_cons_succ] at r0 r1 r2
  go_wp2
  refine bodyPost_ret (v := .tuple #[.agg #[.int .i64 0, .int .i64 0, .string ⟨#[]⟩], .bool false, .int .i64 0]) (by rw [results_cell_tmp2 rfl]; go_simp) rfl ?_
  have hf := NxAt.fin HN0.out.p HN0.out.c hlt (.int .i64 0) (.int .i64 0) (.string ⟨#[]⟩)
  exact ⟨rfl, Has.alloc hf.1 _, hf.2.alloc _⟩

set_option maxRecDepth 100000 in
set_option maxHeartbeats 800000 in
theorem next_e (b : Nat) (p : Ps) (w : World) (h : PAt w b p) (hw : p.wrong = 0) (hs : p.s.size ≤ 65545) (t j : Int) (d : ByteArray) (len : Nat) (hg : Fr.dec p.s = ⟨⟨t, j, d⟩, len, 0⟩) (hlen : len ≤ p.s.size) (hL : long p = false) :
    Calls Try.prog 11 #[ptr b] w fun e w' => e = .returned (.tuple #[fv ⟨t, j, d⟩, .bool true, .int .i64 0]) ∧ PAt w' b ⟨p.room, p.s.extract len p.s.size, 0⟩ ∧ Chg [b] w w' := by
  have hlt := h.lt
  have H := Lib.hid h
  have hne : b ≠ w.heap.size := by omega
  have HN := Lib.hid (NxAt.start w b p h)
  obtain ⟨c0, c1, c2⟩ := h.c
  rw [hw] at c2
  have HD := Lib.hid (fun w => xdec_walk p.s w (by omega))
  rw [hg] at HD
  simp only [fv] at HD ⊢
  have HT := Lib.hid (fun w h => tooLong_walk b p w h)
  rw [hL] at HT
  have hsl := run_slice_from Try.underlying9 p.s len (len : Int) rfl hlen
  obtain ⟨room, s, wrong⟩ := p
  simp only at hw hsl c0 c1 c2 HT HD H HN ⊢
  subst hw
  clear h hs hL
  unfold ptr
  go_enter Try.func11, Try.ntmps11
  go_wp2_with fail
  refine (HD.out _).mono ?_
  rintro e w1 ⟨rfl, hb1⟩
  have HN1 := Lib.hid ((HN.out.keep hb1).keep ((Below.refl w1.heap.size w1).alloc (Nat.le_refl _) (.cells #[.int .i64 t, .int .i64 j, .string d] 33)))
  have hlt1 : w.heap.size < w1.heap.size := Nat.lt_of_lt_of_le (by simp) hb1.size
  have HN0 := Lib.hid (HN.out.keep hb1)
  clear hb1
  go_wp2_with fail
  refine (HT.out _ HN1.out.p).mono ?_
  rintro e w2 ⟨rfl, rfl⟩
  have r0 := HN0.out.r.cell 0; have r1 := HN0.out.r.cell 1; have r2 := HN0.out.r.cell 2
  have q0 := HN0.out.r.free 0; have q1 := HN0.out.r.free 1; have q2 := HN0.out.r.free 2
  simp only [List.getElem?_toArray, List.getElem?_cons_zero, List.getElem?_cons_succ] at r0 r1 r2
  clear c0 c1 c2
  obtain ⟨c0, c1, c2⟩ := HN0.out.p.c
  have f1 := HN0.out.p.f 1
  simp only at c0 c1 c2
  have hb1 : b < w1.heap.size := by omega
  go_wp2
  refine bodyPost_ret (v := .tuple #[.agg #[.int .i64 t, .int .i64 j, .string d], .bool true, .int .i64 0]) (by rw [results_cell_tmp2 rfl]; go_simp) rfl ?_
  have hp := Has.setCell HN0.out.p 1 (.string (s.extract len s.size))
  have hf := NxAt.fin (p := ⟨room, s.extract len s.size, 0⟩) hp (HN0.out.c.setCell ⟨b, 1, none⟩ _ (.inl (by simp))) hlt (.int .i64 t) (.int .i64 j) (.string d)
  exact ⟨rfl, Has.alloc hf.1 _, hf.2.alloc _⟩

theorem next_walk (b : Nat) (p : Ps) (w : World) (h : PAt w b p) (hr : p.room ≤ 65545) (hs : p.s.size ≤ p.room) :
    Calls Try.prog 11 #[ptr b] w fun e w' => e = .returned (.tuple #[fv (nextV p).f, .bool (nextV p).ok, .int .i64 (nextV p).err]) ∧ PAt w' b (nextP p) ∧ Chg [b] w w' := by
  by_cases hw : p.wrong = 0
  · obtain ⟨⟨⟨t, j, d⟩, len, er⟩, hg⟩ : ∃ g, Fr.dec p.s = g := ⟨_, rfl⟩
    rcases Fr.dec_err p.s with he | he | he | he
    · have hlen := (Fr.enc_dec p.s he).2.2.1
      rw [hg] at he hlen
      simp only at he hlen
      subst he
      cases hL : long p with
      | false =>
        obtain ⟨e1, e2⟩ := next_ok p hw (by rw [hg]) hL
        rw [e1, e2, hg]
        exact next_e b p w h hw (by omega) t j d len hg hlen hL
      | true =>
        obtain ⟨e1, e2⟩ := next_long p hw (by rw [hg]; simp) hL
        rw [e1, e2]
        exact next_c b p w h hw (by omega) t j d len 0 hg rfl rfl hL
    · obtain ⟨e1, e2⟩ := next_bad p hw 2 he (.inr rfl)
      rw [e1, e2]
      exact next_b b p w h hw (by omega) _ _ _ _ 2 he (.inr rfl)
    · cases hL : long p with
      | false =>
        obtain ⟨e1, e2⟩ := next_short p hw he hL
        rw [e1, e2]
        exact next_d b p w h hw (by omega) _ _ _ _ he hL
      | true =>
        obtain ⟨e1, e2⟩ := next_long p hw (by rw [he]; decide) hL
        rw [e1, e2]
        exact next_c b p w h hw (by omega) _ _ _ _ 3 he rfl rfl hL
    · obtain ⟨e1, e2⟩ := next_bad p hw 35 he (.inl rfl)
      rw [e1, e2]
      exact next_b b p w h hw (by omega) _ _ _ _ 35 he (.inl rfl)
  · obtain ⟨e1, e2⟩ := next_wrong p hw
    rw [e1, e2]
    exact next_a b p w h hw
end Go.Proofs.Ytngheokngonhjaa
