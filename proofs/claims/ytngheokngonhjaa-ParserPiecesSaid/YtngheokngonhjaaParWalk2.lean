/- Feed. -/
import Derived.Test.YtngheokngonhjaaParWalk1
namespace Go.Proofs.Ytngheokngonhjaa
open Go.RowKit


set_option maxRecDepth 100000 in
set_option maxHeartbeats 800000 in
theorem feed_walk (b : Nat) (p : Ps) (s : ByteArray) (w : World) (h : PAt w b p) (hr : p.room ≤ 65545) (hs : p.s.size ≤ p.room) (hz : s.size ≤ 1000000) :
    Calls Try.prog 9 #[ptr b, .string s] w fun e w' => e = .returned (.int .i64 (feedN p s : Int)) ∧ PAt w' b (feed p s) ∧ Chg [b] w w' := by
  obtain ⟨c0, c1, c2⟩ := h.c
  have f0 := h.f 0; have f1 := h.f 1; have f2 := h.f 2
  have hlt := h.lt
  have H := Lib.hid h
  clear h
  unfold ptr feed feedN
  obtain ⟨room, t, wrong⟩ := p
  simp only at c0 c1 c2 hr hs
  by_cases hw : wrong = 0
  · simp only [hw, if_true]
    subst hw
    have hN : (if (room : Int) - (t.size : Int) < (s.size : Int) then (room : Int) - (t.size : Int) else (s.size : Int)) = ((min s.size (room - t.size) : Nat) : Int) := by split <;> omega
    have hNs : min s.size (room - t.size) ≤ s.size := Nat.min_le_left _ _
    generalize min s.size (room - t.size) = n at *
    have hwr : (-1000000 : Int) < (room : Int) - (t.size : Int) ∧ (room : Int) - (t.size : Int) < 1000000 := by omega
    have hww : wrap64 ((room : Int) - (t.size : Int)) = (room : Int) - (t.size : Int) := by unfold wrap64; omega
    have hcat : t.size + n ≤ 1100000 := by omega
    have d0 : ∀ x : Later w, x.at.cell? ⟨b, 0, none⟩ = some (.int .i64 (room : Int)) := fun x => x.cell c0
    have d1 : ∀ x : Later w, x.at.cell? ⟨b, 1, none⟩ = some (.string t) := fun x => x.cell c1
    have hsl := run_slice_to Try.underlying9 s n (n : Int) rfl hNs
    have hxs : (s.extract 0 n).size = n := by rw [ByteArray.size_extract]; omega
    generalize s.extract 0 n = u at *
    go_enter Try.func9, Try.ntmps9
    go_wp2_with fail
    refine region_later 14 (by kernel_rfl) (by kernel_rfl) ?_
    simp only [List.take_succ_cons, List.take_zero, List.drop_succ_cons, List.drop_zero]
    repeat (go_big_quiet_step (fail))
    refine wpQuiet_nil ?_
    rintro w' ⟨x, rfl⟩
    have H1 := Lib.hid (PAt.keep H.out x.below)
    have hlt1 := H1.out.lt
    have hb1 := Lib.hid (below_chg x.below [b])
    clear d0 d1 c0 c1 c2 f0 f1 f2
    generalize x.at = w1 at *
    obtain ⟨c0, c1, c2⟩ := H1.out.c
    have f1 := H1.out.f 1
    have d1 : ∀ x : Later w1, x.at.cell? ⟨b, 1, none⟩ = some (.string t) := fun x => x.cell c1
    simp only at c0 c1 c2
    clear hN hwr hww hr hs hz
    go_wp2_with fail
    refine region_later 10 (by kernel_rfl) (by kernel_rfl) ?_
    simp only [List.take_succ_cons, List.take_zero, List.drop_succ_cons, List.drop_zero]
    repeat (go_big_quiet_step (fail))
    refine wpQuiet_nil ?_
    rintro w' ⟨x, rfl⟩
    have H2 := Lib.hid (PAt.keep H1.out x.below)
    have hlt2 := H2.out.lt
    have hb2 := Lib.hid (hb1.out.trans (below_chg x.below [b]))
    clear d1 c0 c1 c2 f1
    generalize x.at = w2 at *
    obtain ⟨c0, c1, c2⟩ := H2.out.c
    have f1 := H2.out.f 1
    simp only at c0 c1 c2
    go_wp2
    go_ret
    exact ⟨rfl, Has.setCell H2.out 1 _, hb2.out.setCell ⟨b, 1, none⟩ _ (.inl (by simp))⟩
  · simp only [hw, if_false]
    have hw' : (wrong == 0) = false := by simpa using hw
    go_enter Try.func9, Try.ntmps9
    go_wp2
    go_ret
    exact ⟨rfl, H.out, Chg.refl _ _⟩
end Go.Proofs.Ytngheokngonhjaa
