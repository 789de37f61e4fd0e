/- The law of decoding. -/
import Derived.Test.YtjneeomioolcjaaFrameLaw1
namespace Go.Proofs.Ytjneeomioolcjaa
open Go.RowKit

set_option maxRecDepth 100000 in
set_option maxHeartbeats 2000000 in
theorem frameDecodes_walk (s : ByteArray) (w : World) (_ : s.size ≤ maxLen) :
    Calls Try.prog 4 #[.string s] w fun e w' => e = .returned (.bool true) ∧ Below w.heap.size w w' := by
  have HE := Lib.hid (fun w => end_walk w)
  by_cases hl : 300 < s.size
  · have hl' : (300 : Int) < (s.size : Int) := by omega
    go_enter Try.func4, Try.ntmps4
    go_wp2_with fail
    refine (HE.out _).mono ?_
    rintro e w1 ⟨rfl, hb1⟩
    go_wp2
    go_ret
    exact ⟨rfl, hb1⟩
  · have hl' : ¬ (300 : Int) < (s.size : Int) := by omega
    have H1 := Lib.hid (xdec_walk s w (by omega))
    have H2 := Lib.hid (fun w => refdec_walk s w (by omega))
    have hR := Fr.enc_dec s
    generalize Fr.dec s = R at *
    obtain ⟨⟨t, j, d⟩, m, e⟩ := R
    unfold gv at H2
    unfold fv at H1
    simp only at H1 H2 hR
    by_cases he : e = 0
    · obtain ⟨hw, henc, hm, _⟩ := hR he
      have H3 := Lib.hid (fun w => xenc_walk ⟨t, j, d⟩ w)
      rw [hw, if_pos rfl, henc] at H3
      unfold fv at H3
      simp only at H3
      subst he
      have hsl := run_slice_to Try.underlying9 s m (m : Int) rfl hm
      generalize s.extract 0 m = u at *
      clear hR hw henc hm hl
      go_enter Try.func4, Try.ntmps4
      go_wp2_with fail
      refine H1.out.mono ?_
      rintro e w1 ⟨rfl, hb1⟩
      go_wp2_with fail
      refine (H2.out _).mono ?_
      rintro e w2 ⟨rfl, hb2⟩
      have R0 := (Has.new w1 #[Value.int .i64 t, Value.int .i64 j, Value.string d] 23).below hb2 (by simp)
      have c0 := R0.cell 0; have c1 := R0.cell 1; have c2 := R0.cell 2
      simp only [List.getElem?_toArray, List.getElem?_cons_zero, List.getElem?_cons_succ] at c0 c1 c2
      have hs12 : w1.heap.size < w2.heap.size := R0.lt
      have Hb2 := Lib.hid (hb1.trans (((Below.refl w1.heap.size w1).alloc (Nat.le_refl _) _).trans (hb2.mono (by simp)) |>.mono hb1.size))
      have Hs2 := Lib.hid (Nat.le_trans hb1.size (Nat.le_of_lt hs12))
      clear hb1 hb2 R0
      go_wp2_with fail
      refine (H3.out _).mono ?_
      rintro e w3 ⟨rfl, hb3⟩
      rw [World.size_alloc] at hb3
      have Hb3 := Lib.hid (Hb2.out.trans (((Below.refl w2.heap.size w2).alloc (Nat.le_refl _) _).trans (hb3.mono (by simp)) |>.mono Hs2.out))
      have Hs3 := Lib.hid (Nat.le_trans Hs2.out (Nat.le_trans (by simp) hb3.size))
      clear hb3
      go_wp2_with fail
      refine (HE.out _).mono ?_
      rintro e w4 ⟨rfl, hb4⟩
      go_wp2
      go_ret
      exact ⟨rfl, Hb3.out.trans (hb4.mono Hs3.out)⟩
    · have he' : (e == 0) = false := by simpa using he
      clear hR hl
      go_enter Try.func4, Try.ntmps4
      go_wp2_with fail
      refine H1.out.mono ?_
      rintro e1 w1 ⟨rfl, hb1⟩
      go_wp2_with fail
      refine (H2.out _).mono ?_
      rintro e1 w2 ⟨rfl, hb2⟩
      have R0 := (Has.new w1 #[Value.int .i64 t, Value.int .i64 j, Value.string d] 23).below hb2 (by simp)
      have c0 := R0.cell 0; have c1 := R0.cell 1; have c2 := R0.cell 2
      simp only [List.getElem?_toArray, List.getElem?_cons_zero, List.getElem?_cons_succ] at c0 c1 c2
      have hs12 : w1.heap.size < w2.heap.size := R0.lt
      have Hb2 := Lib.hid (hb1.trans (((Below.refl w1.heap.size w1).alloc (Nat.le_refl _) _).trans (hb2.mono (by simp)) |>.mono hb1.size))
      have Hs2 := Lib.hid (Nat.le_trans hb1.size (Nat.le_of_lt hs12))
      clear hb1 hb2 R0
      go_wp2_with fail
      refine (HE.out _).mono ?_
      rintro e1 w4 ⟨rfl, hb4⟩
      rw [World.size_alloc] at hb4
      have Hb3 := Lib.hid (Hb2.out.trans (((Below.refl w2.heap.size w2).alloc (Nat.le_refl _) _).trans (hb4.mono (by simp)) |>.mono Hs2.out))
      clear hb4
      go_wp2
      go_ret
      exact ⟨rfl, Hb3.out⟩
end Go.Proofs.Ytjneeomioolcjaa
