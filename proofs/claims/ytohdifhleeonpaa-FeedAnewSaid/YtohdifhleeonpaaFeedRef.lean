/- The reference of feeding: Wants, Told, Sure. -/
import Derived.Test.YtohdifhleeonpaaFeedMath
import Derived.Test.YtohdifhleeonpaaRleRef3
namespace Go.Proofs.Ytohdifhleeonpaa
open Go.RowKit
set_option linter.unusedVariables false
set_option linter.unusedSimpArgs false

theorem list_to (t : ByteArray) (n : Nat) : (t.extract 0 n).data.toList = t.data.toList.take n := by
  simp only [ByteArray.data_extract, Array.toList_extract, List.extract_eq_take_drop, List.drop_zero, Nat.sub_zero]
set_option maxRecDepth 100000 in
set_option maxHeartbeats 800000 in
theorem refwants_walk (s : ByteArray) (w : World) (hs : s.size ≤ 10100) :
    Calls Try.prog 16 #[.string s] w fun e w' => e = .returned (.bool (decide ((Rl.dec s.data.toList).2 = 24))) ∧ Below w.heap.size w w' := by
  have HD := Lib.hid (refdecode_walk s w hs)
  generalize Rl.dec s.data.toList = R at *
  obtain ⟨r1, r2⟩ := R
  simp only at HD ⊢
  by_cases h : r2 = 24
  · subst h
    go_enter Try.func16, Try.ntmps16
    go_wp2_with fail
    (with_reducible refine (HD.out).mono ?_)
    rintro e w1 ⟨rfl, hb⟩
    go_wp2
    go_ret
    exact ⟨rfl, hb⟩
  · have e1 : decide (r2 = 24) = false := by simpa using h
    have e2 : (r2 == 24) = false := by simpa using h
    rw [e1]
    clear h e1
    go_enter Try.func16, Try.ntmps16
    go_wp2_with fail
    (with_reducible refine (HD.out).mono ?_)
    rintro e w1 ⟨rfl, hb⟩
    go_wp2
    go_ret
    exact ⟨rfl, hb⟩
set_option maxRecDepth 100000 in
set_option maxHeartbeats 800000 in
theorem reftold_walk (s : ByteArray) (w : World) (hs : s.size ≤ 10100) :
    Calls Try.prog 20 #[.string s] w fun e w' => e = .returned (.string (Fr.bs (Rl.told s.data.toList))) ∧ Below w.heap.size w w' := by
  have HW := Lib.hid (refwants_walk s w hs)
  have HT := Lib.hid (show Rl.told s.data.toList = if (Rl.dec s.data.toList).2 = 24 then (Rl.dec s.data.toList.dropLast).1 ++ s.data.toList.drop (s.data.toList.length - 1) else (Rl.dec s.data.toList).1 from rfl)
  generalize Rl.told s.data.toList = T at *
  by_cases h : (Rl.dec s.data.toList).2 = 24
  · have hT := HT.out
    rw [if_pos h] at hT
    have e1 : decide ((Rl.dec s.data.toList).2 = 24) = true := by simpa using h
    rw [e1] at HW
    have h0 : 0 < s.size := by
      rcases Nat.eq_zero_or_pos s.size with h1 | h1
      · have : s.data.toList = [] := List.length_eq_zero_iff.1 (by rw [llen]; exact h1)
        rw [this] at h
        exact absurd h (by decide)
      · exact h1
    have hl1 : (s.extract 0 (s.size - 1)).data.toList = s.data.toList.dropLast := by rw [list_to, List.dropLast_eq_take, llen]
    have hl2 : (s.extract (s.size - 1) s.size).data.toList = s.data.toList.drop (s.data.toList.length - 1) := by rw [list_from, llen]
    have HD := Lib.hid (fun w => refdecode_walk (s.extract 0 (s.size - 1)) w (by rw [ByteArray.size_extract]; omega))
    rw [hl1] at HD
    have hc : (s.size : Int) - 1 = ((s.size - 1 : Nat) : Int) := by omega
    have hs1 := run_slice_to Try.underlying9 s (s.size - 1) ((s.size : Int) - 1) hc (by omega)
    have hs2 := run_slice_from Try.underlying9 s (s.size - 1) ((s.size : Int) - 1) hc (by omega)
    have hzl := Rl.dec_len s.data.toList.dropLast
    have hdl : s.data.toList.dropLast.length = s.size - 1 := by rw [List.length_dropLast, llen]
    generalize Rl.dec s.data.toList.dropLast = R at *
    obtain ⟨r1, r2⟩ := R
    simp only at HD hT hzl
    have hz1 := bs_size r1
    have hz2 : (s.extract (s.size - 1) s.size).size = 1 := by rw [ByteArray.size_extract]; omega
    have HTT := Lib.hid (show Fr.bs T = Fr.bs r1 ++ s.extract (s.size - 1) s.size by
      apply Fr.bs_inj
      rw [Fr.list_append, Fr.list_bs, Fr.list_bs, hl2, hT])
    generalize s.extract (s.size - 1) s.size = u at *
    generalize s.extract 0 (s.size - 1) = v at *
    generalize Fr.bs r1 = S at *
    generalize Fr.bs T = X at *
    have hcat : S.size + u.size ≤ 10000000 := by omega
    have hsz : (s.size : Int) ≤ 10100 := by omega
    clear h e1 hT hl1 hl2 hz1 hz2 hzl hdl hc
    go_enter Try.func20, Try.ntmps20
    go_wp2_with fail
    (with_reducible refine (HW.out).mono ?_)
    rintro e w1 ⟨rfl, hb1⟩
    have K1 := Lib.hid hb1
    clear hb1
    go_wp2_with fail
    (with_reducible refine (HD.out _).mono ?_)
    rintro e w2 ⟨rfl, hb2⟩
    have K2 := Lib.hid (K1.out.trans (hb2.mono K1.out.size))
    clear hb2
    go_wp2
    go_ret
    exact ⟨ret_str HTT.out.symm, K2.out⟩
  · have hT := HT.out
    rw [if_neg h] at hT
    have e1 : decide ((Rl.dec s.data.toList).2 = 24) = false := by simpa using h
    rw [e1] at HW
    have HD := Lib.hid (fun w => refdecode_walk s w hs)
    generalize Rl.dec s.data.toList = R at *
    obtain ⟨r1, r2⟩ := R
    simp only at HD hT
    subst hT
    clear h e1
    go_enter Try.func20, Try.ntmps20
    go_wp2_with fail
    (with_reducible refine (HW.out).mono ?_)
    rintro e w1 ⟨rfl, hb1⟩
    have K1 := Lib.hid hb1
    clear hb1
    go_wp2_with fail
    (with_reducible refine (HD.out _).mono ?_)
    rintro e w2 ⟨rfl, hb2⟩
    have K2 := Lib.hid (K1.out.trans (hb2.mono K1.out.size))
    clear hb2
    go_wp2
    go_ret
    exact ⟨rfl, K2.out⟩
end Go.Proofs.Ytohdifhleeonpaa
