/- The end of each law; the law of numbers. -/
import Derived.Test.YtjneeomioolcjaaFrameWalk4
import Derived.Test.YtjneeomioolcjaaFrameWalk6
import Derived.Test.YtjneeomioolcjaaRows
namespace Go.Proofs.Ytjneeomioolcjaa
open Go.RowKit

set_option maxRecDepth 100000 in
set_option maxHeartbeats 2000000 in
theorem end_walk (w : World) : Calls Try.prog 8 #[] w fun e w' => e = .returned (.bool true) ∧ Below w.heap.size w w' := by
  have hE : Fr.enc ⟨4, 7, ⟨#[]⟩⟩ = (⟨#[4, 0, 0, 0, 7, 0, 0, 0, 0]⟩ : ByteArray) := by decide
  have hw : Fr.wrong ⟨4, 7, ⟨#[]⟩⟩ = 0 := by decide
  have hD := Fr.dec_enc ⟨4, 7, ⟨#[]⟩⟩ ⟨#[120]⟩ hw
  have H1 := Lib.hid (xenc_walk ⟨4, 7, ⟨#[]⟩⟩ w)
  rw [hw, if_pos rfl] at H1
  rw [hE] at H1 hD
  have H2 := Lib.hid (fun w => xdec_walk ((⟨#[4, 0, 0, 0, 7, 0, 0, 0, 0]⟩ : ByteArray) ++ (⟨#[120]⟩ : ByteArray)) w (by decide))
  rw [hD] at H2
  unfold fv at H1 H2
  clear hE hw hD
  have hsz : (⟨#[4, 0, 0, 0, 7, 0, 0, 0, 0]⟩ : ByteArray).size = 9 := rfl
  have hc : (⟨#[4, 0, 0, 0, 7, 0, 0, 0, 0]⟩ : ByteArray).toList = [4, 0, 0, 0, 7, 0, 0, 0, 0] := by rw [ByteArray.toList_eq]
  generalize hs : (⟨#[4, 0, 0, 0, 7, 0, 0, 0, 0]⟩ : ByteArray) = s at *
  have Hs := Lib.hid hs
  clear hs
  go_enter Try.func8, Try.ntmps8
  go_wp2_with fail
  refine H1.out.mono ?_
  rintro e w1 ⟨rfl, hb1⟩
  go_wp2_with fail
  refine (H2.out _).mono ?_
  rintro e w2 ⟨rfl, hb2⟩
  go_wp2
  go_ret
  exact ⟨rfl, (hb1.trans (hb2.mono hb1.size)).alloc (Nat.le_trans hb1.size hb2.size) _⟩

set_option maxRecDepth 100000 in
set_option maxHeartbeats 2000000 in
theorem frameNumbers_walk (n : Int) (s : ByteArray) (w : World) (_ : (Lit.int .i64 n).wf = true) (_ : s.size ≤ maxLen) :
    Calls Try.prog 6 #[.int .i64 n, .string s] w fun e w' => e = .returned (.bool true) ∧ Below w.heap.size w w' := by
  have H1 := Lib.hid (xfour_walk n w)
  have H2 := Lib.hid (fun w => xnumber_walk s w)
  have HE := Lib.hid (fun w => end_walk w)
  by_cases h4 : s.size = 4
  · rw [if_pos h4, if_pos h4] at H2
    have H3 := Lib.hid (fun w => refnumber_walk s w (by omega))
    generalize Fr.num4 s.data.toList = m at *
    have hq : (s.size : Int) = 4 := by omega
    by_cases hn1 : n < 0 ∨ 4294967295 < n
    · rw [if_pos hn1, if_pos hn1] at H1
      go_enter Try.func6, Try.ntmps6
      go_wp2_with fail
      refine H1.out.mono ?_
      rintro e w1 ⟨rfl, hb1⟩
      go_wp2_with fail
      refine (H2.out _).mono ?_
      rintro e w2 ⟨rfl, rfl⟩
      go_wp2_with fail
      refine (H3.out _).mono ?_
      rintro e w2 ⟨rfl, hb2⟩
      replace hb1 := hb1.trans (hb2.mono hb1.size)
      clear hb2
      generalize w2 = w1 at *
      rcases hn1 with hn1 | hn1
      all_goals
        go_wp2_with fail
        refine (HE.out _).mono ?_
        rintro e w3 ⟨rfl, hb3⟩
        go_wp2
        go_ret
        exact ⟨rfl, hb1.trans (hb3.mono hb1.size)⟩
    · rw [if_neg hn1, if_neg hn1] at H1
      obtain ⟨k, rfl⟩ : ∃ k : Nat, n = k := ⟨n.toNat, by omega⟩
      rw [Int.toNat_natCast] at H1
      have HF := Lib.hid (fun w => reffour_walk k w (by omega))
      have HT := Lib.hid (fun w => xnumber_walk (Fr.bs (Fr.put4 k)) w)
      have e4 : (Fr.bs (Fr.put4 k)).size = 4 := rfl
      have ek : Fr.num4 (Fr.bs (Fr.put4 k)).data.toList = k := by
        rw [Fr.list_bs, ← List.append_nil (Fr.put4 k)]
        exact Fr.num4_put4 k (by omega) []
      rw [e4, if_pos rfl, if_pos rfl, ek] at HT
      clear e4 ek
      generalize Fr.bs (Fr.put4 k) = t at *
      have hn2 : ¬ ((k : Int) < 0) := by omega
      have hn3 : ¬ ((4294967295 : Int) < (k : Int)) := by omega
      clear hn1
      go_enter Try.func6, Try.ntmps6
      go_wp2_with fail
      refine H1.out.mono ?_
      rintro e w1 ⟨rfl, hb1⟩
      go_wp2_with fail
      refine (H2.out _).mono ?_
      rintro e w2 ⟨rfl, rfl⟩
      go_wp2_with fail
      refine (H3.out _).mono ?_
      rintro e w2 ⟨rfl, hb2⟩
      replace hb1 := hb1.trans (hb2.mono hb1.size)
      clear hb2
      generalize w2 = w1 at *
      go_wp2_with fail
      refine (HT.out _).mono ?_
      rintro e w2 ⟨rfl, rfl⟩
      go_wp2_with fail
      refine (HF.out _).mono ?_
      rintro e w2 ⟨rfl, hb2⟩
      replace hb1 := hb1.trans (hb2.mono hb1.size)
      clear hb2
      go_wp2_with fail
      refine (HE.out _).mono ?_
      rintro e w3 ⟨rfl, hb3⟩
      go_wp2
      go_ret
      exact ⟨rfl, hb1.trans (hb3.mono hb1.size)⟩
  · rw [if_neg h4, if_neg h4] at H2
    have hq : ((s.size : Int) == 4) = false := by
      apply Bool.eq_false_iff.2
      intro h
      have := eq_of_beq h
      omega
    by_cases hn1 : n < 0 ∨ 4294967295 < n
    · rw [if_pos hn1, if_pos hn1] at H1
      go_enter Try.func6, Try.ntmps6
      go_wp2_with fail
      refine H1.out.mono ?_
      rintro e w1 ⟨rfl, hb1⟩
      go_wp2_with fail
      refine (H2.out _).mono ?_
      rintro e w2 ⟨rfl, rfl⟩
      rcases hn1 with hn1 | hn1
      all_goals
        go_wp2_with fail
        refine (HE.out _).mono ?_
        rintro e w3 ⟨rfl, hb3⟩
        go_wp2
        go_ret
        exact ⟨rfl, hb1.trans (hb3.mono hb1.size)⟩
    · rw [if_neg hn1, if_neg hn1] at H1
      obtain ⟨k, rfl⟩ : ∃ k : Nat, n = k := ⟨n.toNat, by omega⟩
      rw [Int.toNat_natCast] at H1
      have HF := Lib.hid (fun w => reffour_walk k w (by omega))
      have HT := Lib.hid (fun w => xnumber_walk (Fr.bs (Fr.put4 k)) w)
      have e4 : (Fr.bs (Fr.put4 k)).size = 4 := rfl
      have ek : Fr.num4 (Fr.bs (Fr.put4 k)).data.toList = k := by
        rw [Fr.list_bs, ← List.append_nil (Fr.put4 k)]
        exact Fr.num4_put4 k (by omega) []
      rw [e4, if_pos rfl, if_pos rfl, ek] at HT
      clear e4 ek
      generalize Fr.bs (Fr.put4 k) = t at *
      have hn2 : ¬ ((k : Int) < 0) := by omega
      have hn3 : ¬ ((4294967295 : Int) < (k : Int)) := by omega
      clear hn1
      go_enter Try.func6, Try.ntmps6
      go_wp2_with fail
      refine H1.out.mono ?_
      rintro e w1 ⟨rfl, hb1⟩
      go_wp2_with fail
      refine (H2.out _).mono ?_
      rintro e w2 ⟨rfl, rfl⟩
      go_wp2_with fail
      refine (HT.out _).mono ?_
      rintro e w2 ⟨rfl, rfl⟩
      go_wp2_with fail
      refine (HF.out _).mono ?_
      rintro e w2 ⟨rfl, hb2⟩
      replace hb1 := hb1.trans (hb2.mono hb1.size)
      clear hb2
      go_wp2_with fail
      refine (HE.out _).mono ?_
      rintro e w3 ⟨rfl, hb3⟩
      go_wp2
      go_ret
      exact ⟨rfl, hb1.trans (hb3.mono hb1.size)⟩
end Go.Proofs.Ytjneeomioolcjaa
