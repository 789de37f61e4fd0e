/- The law of unpackers. -/
import Derived.Test.YtohdifhleeonpaaFeedLaw1
import Derived.Test.YtohdifhleeonpaaFeedRef
namespace Go.Proofs.Ytohdifhleeonpaa
open Go.RowKit
set_option linter.unusedVariables false
set_option linter.unusedSimpArgs false

theorem bget (s : ByteArray) (k : Nat) (h : k < s.size) : s.data.toList[k]? = some s[k] := by
  rw [List.getElem?_eq_getElem (by rw [llen]; exact h), lget s k h]
theorem ufin_24 (u : Rl.Un) : decide ((Rl.ufin (some u)).2 = 24) = decide (u.r.n = 4) := by
  rw [Rl.ufin_some]
  split
  · rename_i h; simp [h]
  · rename_i h; simp [h]
theorem uput_err (r : Rl.Pc) (c : UInt8) : (uput r c).err = 0 ∨ (uput r c = ⟨[], 25, r⟩ ∧ r.n = 4 ∧ 251 < c.toNat) := by
  unfold uput
  split
  · split
    · exact .inr ⟨rfl, ‹_›, ‹_›⟩
    · exact .inl rfl
  · split <;> exact .inl rfl

set_option maxRecDepth 100000 in
set_option maxHeartbeats 3000000 in
theorem feedUnpacks_in (s : ByteArray) (w : World) (hl : ¬ 60 < s.size) :
    Calls Try.prog 4 #[.string s] w fun e w' => e = .returned (.bool true) ∧ Below w.heap.size w w' := by
  have hl' : ¬ (60 : Int) < (s.size : Int) := by omega
  have HL := Lib.hid hl
  have H0 := Lib.hid (newUnpacker_walk w)
  have HDL := Lib.hid (fun w => refdecode_walk s w (by omega))
  have HDU := Lib.hid (Rl.dec_ust s.data.toList)
  clear hl
  go_enter Try.func4, Try.ntmps4
  go_wp2_with fail
  (with_reducible refine (H0.out).mono ?_)
  rintro e w1 ⟨rfl, hu1, hb1⟩
  have HU1 := Lib.hid hu1
  have HB1 := Lib.hid hb1
  clear hu1 hb1
  go_wp2_with fail
  go_loopw [20, 4] (fun i x wr => ∃ (k : Nat) (u : Rl.Un), i = .int .i64 k ∧ k ≤ s.size ∧ Rl.ust (s.data.toList.take k) = some u ∧ x = .string (Fr.bs u.out) ∧ UAt wr w.heap.size u.r ∧ Below w.heap.size w wr) (fun i _ _ => s.size - (intOf i).toNat)
  case atStart => exact ⟨0, Rl.un0, rfl, Nat.zero_le _, rfl, rfl, HU1.out, HB1.out⟩
  case round =>
    obtain ⟨k, u, rfl, hk, hu, rfl, hua, hbr⟩ := hrel
    have HB := Lib.hid hbr
    have HUA := Lib.hid hua
    have hrow := Rl.ust_row _ _ hu
    by_cases hlt : k < s.size
    · have hlt' : (k : Int) < (s.size : Int) := by omega
      have hsk := run_slice_to Try.underlying9 s k (k : Int) rfl hk
      have hsk1 := run_slice_to Try.underlying9 s (k + 1) ((k : Int) + 1) (by omega) hlt
      have HWW := Lib.hid (fun w => refwants_walk (s.extract 0 k) w (by rw [ByteArray.size_extract]; have := HL.out; omega))
      rw [list_to, Rl.dec_ust, hu, ufin_24] at HWW
      have HUW := Lib.hid (fun b w h => uwants_walk b u.r w h)
      have HPP := Lib.hid (fun b w h => uput_walk b u.r s[k] w h hrow)
      have HTT := Lib.hid (fun w => reftold_walk (s.extract 0 (k + 1)) w (by rw [ByteArray.size_extract]; have := HL.out; omega))
      rw [list_to] at HTT
      have htm := take_more (bget s k hlt)
      have hskl := s[k].toNat_lt
      generalize s.extract 0 k = sk at *
      generalize s.extract 0 (k + 1) = sk1 at *
      rcases uput_err u.r s[k] with he | ⟨he, hn4, h251⟩
      · have hv : Rl.ust (s.data.toList.take (k + 1)) = some ⟨(uput u.r s[k]).r, u.out ++ (uput u.r s[k]).s⟩ := by
          rw [htm, Rl.ust_snoc _ _ _ hu, uput_step, if_pos he]
        have htd := Rl.told_ust _ _ hv
        rw [htd] at HTT
        have hol := ust_len _ _ hv
        simp only [List.length_append, List.length_take, llen] at hol
        rw [he] at HPP
        have HV := Lib.hid hv
        simp only at HTT
        have HC := Lib.hid (bs_app u.out (uput u.r s[k]).s)
        have hw4 : (decide (u.r.n = 4) && decide ((251 : Int) < (s[k].toNat : Int))) = false := by
          by_cases h4 : u.r.n = 4
          · have : ¬ 251 < s[k].toNat := by
              intro hb
              unfold uput at he
              rw [if_pos h4, if_pos hb] at he
              exact absurd (show (25 : Int) = 0 from he) (by decide)
            simp; omega
          · simp [h4]
        have hz1 := bs_size u.out
        have hz2 := bs_size (uput u.r s[k]).s
        rw [← HC.out] at HTT
        generalize Fr.bs u.out = S at *
        generalize Fr.bs (uput u.r s[k]).s = T at *
        have hcat : S.size + T.size ≤ 100000 := by have := HL.out; omega
        have hkb : (k : Int) ≤ 60 := by have := HL.out; omega
        clear htd hol hv he hz1 hz2 htm hua hbr
        cases hd4 : decide (u.r.n = 4) with
        | true =>
          rw [hd4] at HWW HUW hw4
          have hc9 : decide ((251 : Int) < (s[k].toNat : Int)) = false := by simpa using hw4
          have hc9' : ¬ (251 : Int) < (s[k].toNat : Int) := by simpa using hc9
          clear hd4 hw4
          go_wp2_with fail
          (with_reducible refine (HWW.out _).mono ?_)
          rintro e w2 ⟨rfl, hb2⟩
          have HUA2 := Lib.hid (show UAt w2 w.heap.size u.r from Has.below HUA.out hb2 (Has.lt HUA.out))
          have HB2 := Lib.hid (HB.out.trans (hb2.mono HB.out.size))
          clear hb2
          go_wp2_with fail
          (with_reducible refine (HUW.out _ _ HUA2.out).mono ?_)
          rintro e w3 ⟨rfl, rfl⟩
          go_wp2_with fail
          (with_reducible refine (HPP.out _ _ HUA2.out).mono ?_)
          rintro e w3 ⟨rfl, h1, h2⟩
          have HUA3 := Lib.hid h1
          have HB3 := Lib.hid (HB2.out.trans (h2.below HB2.out.size (by simp)))
          clear h1 h2
          go_wp2_with fail
          (with_reducible refine (HTT.out _).mono ?_)
          rintro e w4 ⟨rfl, hb4⟩
          have HUA4 := Lib.hid (show UAt w4 w.heap.size _ from Has.below HUA3.out hb4 (Has.lt HUA3.out))
          have HB4 := Lib.hid (HB3.out.trans (hb4.mono HB3.out.size))
          clear hb4
          go_wp2
          go_roundw
          case rel => exact ⟨k + 1, _, by go_num, hlt, HV.out, by rw [HC.out], HUA4.out, HB4.out⟩
          case measure => simp [intOf]; omega
        | false =>
          rw [hd4] at HWW HUW
          clear hd4 hw4
          go_wp2_with fail
          (with_reducible refine (HWW.out _).mono ?_)
          rintro e w2 ⟨rfl, hb2⟩
          have HUA2 := Lib.hid (show UAt w2 w.heap.size u.r from Has.below HUA.out hb2 (Has.lt HUA.out))
          have HB2 := Lib.hid (HB.out.trans (hb2.mono HB.out.size))
          clear hb2
          go_wp2_with fail
          (with_reducible refine (HUW.out _ _ HUA2.out).mono ?_)
          rintro e w3 ⟨rfl, rfl⟩
          go_wp2_with fail
          (with_reducible refine (HPP.out _ _ HUA2.out).mono ?_)
          rintro e w3 ⟨rfl, h1, h2⟩
          have HUA3 := Lib.hid h1
          have HB3 := Lib.hid (HB2.out.trans (h2.below HB2.out.size (by simp)))
          clear h1 h2
          go_wp2_with fail
          (with_reducible refine (HTT.out _).mono ?_)
          rintro e w4 ⟨rfl, hb4⟩
          have HUA4 := Lib.hid (show UAt w4 w.heap.size _ from Has.below HUA3.out hb4 (Has.lt HUA3.out))
          have HB4 := Lib.hid (HB3.out.trans (hb4.mono HB3.out.size))
          clear hb4
          go_wp2
          go_roundw
          case rel => exact ⟨k + 1, _, by go_num, hlt, HV.out, by rw [HC.out], HUA4.out, HB4.out⟩
          case measure => simp [intOf]; omega
      · have hd4 : decide (u.r.n = 4) = true := by simpa using hn4
        have h251' : (251 : Int) < (s[k].toNat : Int) := by omega
        have hc9 : decide ((251 : Int) < (s[k].toNat : Int)) = true := by simpa using h251'
        rw [hd4] at HWW HUW
        rw [he] at HPP
        have hno : Rl.ust (s.data.toList.take (k + 1)) = none := by
          rw [htm, Rl.ust_snoc _ _ _ hu, uput_step, he, if_neg (show ¬ (25 : Int) = 0 by decide)]
        have hall : Rl.dec s.data.toList = ([], 25) := by
          rw [Rl.dec_ust, ← List.take_append_drop (k + 1) s.data.toList, Rl.ust_none _ _ hno]; rfl
        rw [hall] at HDL
        simp only at HDL HPP
        rw [show Fr.bs [] = ⟨#[]⟩ from rfl] at HPP HDL
        clear hno hall he htm hua hbr hd4 hu
        go_wp2_with fail
        (with_reducible refine (HWW.out _).mono ?_)
        rintro e w2 ⟨rfl, hb2⟩
        have HUA2 := Lib.hid (show UAt w2 w.heap.size u.r from Has.below HUA.out hb2 (Has.lt HUA.out))
        have HB2 := Lib.hid (HB.out.trans (hb2.mono HB.out.size))
        clear hb2
        go_wp2_with fail
        (with_reducible refine (HUW.out _ _ HUA2.out).mono ?_)
        rintro e w3 ⟨rfl, rfl⟩
        go_wp2_with fail
        (with_reducible refine (HPP.out _ _ HUA2.out).mono ?_)
        rintro e w3 ⟨rfl, h1, h2⟩
        have HUA3 := Lib.hid h1
        have HB3 := Lib.hid (HB2.out.trans (h2.below HB2.out.size (by simp)))
        clear h1 h2
        go_wp2_with fail
        (with_reducible refine (HDL.out _).mono ?_)
        rintro e w4 ⟨rfl, hb4⟩
        have HUA4 := Lib.hid (show UAt w4 w.heap.size u.r from Has.below HUA3.out hb4 (Has.lt HUA3.out))
        have HB4 := Lib.hid (HB3.out.trans (hb4.mono HB3.out.size))
        clear hb4
        go_wp2_with fail
        (with_reducible refine (HUW.out _ _ HUA4.out).mono ?_)
        rintro e w5 ⟨rfl, rfl⟩
        go_wp2_with fail
        (with_reducible refine (five_walk _).mono ?_)
        rintro e w6 ⟨rfl, hb6⟩
        have HB6 := Lib.hid (HB4.out.trans (hb6.mono HB4.out.size))
        clear hb6
        go_wp2
        go_ret
        exact ⟨rfl, HB6.out⟩
    · have hlt' : ¬ (k : Int) < (s.size : Int) := by omega
      obtain rfl : k = s.size := by omega
      rw [← llen, List.take_length] at hu
      rw [HDU.out, hu] at HDL
      have HE := Lib.hid (fun b w h => uend_walk b u.r w h)
      have hue : (Rl.ufin (some u)).2 = uendE u.r := by rw [Rl.ufin_some]; unfold uendE; split <;> rfl
      rw [hue] at HDL
      generalize uendE u.r = E at *
      clear hu hue hua hbr hrow
      go_wp2_with fail
      (with_reducible refine (HDL.out _).mono ?_)
      rintro e w2 ⟨rfl, hb2⟩
      have HUA2 := Lib.hid (show UAt w2 w.heap.size u.r from Has.below HUA.out hb2 (Has.lt HUA.out))
      have HB2 := Lib.hid (HB.out.trans (hb2.mono HB.out.size))
      clear hb2
      go_wp2_with fail
      (with_reducible refine (HE.out _ _ HUA2.out).mono ?_)
      rintro e w3 ⟨rfl, h1, h2⟩
      have HB3 := Lib.hid (HB2.out.trans (h2.below HB2.out.size (by simp)))
      clear h1 h2
      go_wp2_with fail
      (with_reducible refine (five_walk _).mono ?_)
      rintro e w6 ⟨rfl, hb6⟩
      have HB6 := Lib.hid (HB3.out.trans (hb6.mono HB3.out.size))
      clear hb6
      go_wp2
      go_ret
      exact ⟨rfl, HB6.out⟩
set_option maxRecDepth 100000 in
set_option maxHeartbeats 800000 in
theorem feedUnpacks_walk (s : ByteArray) (w : World) (_ : s.size ≤ maxLen) :
    Calls Try.prog 4 #[.string s] w fun e w' => e = .returned (.bool true) ∧ Below w.heap.size w w' := by
  by_cases hl : 60 < s.size
  · have hl' : (60 : Int) < (s.size : Int) := by omega
    clear hl
    go_enter Try.func4, Try.ntmps4
    go_wp2_with fail
    (with_reducible refine (five_walk _).mono ?_)
    rintro e w1 ⟨rfl, hb1⟩
    go_wp2
    go_ret
    exact ⟨rfl, hb1⟩
  · exact feedUnpacks_in s w hl
end Go.Proofs.Ytohdifhleeonpaa
