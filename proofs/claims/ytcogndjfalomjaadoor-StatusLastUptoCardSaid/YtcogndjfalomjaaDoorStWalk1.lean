/- A status's numbers. -/
import Derived.Test.YtcogndjfalomjaaDoorStMath
import Derived.Test.YtcogndjfalomjaaDoorRleRef1
namespace Go.Proofs.YtcogndjfalomjaaDoor
open Go.RowKit
set_option linter.unusedVariables false

theorem stempty (s : ByteArray) : s.toList.isEmpty = decide (s.size = 0) := by
  rw [ByteArray.toList_eq, Bool.eq_iff_iff, decide_eq_true_eq, List.isEmpty_iff, ← Fr.size_list]
  exact ⟨fun h => by rw [h]; rfl, fun h => List.eq_nil_of_length_eq_zero h⟩
set_option maxRecDepth 100000 in
set_option maxHeartbeats 800000 in
theorem number_walk (s : ByteArray) (w : World) : Calls Tryd.prog 25 #[.string s] w fun e w' => e = .returned (.int .i64 (St.number s.data.toList)) ∧ Below w.heap.size w w' := by
  have hnum : St.number s.data.toList = if s.data.toList = [] ∨ 13 < s.data.toList.length then -1 else St.scan s.data.toList 0 := by unfold St.number; rw [St.scan_eq]
  rw [llen] at hnum
  by_cases h0 : s.size = 0
  · have es : s.toList.isEmpty = true := by rw [stempty, decide_eq_true h0]
    have HN := Lib.hid (show St.number s.data.toList = -1 by rw [hnum, if_pos (.inl (List.length_eq_zero_iff.1 (by rw [llen]; exact h0)))])
    clear hnum h0
    go_enter Tryd.func25, Tryd.ntmps25
    go_wp2
    go_ret
    exact ⟨by rw [HN.out]; rfl, Below.refl _ _⟩
  · have es : s.toList.isEmpty = false := by rw [stempty, decide_eq_false h0]
    by_cases h13 : 13 < s.size
    · have h13' : (13 : Int) < (s.size : Int) := by omega
      have HN := Lib.hid (show St.number s.data.toList = -1 by rw [hnum, if_pos (.inr h13)])
      clear hnum h0
      go_enter Tryd.func25, Tryd.ntmps25
      go_wp2
      go_ret
      exact ⟨by rw [HN.out]; rfl, Below.refl _ _⟩
    · have h13' : ¬ (13 : Int) < (s.size : Int) := by omega
      have HN := Lib.hid (show St.scan s.data.toList 0 = St.number s.data.toList by
        rw [hnum, if_neg]
        rintro (h | h)
        · exact h0 (by rw [← llen, h]; rfl)
        · exact h13 h)
      generalize St.number s.data.toList = R at *
      have HS := Lib.hid (show s.size ≤ 13 by omega)
      clear hnum h0 h13
      go_enter Tryd.func25, Tryd.ntmps25
      go_wp2_with fail
      clear es h13'
      go_loopw [3, 14] (fun v i wr => ∃ k n : Nat, k ≤ s.size ∧ i = .int .i64 k ∧ v = .int .i64 n ∧ n < 10 ^ k ∧ St.scan (s.data.toList.drop k) n = R ∧ Below w.heap.size w wr) (fun _ i _ => s.size - (intOf i).toNat)
      case atStart => exact ⟨0, 0, Nat.zero_le _, rfl, rfl, by decide, HN.out, Below.refl _ _⟩
      case round =>
        obtain ⟨k, n, hk, rfl, rfl, hn, hsc, hbr⟩ := hrel
        have HB := Lib.hid hbr
        have hs := HS.out
        have hpw : (10 : Nat) ^ k ≤ 10 ^ 13 := Nat.pow_le_pow_right (by decide) (by omega)
        have hn13 : (n : Int) < 10000000000000 := by have : (10 : Nat) ^ 13 = 10000000000000 := by decide
                                                     omega
        have Hn := Lib.hid hn
        clear hbr HN hpw hn
        by_cases hlt : k < s.size
        · have hlt' : (k : Int) < (s.size : Int) := by omega
          have hkl : k < s.data.toList.length := by rw [llen]; exact hlt
          have hd1 := St.scan_dig s.data.toList k n hkl
          have hd2 := St.scan_no s.data.toList k n hkl
          rw [hsc, lget s k hlt] at hd1 hd2
          have hb := (s[k]'hlt).toNat_lt
          clear hsc
          by_cases hdg : St.isDig (s[k]'hlt) = true
          · have h2 : 48 ≤ (s[k]'hlt).toNat ∧ (s[k]'hlt).toNat ≤ 57 := of_decide_eq_true hdg
            have c1 : ¬ (((s[k]'hlt).toNat : Int) < 48) := by omega
            have c2 : ¬ ((57 : Int) < ((s[k]'hlt).toNat : Int)) := by omega
            have HD := Lib.hid (hd1 hdg).symm
            clear hd1 hd2 hdg
            go_wp2_with fail
            go_roundw
            case rel =>
              have hp := Hn.out
              refine ⟨k + 1, 10 * n + ((s[k]'hlt).toNat - 48), hlt, by go_num, by go_num, ?_, HD.out, HB.out⟩
              rw [Nat.pow_succ]; omega
            case measure => simp [intOf]; omega
          · have h2 : (s[k]'hlt).toNat < 48 ∨ 57 < (s[k]'hlt).toNat := by
              apply Classical.byContradiction
              intro h
              exact hdg (decide_eq_true (by omega))
            have HD := Lib.hid (hd2 hdg)
            clear hd1 hd2 hdg
            by_cases c1 : ((s[k]'hlt).toNat : Int) < 48
            · clear h2
              go_wp2
              (try simp only [Exit.inBlock, Exit.then])
              go_ret
              exact ⟨by rw [HD.out]; rfl, HB.out⟩
            · have c2 : (57 : Int) < ((s[k]'hlt).toNat : Int) := by omega
              clear h2
              go_wp2
              (try simp only [Exit.inBlock, Exit.then])
              go_ret
              exact ⟨by rw [HD.out]; rfl, HB.out⟩
        · have hlt' : ¬ (k : Int) < (s.size : Int) := by omega
          have HD := Lib.hid ((St.scan_end s.data.toList k n (by rw [llen]; omega)).symm.trans hsc)
          clear hsc
          go_wp2
          go_ret
          exact ⟨by rw [← HD.out]; rfl, HB.out⟩
end Go.Proofs.YtcogndjfalomjaaDoor
