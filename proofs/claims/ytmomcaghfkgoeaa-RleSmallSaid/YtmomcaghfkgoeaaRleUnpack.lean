/- 'unpack' hands out what a packed text's bytes stand for, to each of its two closures. (Printed by gen_rleunpack.py.) -/
import Derived.Test.YtmomcaghfkgoeaaRleWalk
namespace Go.Proofs.Ytmomcaghfkgoeaa
open Go.RowKit
set_option linter.unusedVariables false
set_option linter.unusedSimpArgs false

/-- what is left behind: what stood for so far, all of it if there was no fault -/
def UOut (I : List UInt8 → World → Prop) (R : List UInt8 × Int) (n : Nat) (w : World) : Prop := ∃ acc, I acc w ∧ (R.2 = 0 → acc = R.1) ∧ acc.length ≤ n
theorem Rl.mach_at (s : ByteArray) (k r : Nat) (b : UInt8) (acc : List UInt8) (h : k < s.size) : Rl.mach r b acc (s.data.toList.drop k) = if r = 4 then (if 251 < s[k].toNat then ([], 25) else Rl.mach 0 s[k] (acc ++ List.replicate s[k].toNat b) (s.data.toList.drop (k + 1)))
      else if 0 < r ∧ s[k] = b then Rl.mach (r + 1) s[k] (acc ++ [s[k]]) (s.data.toList.drop (k + 1)) else Rl.mach 1 s[k] (acc ++ [s[k]]) (s.data.toList.drop (k + 1)) := by
  rw [List.drop_eq_getElem_cons (by rw [llen]; exact h), Rl.mach_cons, lget s k h]
theorem Rl.mach_end (s : ByteArray) (k r : Nat) (b : UInt8) (acc : List UInt8) (h : s.size ≤ k) : Rl.mach r b acc (s.data.toList.drop k) = if r = 4 then ([], 24) else (acc, 0) := by
  rw [List.drop_of_length_le (by rw [llen]; exact h), Rl.mach_nil]


set_option maxRecDepth 100000 in
set_option maxHeartbeats 1600000 in
theorem unpack_decode (s : ByteArray) (c : Addr) (w : World) (hs : s.size ≤ 10100) (I : List UInt8 → World → Prop) (hD : ∀ acc w n, I acc w → I acc (w.drewN n))
    (hK : ∀ acc w w', I acc w → Below w.heap.size w w' → I acc w')
    (hS : ∀ acc (b : UInt8) (n : Nat) w, n ≤ 255 → acc.length ≤ 3000000 → I acc w → Calls Try.prog 26 #[.int .u8 (b.toNat : Int), .int .i64 (n : Int), .pointer (some c)] w fun e w' => e = .returned (.tuple #[]) ∧ I (acc ++ List.replicate n b) w') (h0 : I [] w) :
    Calls Try.prog 25 #[.string s, .func (.func 26) #[] #[.pointer (some c)]] w fun e w' => e = .returned (.int .i64 (Rl.dec s.data.toList).2) ∧ UOut I (Rl.dec s.data.toList) (255 * s.size) w' := by
  have hR0 : Rl.mach 0 0 [] (s.data.toList.drop 0) = Rl.dec s.data.toList := rfl
  generalize Rl.dec s.data.toList = R at *
  have HR := Lib.hid hR0
  have HD := Lib.hid hD
  have HK := Lib.hid hK
  have HS := Lib.hid hS
  have HI := Lib.hid h0
  clear hR0 hD hK hS h0
  go_enter Try.func25, Try.ntmps25
  go_wp2_with fail
  go_loopw [9, 5] (fun i x wr => ∃ (k r : Nat) (b : UInt8) (acc : List UInt8), i = .int .i64 k ∧ k ≤ s.size ∧ x = .int .i64 r ∧ r ≤ 4 ∧ (0 < r → 0 < k ∧ s.data.toList.getD (k - 1) 0 = b) ∧ Rl.mach r b acc (s.data.toList.drop k) = R ∧ acc.length ≤ 255 * k ∧ I acc wr) (fun i _ _ => s.size - (intOf i).toNat)
  case atStart => exact ⟨0, 0, 0, [], rfl, Nat.zero_le _, rfl, by decide, fun h => absurd h (by decide), HR.out, Nat.zero_le _, HI.out⟩
  case round =>
    obtain ⟨k, r, b, acc, rfl, hk, rfl, hr, hb, hm, hal, hI⟩ := hrel
    have HI1 := Lib.hid hI
    clear hI
    by_cases hlt : k < s.size
    · have hlt' : (k : Int) < (s.size : Int) := by omega
      rw [Rl.mach_at s k r b acc hlt] at hm
      have hc := s[k].toNat_lt
      by_cases h4 : r = 4
      · subst h4
        rw [if_pos rfl] at hm
        obtain ⟨hk0, hb1⟩ := hb (by decide)
        obtain ⟨m, hm1⟩ : ∃ m, k = m + 1 := ⟨k - 1, by omega⟩
        have hmlt : m < s.size := by omega
        rw [show k - 1 = m by omega, getD_idx s m hmlt] at hb1
        subst hb1
        have hmlt' : (m : Int) < (s.size : Int) := by omega
        have hww : wrap64 ((k : Int) - 1) = (m : Int) := by unfold wrap64; omega
        have hkm : (k : Int) - 1 = (m : Int) := by omega
        have hmb : (m : Int) ≤ 100000 := by omega
        clear hm1
        by_cases hbig : 251 < s[k].toNat
        · have hbig' : (251 : Int) < (s[k].toNat : Int) := by omega
          rw [if_pos hbig] at hm
          subst hm
          have HL := Lib.hid (show acc.length ≤ 255 * s.size by omega)
          go_wp2
          go_ret
          exact ⟨rfl, acc, HI1.out, fun h => absurd h (by decide), HL.out⟩
        · have hbig' : ¬ (251 : Int) < (s[k].toNat : Int) := by omega
          rw [if_neg hbig] at hm
          have HM := Lib.hid hm
          clear hm hb
          have HC := Lib.hid (fun w h => HS.out acc s[m] s[k].toNat w (by omega) (by omega) h)
          go_wp2_with fail
          refine region_later 9 (by kernel_rfl) (by kernel_rfl) ?_
          simp only [List.take_succ_cons, List.take_zero, List.drop_succ_cons, List.drop_zero]
          repeat (go_big_quiet_step (fail))
          refine wpQuiet_nil ?_
          rintro w' ⟨x, rfl⟩
          have HI2 := Lib.hid (HK.out _ _ _ HI1.out x.below)
          generalize x.at = w2 at *
          go_wp2_with fail
          refine (HC.out _ HI2.out).mono ?_
          rintro e2 w3 ⟨rfl, hI3⟩
          have HI3 := Lib.hid hI3
          clear hI3 hww hkm
          go_wp2
          go_roundw
          case rel => exact ⟨k + 1, 0, s[k], acc ++ List.replicate s[k].toNat s[m], by go_num, hlt, rfl, by decide, fun h => absurd h (by decide), HM.out, by rw [List.length_append, List.length_replicate]; omega, HI3.out⟩
          case measure => simp [intOf]; omega
      · rw [if_neg h4] at hm
        have h4' : ((r : Int) == 4) = false := by simpa using (show ¬ (r : Int) = 4 by omega)
        by_cases h0 : 0 < r
        · obtain ⟨hk0, hb1⟩ := hb h0
          obtain ⟨m, hm1⟩ : ∃ m, k = m + 1 := ⟨k - 1, by omega⟩
          have hmlt : m < s.size := by omega
          rw [show k - 1 = m by omega, getD_idx s m hmlt] at hb1
          subst hb1
          have hmlt' : (m : Int) < (s.size : Int) := by omega
          have hww : wrap64 ((k : Int) - 1) = (m : Int) := by unfold wrap64; omega
          have hkm : (k : Int) - 1 = (m : Int) := by omega
          have hmb : (m : Int) ≤ 100000 := by omega
          clear hm1
          have c0 : decide ((0 : Int) < (r : Int)) = true := by simp; omega
          by_cases heq : s[k] = s[m]
          · rw [if_pos ⟨h0, heq⟩] at hm
            have HM := Lib.hid hm
            have c1 := u8_eq _ _ heq
            clear hm hb heq
            go_wp2_with fail
            go_quiet (fail)
            clear hww hkm
            go_wp2_with fail
            refine (HS.out acc s[k] 1 _ (by omega) (by omega) (HD.out _ _ _ HI1.out)).mono ?_
            rintro e2 w3 ⟨rfl, hI3⟩
            have HI3 := Lib.hid hI3
            clear hI3
            go_wp2
            go_roundw
            case rel => exact ⟨k + 1, r + 1, s[k], acc ++ [s[k]], by go_num, hlt, by go_num, by omega, fun _ => ⟨by omega, by rw [Nat.add_sub_cancel]; exact getD_idx s k hlt⟩, HM.out, by rw [List.length_append]; simp; omega, HI3.out⟩
            case measure => simp [intOf]; omega
          · rw [if_neg (fun h => heq h.2)] at hm
            have HM := Lib.hid hm
            have c1 := u8_ne _ _ heq
            clear hm hb heq
            go_wp2_with fail
            go_quiet (fail)
            clear hww hkm
            go_wp2_with fail
            refine (HS.out acc s[k] 1 _ (by omega) (by omega) (HD.out _ _ _ HI1.out)).mono ?_
            rintro e2 w3 ⟨rfl, hI3⟩
            have HI3 := Lib.hid hI3
            clear hI3
            go_wp2
            go_roundw
            case rel => exact ⟨k + 1, 1, s[k], acc ++ [s[k]], by go_num, hlt, by go_num, by omega, fun _ => ⟨by omega, by rw [Nat.add_sub_cancel]; exact getD_idx s k hlt⟩, HM.out, by rw [List.length_append]; simp; omega, HI3.out⟩
            case measure => simp [intOf]; omega
        · rw [if_neg (fun h => h0 h.1)] at hm
          have HM := Lib.hid hm
          have c0 : decide ((0 : Int) < (r : Int)) = false := by simp; omega
          clear hm hb
          go_wp2_with fail
          go_quiet (fail)
          go_wp2_with fail
          refine (HS.out acc s[k] 1 _ (by omega) (by omega) (HD.out _ _ _ HI1.out)).mono ?_
          rintro e2 w3 ⟨rfl, hI3⟩
          have HI3 := Lib.hid hI3
          clear hI3
          go_wp2
          go_roundw
          case rel => exact ⟨k + 1, 1, s[k], acc ++ [s[k]], by go_num, hlt, by go_num, by omega, fun _ => ⟨by omega, by rw [Nat.add_sub_cancel]; exact getD_idx s k hlt⟩, HM.out, by rw [List.length_append]; simp; omega, HI3.out⟩
          case measure => simp [intOf]; omega
    · have hlt' : ¬ (k : Int) < (s.size : Int) := by omega
      rw [Rl.mach_end s k r b acc (by omega)] at hm
      have HL := Lib.hid (show acc.length ≤ 255 * s.size by omega)
      by_cases h4 : r = 4
      · rw [if_pos h4] at hm
        subst hm
        have h4' : ((r : Int) == 4) = true := by simpa using (show (r : Int) = 4 by omega)
        go_wp2
        go_ret
        exact ⟨rfl, acc, HI1.out, fun h => absurd h (by decide), HL.out⟩
      · rw [if_neg h4] at hm
        subst hm
        have h4' : ((r : Int) == 4) = false := by simpa using (show ¬ (r : Int) = 4 by omega)
        go_wp2
        go_ret
        exact ⟨rfl, acc, HI1.out, fun h => rfl, HL.out⟩

set_option maxRecDepth 100000 in
set_option maxHeartbeats 1600000 in
theorem unpack_length (s : ByteArray) (c : Addr) (w : World) (hs : s.size ≤ 10100) (I : List UInt8 → World → Prop) (hD : ∀ acc w n, I acc w → I acc (w.drewN n))
    (hK : ∀ acc w w', I acc w → Below w.heap.size w w' → I acc w')
    (hS : ∀ acc (b : UInt8) (n : Nat) w, n ≤ 255 → acc.length ≤ 3000000 → I acc w → Calls Try.prog 27 #[.int .u8 (b.toNat : Int), .int .i64 (n : Int), .pointer (some c)] w fun e w' => e = .returned (.tuple #[]) ∧ I (acc ++ List.replicate n b) w') (h0 : I [] w) :
    Calls Try.prog 25 #[.string s, .func (.func 27) #[] #[.pointer (some c)]] w fun e w' => e = .returned (.int .i64 (Rl.dec s.data.toList).2) ∧ UOut I (Rl.dec s.data.toList) (255 * s.size) w' := by
  have hR0 : Rl.mach 0 0 [] (s.data.toList.drop 0) = Rl.dec s.data.toList := rfl
  generalize Rl.dec s.data.toList = R at *
  have HR := Lib.hid hR0
  have HD := Lib.hid hD
  have HK := Lib.hid hK
  have HS := Lib.hid hS
  have HI := Lib.hid h0
  clear hR0 hD hK hS h0
  go_enter Try.func25, Try.ntmps25
  go_wp2_with fail
  go_loopw [9, 5] (fun i x wr => ∃ (k r : Nat) (b : UInt8) (acc : List UInt8), i = .int .i64 k ∧ k ≤ s.size ∧ x = .int .i64 r ∧ r ≤ 4 ∧ (0 < r → 0 < k ∧ s.data.toList.getD (k - 1) 0 = b) ∧ Rl.mach r b acc (s.data.toList.drop k) = R ∧ acc.length ≤ 255 * k ∧ I acc wr) (fun i _ _ => s.size - (intOf i).toNat)
  case atStart => exact ⟨0, 0, 0, [], rfl, Nat.zero_le _, rfl, by decide, fun h => absurd h (by decide), HR.out, Nat.zero_le _, HI.out⟩
  case round =>
    obtain ⟨k, r, b, acc, rfl, hk, rfl, hr, hb, hm, hal, hI⟩ := hrel
    have HI1 := Lib.hid hI
    clear hI
    by_cases hlt : k < s.size
    · have hlt' : (k : Int) < (s.size : Int) := by omega
      rw [Rl.mach_at s k r b acc hlt] at hm
      have hc := s[k].toNat_lt
      by_cases h4 : r = 4
      · subst h4
        rw [if_pos rfl] at hm
        obtain ⟨hk0, hb1⟩ := hb (by decide)
        obtain ⟨m, hm1⟩ : ∃ m, k = m + 1 := ⟨k - 1, by omega⟩
        have hmlt : m < s.size := by omega
        rw [show k - 1 = m by omega, getD_idx s m hmlt] at hb1
        subst hb1
        have hmlt' : (m : Int) < (s.size : Int) := by omega
        have hww : wrap64 ((k : Int) - 1) = (m : Int) := by unfold wrap64; omega
        have hkm : (k : Int) - 1 = (m : Int) := by omega
        have hmb : (m : Int) ≤ 100000 := by omega
        clear hm1
        by_cases hbig : 251 < s[k].toNat
        · have hbig' : (251 : Int) < (s[k].toNat : Int) := by omega
          rw [if_pos hbig] at hm
          subst hm
          have HL := Lib.hid (show acc.length ≤ 255 * s.size by omega)
          go_wp2
          go_ret
          exact ⟨rfl, acc, HI1.out, fun h => absurd h (by decide), HL.out⟩
        · have hbig' : ¬ (251 : Int) < (s[k].toNat : Int) := by omega
          rw [if_neg hbig] at hm
          have HM := Lib.hid hm
          clear hm hb
          have HC := Lib.hid (fun w h => HS.out acc s[m] s[k].toNat w (by omega) (by omega) h)
          go_wp2_with fail
          refine region_later 9 (by kernel_rfl) (by kernel_rfl) ?_
          simp only [List.take_succ_cons, List.take_zero, List.drop_succ_cons, List.drop_zero]
          repeat (go_big_quiet_step (fail))
          refine wpQuiet_nil ?_
          rintro w' ⟨x, rfl⟩
          have HI2 := Lib.hid (HK.out _ _ _ HI1.out x.below)
          generalize x.at = w2 at *
          go_wp2_with fail
          refine (HC.out _ HI2.out).mono ?_
          rintro e2 w3 ⟨rfl, hI3⟩
          have HI3 := Lib.hid hI3
          clear hI3 hww hkm
          go_wp2
          go_roundw
          case rel => exact ⟨k + 1, 0, s[k], acc ++ List.replicate s[k].toNat s[m], by go_num, hlt, rfl, by decide, fun h => absurd h (by decide), HM.out, by rw [List.length_append, List.length_replicate]; omega, HI3.out⟩
          case measure => simp [intOf]; omega
      · rw [if_neg h4] at hm
        have h4' : ((r : Int) == 4) = false := by simpa using (show ¬ (r : Int) = 4 by omega)
        by_cases h0 : 0 < r
        · obtain ⟨hk0, hb1⟩ := hb h0
          obtain ⟨m, hm1⟩ : ∃ m, k = m + 1 := ⟨k - 1, by omega⟩
          have hmlt : m < s.size := by omega
          rw [show k - 1 = m by omega, getD_idx s m hmlt] at hb1
          subst hb1
          have hmlt' : (m : Int) < (s.size : Int) := by omega
          have hww : wrap64 ((k : Int) - 1) = (m : Int) := by unfold wrap64; omega
          have hkm : (k : Int) - 1 = (m : Int) := by omega
          have hmb : (m : Int) ≤ 100000 := by omega
          clear hm1
          have c0 : decide ((0 : Int) < (r : Int)) = true := by simp; omega
          by_cases heq : s[k] = s[m]
          · rw [if_pos ⟨h0, heq⟩] at hm
            have HM := Lib.hid hm
            have c1 := u8_eq _ _ heq
            clear hm hb heq
            go_wp2_with fail
            go_quiet (fail)
            clear hww hkm
            go_wp2_with fail
            refine (HS.out acc s[k] 1 _ (by omega) (by omega) (HD.out _ _ _ HI1.out)).mono ?_
            rintro e2 w3 ⟨rfl, hI3⟩
            have HI3 := Lib.hid hI3
            clear hI3
            go_wp2
            go_roundw
            case rel => exact ⟨k + 1, r + 1, s[k], acc ++ [s[k]], by go_num, hlt, by go_num, by omega, fun _ => ⟨by omega, by rw [Nat.add_sub_cancel]; exact getD_idx s k hlt⟩, HM.out, by rw [List.length_append]; simp; omega, HI3.out⟩
            case measure => simp [intOf]; omega
          · rw [if_neg (fun h => heq h.2)] at hm
            have HM := Lib.hid hm
            have c1 := u8_ne _ _ heq
            clear hm hb heq
            go_wp2_with fail
            go_quiet (fail)
            clear hww hkm
            go_wp2_with fail
            refine (HS.out acc s[k] 1 _ (by omega) (by omega) (HD.out _ _ _ HI1.out)).mono ?_
            rintro e2 w3 ⟨rfl, hI3⟩
            have HI3 := Lib.hid hI3
            clear hI3
            go_wp2
            go_roundw
            case rel => exact ⟨k + 1, 1, s[k], acc ++ [s[k]], by go_num, hlt, by go_num, by omega, fun _ => ⟨by omega, by rw [Nat.add_sub_cancel]; exact getD_idx s k hlt⟩, HM.out, by rw [List.length_append]; simp; omega, HI3.out⟩
            case measure => simp [intOf]; omega
        · rw [if_neg (fun h => h0 h.1)] at hm
          have HM := Lib.hid hm
          have c0 : decide ((0 : Int) < (r : Int)) = false := by simp; omega
          clear hm hb
          go_wp2_with fail
          go_quiet (fail)
          go_wp2_with fail
          refine (HS.out acc s[k] 1 _ (by omega) (by omega) (HD.out _ _ _ HI1.out)).mono ?_
          rintro e2 w3 ⟨rfl, hI3⟩
          have HI3 := Lib.hid hI3
          clear hI3
          go_wp2
          go_roundw
          case rel => exact ⟨k + 1, 1, s[k], acc ++ [s[k]], by go_num, hlt, by go_num, by omega, fun _ => ⟨by omega, by rw [Nat.add_sub_cancel]; exact getD_idx s k hlt⟩, HM.out, by rw [List.length_append]; simp; omega, HI3.out⟩
          case measure => simp [intOf]; omega
    · have hlt' : ¬ (k : Int) < (s.size : Int) := by omega
      rw [Rl.mach_end s k r b acc (by omega)] at hm
      have HL := Lib.hid (show acc.length ≤ 255 * s.size by omega)
      by_cases h4 : r = 4
      · rw [if_pos h4] at hm
        subst hm
        have h4' : ((r : Int) == 4) = true := by simpa using (show (r : Int) = 4 by omega)
        go_wp2
        go_ret
        exact ⟨rfl, acc, HI1.out, fun h => absurd h (by decide), HL.out⟩
      · rw [if_neg h4] at hm
        subst hm
        have h4' : ((r : Int) == 4) = false := by simpa using (show ¬ (r : Int) = 4 by omega)
        go_wp2
        go_ret
        exact ⟨rfl, acc, HI1.out, fun h => rfl, HL.out⟩
end Go.Proofs.Ytmomcaghfkgoeaa

