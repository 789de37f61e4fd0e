/- The laws' small case; what is decoded. -/
import Derived.Test.YtmomcaghfkgoeaaRleDec
import Derived.Test.YtmomcaghfkgoeaaRleRef3
namespace Go.Proofs.Ytmomcaghfkgoeaa
open Go.RowKit
set_option linter.unusedVariables false
set_option linter.unusedSimpArgs false

theorem six_1 : outB (Rl.dec (⟨#[97, 97, 97, 97, 2, 98]⟩ : ByteArray).data.toList) = ⟨#[97, 97, 97, 97, 97, 97, 98]⟩ ∧ (Rl.dec (⟨#[97, 97, 97, 97, 2, 98]⟩ : ByteArray).data.toList).2 = 0 := ⟨by kernel_rfl, by kernel_rfl⟩
theorem six_2 : outB (Rl.dec (⟨#[97, 97, 97, 97]⟩ : ByteArray).data.toList) = ⟨#[]⟩ ∧ (Rl.dec (⟨#[97, 97, 97, 97]⟩ : ByteArray).data.toList).2 = 24 := ⟨by kernel_rfl, by kernel_rfl⟩
theorem six_3 : outB (Rl.dec (⟨#[97, 97, 97, 97, 252]⟩ : ByteArray).data.toList) = ⟨#[]⟩ ∧ (Rl.dec (⟨#[97, 97, 97, 97, 252]⟩ : ByteArray).data.toList).2 = 25 := ⟨by kernel_rfl, by kernel_rfl⟩
theorem six_4 : Fr.bs (Rl.enc (⟨#[97, 97, 97, 97, 97, 97, 98]⟩ : ByteArray).data.toList) = ⟨#[97, 97, 97, 97, 2, 98]⟩ := by kernel_rfl

set_option maxRecDepth 100000 in
set_option maxHeartbeats 800000 in
theorem six_walk (w : World) : Calls Try.prog 8 #[] w fun e w' => e = .returned (.bool true) ∧ Below w.heap.size w w' := by
  have C1 := Lib.hid (fun w => decode_walk ⟨#[97, 97, 97, 97, 2, 98]⟩ w (by decide))
  rw [six_1.1, six_1.2] at C1
  have C2 := Lib.hid (fun w => decode_walk ⟨#[97, 97, 97, 97]⟩ w (by decide))
  rw [six_2.1, six_2.2] at C2
  have C3 := Lib.hid (fun w => decode_walk ⟨#[97, 97, 97, 97, 252]⟩ w (by decide))
  rw [six_3.1, six_3.2] at C3
  have C4 := Lib.hid (fun w => encode_walk ⟨#[97, 97, 97, 97, 97, 97, 98]⟩ w (by decide))
  rw [six_4] at C4
  go_enter Try.func8, Try.ntmps8
  go_wp2_with fail
  (with_reducible refine (C1.out _).mono ?_)
  rintro e w1 ⟨rfl, hb1⟩
  have K1 := Lib.hid hb1
  go_wp2_with fail
  (with_reducible refine (C2.out _).mono ?_)
  rintro e w2 ⟨rfl, hb2⟩
  have K2 := Lib.hid (K1.out.trans (hb2.mono K1.out.size))
  clear hb1 hb2
  go_wp2_with fail
  (with_reducible refine (C3.out _).mono ?_)
  rintro e w3 ⟨rfl, hb3⟩
  have K3 := Lib.hid (K2.out.trans (hb3.mono K2.out.size))
  clear hb3
  go_wp2_with fail
  (with_reducible refine (C4.out _).mono ?_)
  rintro e w4 ⟨rfl, hb4⟩
  have K4 := Lib.hid (K3.out.trans (hb4.mono K3.out.size))
  clear hb4
  go_wp2
  go_ret
  exact ⟨rfl, K4.out⟩

theorem outB_dec (l : List UInt8) : outB (Rl.dec l) = Fr.bs (Rl.dec l).1 := by
  rcases Rl.dec_fault l with h | h
  · unfold outB; rw [if_pos h]
  · unfold outB; rw [if_neg (by omega), h.1]; rfl
theorem outN_dec (l : List UInt8) : outN (Rl.dec l) = (Rl.dec l).1.length := by
  rcases Rl.dec_fault l with h | h
  · unfold outN; rw [if_pos h]
  · unfold outN; rw [if_neg (by omega), h.1]; rfl

set_option maxRecDepth 100000 in
set_option maxHeartbeats 800000 in
theorem rleDecodes_walk (s : ByteArray) (w : World) (_ : s.size ≤ maxLen) :
    Calls Try.prog 5 #[.string s] w fun e w' => e = .returned (.bool true) ∧ Below w.heap.size w w' := by
  have HE := Lib.hid (fun w => six_walk w)
  by_cases hl : 100 < s.size
  · have hl' : (100 : Int) < (s.size : Int) := by omega
    go_enter Try.func5, Try.ntmps5
    go_wp2_with fail
    (with_reducible refine (HE.out _).mono ?_)
    rintro e w1 ⟨rfl, hb1⟩
    go_wp2
    go_ret
    exact ⟨rfl, hb1⟩
  · have hl' : ¬ (100 : Int) < (s.size : Int) := by omega
    have H1 := Lib.hid (decode_walk s w (by omega))
    have H2 := Lib.hid (fun w => length_walk s w (by omega))
    have H3 := Lib.hid (fun w => refdecode_walk s w (by omega))
    rw [outB_dec] at H1
    rw [outN_dec, ← bs_size] at H2
    generalize Rl.dec s.data.toList = R at *
    obtain ⟨r1, r2⟩ := R
    simp only at H1 H2 H3
    generalize Fr.bs r1 = S at *
    clear hl
    go_enter Try.func5, Try.ntmps5
    go_wp2_with fail
    (with_reducible refine (H1.out).mono ?_)
    rintro e w1 ⟨rfl, hb1⟩
    have K1 := Lib.hid hb1
    go_wp2_with fail
    (with_reducible refine (H2.out _).mono ?_)
    rintro e w2 ⟨rfl, hb2⟩
    have K2 := Lib.hid (K1.out.trans (hb2.mono K1.out.size))
    clear hb1 hb2
    go_wp2_with fail
    (with_reducible refine (H3.out _).mono ?_)
    rintro e w3 ⟨rfl, hb3⟩
    have K3 := Lib.hid (K2.out.trans (hb3.mono K2.out.size))
    clear hb3
    go_wp2_with fail
    (with_reducible refine (HE.out _).mono ?_)
    rintro e w4 ⟨rfl, hb4⟩
    have K4 := Lib.hid (K3.out.trans (hb4.mono K3.out.size))
    clear hb4
    go_wp2
    go_ret
    exact ⟨rfl, K4.out⟩

set_option maxRecDepth 100000 in
set_option maxHeartbeats 800000 in
theorem rleEncodes_walk (s : ByteArray) (w : World) (_ : s.size ≤ maxLen) :
    Calls Try.prog 7 #[.string s] w fun e w' => e = .returned (.bool true) ∧ Below w.heap.size w w' := by
  have HE := Lib.hid (fun w => six_walk w)
  by_cases hl : 2000 < s.size
  · have hl' : (2000 : Int) < (s.size : Int) := by omega
    go_enter Try.func7, Try.ntmps7
    go_wp2_with fail
    (with_reducible refine (HE.out _).mono ?_)
    rintro e w1 ⟨rfl, hb1⟩
    go_wp2
    go_ret
    exact ⟨rfl, hb1⟩
  · have hl' : ¬ (2000 : Int) < (s.size : Int) := by omega
    have hsm := Rl.enc_small s.data.toList
    rw [llen] at hsm
    have hde := Rl.dec_enc s.data.toList
    have HX := Lib.hid (encode_walk s w (by omega))
    have HY := Lib.hid (fun w => refencode_walk s w (by omega))
    have HZ := Lib.hid (fun w => size_walk s w (by omega))
    rw [← bs_size] at HZ hsm
    have hD := outB_dec (Rl.enc s.data.toList)
    have hN := outN_dec (Rl.enc s.data.toList)
    have hl2 : (Fr.bs (Rl.enc s.data.toList)).data.toList = Rl.enc s.data.toList := Fr.list_bs _
    rw [hde] at hD hN
    simp only [Fr.bs_list] at hD
    rw [llen] at hN
    have H1 := Lib.hid (fun w => decode_walk (Fr.bs (Rl.enc s.data.toList)) w (by omega))
    have H2 := Lib.hid (fun w => length_walk (Fr.bs (Rl.enc s.data.toList)) w (by omega))
    rw [hl2, hde] at H1 H2
    rw [hD] at H1
    rw [hN] at H2
    simp only at H1 H2
    generalize Fr.bs (Rl.enc s.data.toList) = T at *
    clear hl hsm hde hD hN hl2
    go_enter Try.func7, Try.ntmps7
    go_wp2_with fail
    (with_reducible refine (HX.out).mono ?_)
    rintro e w1 ⟨rfl, hb1⟩
    have K1 := Lib.hid hb1
    go_wp2_with fail
    (with_reducible refine (H1.out _).mono ?_)
    rintro e w2 ⟨rfl, hb2⟩
    have K2 := Lib.hid (K1.out.trans (hb2.mono K1.out.size))
    clear hb1 hb2
    go_wp2_with fail
    (with_reducible refine (H2.out _).mono ?_)
    rintro e w3 ⟨rfl, hb3⟩
    have K3 := Lib.hid (K2.out.trans (hb3.mono K2.out.size))
    clear hb3
    go_wp2_with fail
    (with_reducible refine (HY.out _).mono ?_)
    rintro e w4 ⟨rfl, hb4⟩
    have K4 := Lib.hid (K3.out.trans (hb4.mono K3.out.size))
    clear hb4
    go_wp2_with fail
    (with_reducible refine (HZ.out _).mono ?_)
    rintro e w5 ⟨rfl, hb5⟩
    have K5 := Lib.hid (K4.out.trans (hb5.mono K4.out.size))
    clear hb5
    go_wp2_with fail
    (with_reducible refine (HE.out _).mono ?_)
    rintro e w6 ⟨rfl, hb6⟩
    have K6 := Lib.hid (K5.out.trans (hb6.mono K5.out.size))
    clear hb6
    go_wp2
    go_ret
    exact ⟨rfl, K6.out⟩
end Go.Proofs.Ytmomcaghfkgoeaa
