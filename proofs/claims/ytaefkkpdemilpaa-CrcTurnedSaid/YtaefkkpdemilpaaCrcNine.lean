/- Walks: Combine of the program and of the reference; the small case that each statement asks. -/
import Derived.Test.YtaefkkpdemilpaaCrcRef
namespace Go.Proofs.Ytaefkkpdemilpaa
open Go.RowKit

theorem comb_bits (t b : BitVec 32) : bits .xor .u32 (bits .xor .u32 ((t.toNat : Int) * 2 % 4294967296) ((t.toNat : Int) / 2147483648)) (b.toNat : Int) = ((Crc.comb t b).toNat : Int) := by
  have ht := t.isLt
  have h1 := u32_xor_nat (t.toNat * 2 % 4294967296) (t.toNat / 2147483648) (by omega) (by omega)
  have h2 : (t.toNat * 2 % 4294967296) ^^^ (t.toNat / 2147483648) = (t <<< 1 ^^^ t >>> 31).toNat := by
    rw [BitVec.toNat_xor, BitVec.toNat_shiftLeft, BitVec.toNat_ushiftRight, Nat.shiftLeft_eq, Nat.shiftRight_eq_div_pow]
  refine (congrArg (fun z => bits .xor .u32 z (b.toNat : Int)) (h1.trans (congrArg _ h2))).trans ?_
  exact bits_u32_xor _ _
set_option maxRecDepth 100000 in
set_option maxHeartbeats 400000 in
theorem combine_walk (t b : BitVec 32) (w : World) :
    Calls Try.prog 22 #[vW t, vW b] w fun e w' => e = .returned (vW (Crc.comb t b)) ∧ w = w' := by
  have hx := comb_bits t b
  have h0 : (0 : Int) ≤ (t.toNat : Int) := by omega
  simp only [vW] at *
  generalize ((Crc.comb t b).toNat : Int) = r at *
  generalize (t.toNat : Int) = n at *
  generalize (b.toNat : Int) = m at *
  go_enter Try.func22, Try.ntmps22
  go_wp2
  go_ret
  exact ⟨rfl, rfl⟩
theorem refcomb_lo (t b : BitVec 32) (h : t.toNat < 2147483648) : bits .xor .u32 ((t.toNat : Int) * 2) (b.toNat : Int) = ((Crc.comb t b).toNat : Int) := by
  have e : (t.toNat : Int) * (2 : Int) = ((t <<< 1 ^^^ t >>> 31).toNat : Int) := by rw [Crc.rot_xor]; omega
  rw [e]; exact bits_u32_xor _ _
theorem refcomb_hi (t b : BitVec 32) (h : 2147483648 ≤ t.toNat) : bits .xor .u32 ((t.toNat : Int) * 2 % 4294967296 + 1) (b.toNat : Int) = ((Crc.comb t b).toNat : Int) := by
  have ht := t.isLt
  have e : (t.toNat : Int) * (2 : Int) % (4294967296 : Int) + (1 : Int) = ((t <<< 1 ^^^ t >>> 31).toNat : Int) := by rw [Crc.rot_xor]; omega
  rw [e]; exact bits_u32_xor _ _
set_option maxRecDepth 100000 in
set_option maxHeartbeats 400000 in
theorem refcombine_walk (t b : BitVec 32) (w : World) :
    Calls Try.prog 23 #[vW t, vW b] w fun e w' => e = .returned (vW (Crc.comb t b)) ∧ w = w' := by
  by_cases h : t.toNat < 2147483648
  · have hx := refcomb_lo t b h
    have h0 : (0 : Int) ≤ (t.toNat : Int) := by omega
    have h1 : (t.toNat : Int) < 2147483648 := by omega
    have h2 : decide ((2147483648 : Int) ≤ (t.toNat : Int)) = false := by simp; omega
    simp only [vW] at *
    clear h
    generalize ((Crc.comb t b).toNat : Int) = r at *
    generalize (t.toNat : Int) = n at *
    generalize (b.toNat : Int) = m at *
    go_enter Try.func23, Try.ntmps23
    go_wp2
    go_ret
    exact ⟨rfl, rfl⟩
  · have hx := refcomb_hi t b (by omega)
    have h0 : (0 : Int) ≤ (t.toNat : Int) := by omega
    have h1 : (t.toNat : Int) < 4294967296 := by omega
    have h2 : decide ((2147483648 : Int) ≤ (t.toNat : Int)) = true := by simp; omega
    simp only [vW] at *
    clear h
    generalize ((Crc.comb t b).toNat : Int) = r at *
    generalize (t.toNat : Int) = n at *
    generalize (b.toNat : Int) = m at *
    go_enter Try.func23, Try.ntmps23
    go_wp2
    go_ret
    exact ⟨rfl, rfl⟩

theorem nine_sum : vW (Crc.sumOf [49, 50, 51, 52, 53, 54, 55, 56, 57]) = .int .u32 4236843288 := by kernel_rfl
theorem nil_sum : vW (Crc.sumOf []) = .int .u32 0 := by kernel_rfl
theorem one_comb : vW (Crc.comb 2147483649#32 2#32) = .int .u32 1 := by kernel_rfl
set_option maxRecDepth 100000 in
set_option maxHeartbeats 400000 in
theorem nine_walk (w : World) :
    Calls Try.prog 10 #[] w fun e w' => e = .returned (.bool true) ∧ Below w.heap.size w w' := by
  go_enter Try.func10, Try.ntmps10
  go_wp2_with fail
  refine (of_walk _ _ (by unfold maxLen; decide)).mono ?_
  rw [nine_sum]
  rintro e w1 ⟨rfl, hb1⟩
  go_wp2_with fail
  refine (of_walk _ _ (by unfold maxLen; decide)).mono ?_
  rw [nil_sum]
  rintro e w2 ⟨rfl, hb2⟩
  have hb3 := hb1.trans (hb2.mono hb1.size)
  clear hb1 hb2
  go_wp2_with fail
  refine (combine_walk 2147483649#32 2#32 _).mono ?_
  rw [one_comb]
  rintro e w3 ⟨rfl, rfl⟩
  go_wp2
  go_ret
  exact ⟨rfl, hb3⟩

set_option maxRecDepth 100000 in
set_option maxHeartbeats 400000 in
theorem crcOf_walk (s : ByteArray) (w : World) (hs : s.size ≤ maxLen) :
    Calls Try.prog 3 #[.string s] w fun e w' => e = .returned (.bool true) ∧ Below w.heap.size w w' := by
  have hs2 := hs
  unfold maxLen at hs2
  have Hs := Lib.hid hs
  clear hs
  by_cases hlt : s.size ≤ 2000
  · go_enter Try.func3, Try.ntmps3
    go_wp2_with fail
    refine (of_walk _ _ Hs.out).mono ?_
    rintro e w1 ⟨rfl, hb1⟩
    go_wp2_with fail
    refine (refof_walk _ _ Hs.out).mono ?_
    rintro e w2 ⟨rfl, rfl⟩
    unfold vW
    go_wp2_with fail
    refine (nine_walk _).mono ?_
    rintro e w3 ⟨rfl, hb2⟩
    go_wp2
    go_ret
    exact ⟨rfl, hb1.trans (hb2.mono hb1.size)⟩
  · go_enter Try.func3, Try.ntmps3
    go_wp2_with fail
    refine (nine_walk _).mono ?_
    rintro e w3 ⟨rfl, hb2⟩
    go_wp2
    go_ret
    exact ⟨rfl, hb2⟩
end Go.Proofs.Ytaefkkpdemilpaa
