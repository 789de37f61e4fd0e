/- Walks of the reference of chapter 2: Bits, Step, Of; and of the law's small case. -/
import Derived.Test.YtaldcdgafljedaaCrcWalk3
namespace Go.Proofs.Ytaldcdgafljedaa
open Go.RowKit

/-- one round of Bits, as the register's shift -/
theorem bits_lo (x : BitVec 32) (h : x.toNat < 2147483648) : (x.toNat : Int) * 2 = ((Crc.Z x).toNat : Int) := by rw [Crc.Z_toNat_lo x h]; rfl
theorem bits_hi (x : BitVec 32) (h : 2147483648 ≤ x.toNat) : bits .xor .u32 (((x.toNat : Int) - 2147483648) * 2) 79764919 = ((Crc.Z x).toNat : Int) := by
  have hx := x.isLt
  have := u32_xor_nat ((x.toNat - 2147483648) * 2) 79764919 (by omega) (by omega)
  rw [Crc.Z_toNat_hi x h, ← this]
  have e : ((x.toNat : Int) - 2147483648) * 2 = (((x.toNat - 2147483648) * 2 : Nat) : Int) := by omega
  rw [e]; rfl

set_option maxRecDepth 100000 in
set_option maxHeartbeats 400000 in
theorem bits_walk (x0 : BitVec 32) (w : World) :
    Calls Try.prog 41 #[vW x0] w fun e w' => e = .returned (vW (Crc.Zn 8 x0)) ∧ w = w' := by
  go_enter Try.func41, Try.ntmps41
  go_wp2
  go_loop [0, 3] (fun s n => ∃ j : Nat, j ≤ 8 ∧ n = .int .i64 j ∧ s = vW (Crc.Zn j x0)) (fun _ n => 8 - (intOf n).toNat)
  case atStart => exact ⟨0, by omega, rfl, rfl⟩
  case round =>
    obtain ⟨j, hj, rfl, rfl⟩ := hrel
    by_cases hjl : j < 8
    · have ez := Lib.hid (Crc.Zn_succ j x0)
      generalize Crc.Zn j x0 = x at *
      unfold vW
      by_cases hx : (x.toNat : Int) < 2147483648
      · have hz := bits_lo x (by omega)
        have hb : (0 : Int) ≤ (x.toNat : Int) := by omega
        have hlt2 : decide ((2147483648 : Int) ≤ (x.toNat : Int)) = false := by simp; omega
        have HZ := Lib.hid hz
        clear hz
        generalize (x.toNat : Int) = n at *
        go_wp2
        go_round
        case rel => exact ⟨j + 1, by omega, by go_num, by rw [ez.out, HZ.out]⟩
        case measure => simp [intOf]; omega
      · have hx2 : (2147483648 : Int) ≤ (x.toNat : Int) := by omega
        clear hx
        go_wp2
        go_round
        case rel => exact ⟨j + 1, by omega, by go_num, by rw [ez.out, bits_hi x (by omega)]⟩
        case measure => simp [intOf]; omega
    · obtain rfl : j = 8 := by omega
      generalize hX : Crc.Zn 8 x0 = x at *
      have HX := Lib.hid hX
      clear hX
      unfold vW
      go_wp2
      go_ret
      exact ⟨by rw [HX.out]; rfl, rfl⟩

theorem up_int (c : UInt8) : (c.toNat : Int) * 16777216 = ((Crc.up c).toNat : Int) := by
  have := c.toNat_lt
  unfold Crc.up
  rw [BitVec.toNat_ofNat, Nat.mod_eq_of_lt (by omega)]; rfl
set_option maxRecDepth 100000 in
set_option maxHeartbeats 400000 in
theorem refstep_walk (s : BitVec 32) (c : UInt8) (w : World) :
    Calls Try.prog 35 #[vW s, vB c] w fun e w' => e = .returned (vW (Crc.step s c)) ∧ w = w' := by
  have hx : bits .xor .u32 (s.toNat : Int) ((c.toNat : Int) * 16777216) = ((s ^^^ Crc.up c).toNat : Int) := by rw [up_int, bits_u32_xor]
  have hc : c.toNat < 256 := c.toNat_lt
  have hb := bits_walk (s ^^^ Crc.up c) w
  have Hb := Lib.hid hb
  clear hb
  have hz : Crc.Zn 8 (s ^^^ Crc.up c) = Crc.step s c := rfl
  have Hz := Lib.hid hz
  clear hz
  simp only [vW] at *
  unfold vB
  go_enter Try.func35, Try.ntmps35
  go_wp2_with fail
  refine Hb.out.mono ?_
  rw [Hz.out]
  rintro e w1 ⟨rfl, rfl⟩
  go_wp2
  go_ret
  exact ⟨rfl, rfl⟩

theorem not_int (x : BitVec 32) : 4294967295 - (x.toNat : Int) = ((~~~ x).toNat : Int) := by
  rw [BitVec.toNat_not]; have := x.isLt; omega
set_option maxRecDepth 100000 in
set_option maxHeartbeats 400000 in
theorem refof_walk (s : ByteArray) (w : World) (hs : s.size ≤ maxLen) :
    Calls Try.prog 26 #[.string s] w fun e w' => e = .returned (vW (Crc.sumOf s.data.toList)) ∧ w = w' := by
  unfold maxLen at hs
  go_enter Try.func26, Try.ntmps26
  go_wp2
  go_loop [3, 4] (fun x i => ∃ k : Nat, k ≤ s.size ∧ i = .int .i64 k ∧ x = vW (Crc.run (BitVec.allOnes 32) (s.data.toList.take k))) (fun _ i => s.size - (intOf i).toNat)
  case atStart => exact ⟨0, Nat.zero_le _, rfl, by kernel_rfl⟩
  case round =>
    obtain ⟨k, hk, rfl, rfl⟩ := hrel
    by_cases hlt : k < s.size
    · have hts := Lib.hid (take_snoc s k hlt)
      go_wp2_with fail
      refine (refstep_walk _ s[k] _).mono ?_
      rw [← run_snoc, ← hts.out]
      rintro e w1 ⟨rfl, rfl⟩
      go_wp2
      go_round
      case rel => exact ⟨k + 1, by omega, by go_num, rfl⟩
      case measure => simp [intOf]; omega
    · have hfin : Crc.run (BitVec.allOnes 32) (s.data.toList.take k) = Crc.run (BitVec.allOnes 32) s.data.toList := by rw [List.take_of_length_le (by simp; omega)]
      rw [hfin]
      clear hfin
      have hf : Crc.sumOf s.data.toList = ~~~ Crc.run (BitVec.allOnes 32) s.data.toList := rfl
      generalize Crc.run (BitVec.allOnes 32) s.data.toList = x at *
      have Hf := Lib.hid hf
      clear hf
      have hn := not_int x
      have hl := x.isLt
      simp only [vW] at *
      go_wp2
      go_ret
      refine ⟨?_, rfl⟩
      rw [Hf.out]
      exact ret_int (by rw [BitVec.toNat_not])
end Go.Proofs.Ytaldcdgafljedaa
