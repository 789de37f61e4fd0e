/- Plain mathematics of the 32-bit sum: the shift register Z, its linearity, the table, Z8. No program in sight. -/
import Derived.Laws.BitsAllLaws
namespace Go.Proofs.Ytaldcdgafljedaa.Crc
open Go

def poly : BitVec 32 := 0x04c11db7#32
/-- one shift of the register -/
def Z (x : BitVec 32) : BitVec 32 := if x.msb then (x <<< 1) ^^^ poly else x <<< 1
def Zn : Nat → BitVec 32 → BitVec 32
  | 0, x => x
  | n + 1, x => Zn n (Z x)
theorem Zn_succ (n : Nat) : ∀ x, Zn (n + 1) x = Z (Zn n x) := by
  induction n with
  | zero => intro x; rfl
  | succ n ih => intro x; show Zn (n + 1) (Z x) = _; rw [ih (Z x)]; rfl
def up (c : UInt8) : BitVec 32 := BitVec.ofNat 32 (c.toNat * 16777216)
def tab (i : Nat) : BitVec 32 := Zn 8 (BitVec.ofNat 32 (i * 16777216))
/-- what one byte makes of a register -/
def step (s : BitVec 32) (c : UInt8) : BitVec 32 := Zn 8 (s ^^^ up c)
def run (s : BitVec 32) (l : List UInt8) : BitVec 32 := l.foldl step s
def sumOf (l : List UInt8) : BitVec 32 := ~~~ (run (BitVec.allOnes 32) l)

theorem Z_xor (x y : BitVec 32) : Z (x ^^^ y) = Z x ^^^ Z y := by
  unfold Z
  rw [BitVec.msb_xor, BitVec.shiftLeft_xor_distrib]
  cases x.msb <;> cases y.msb <;> simp
  · rw [BitVec.xor_assoc]
  · rw [BitVec.xor_assoc, BitVec.xor_comm (y <<< 1) poly, ← BitVec.xor_assoc]
  · rw [BitVec.xor_assoc, ← BitVec.xor_assoc poly, BitVec.xor_comm poly, BitVec.xor_assoc (y <<< 1), BitVec.xor_self, BitVec.xor_zero]
theorem Zn_xor (n : Nat) : ∀ x y, Zn n (x ^^^ y) = Zn n x ^^^ Zn n y := by
  induction n with
  | zero => intro x y; rfl
  | succ n ih => intro x y; show Zn n (Z (x ^^^ y)) = Zn n (Z x) ^^^ Zn n (Z y); rw [Z_xor, ih]
theorem Z_zero : Z 0#32 = 0#32 := by decide
theorem Z_toNat_lo (x : BitVec 32) (h : x.toNat < 2147483648) : (Z x).toNat = x.toNat * 2 := by
  have hm : x.msb = false := by rw [BitVec.msb_eq_decide]; simp; omega
  unfold Z
  rw [hm]
  simp [BitVec.toNat_shiftLeft, Nat.shiftLeft_eq]
  omega
theorem Z_toNat_hi (x : BitVec 32) (h : 2147483648 ≤ x.toNat) : (Z x).toNat = ((x.toNat - 2147483648) * 2) ^^^ 79764919 := by
  have hm : x.msb = true := by rw [BitVec.msb_eq_decide]; simp; omega
  have hx := x.isLt
  unfold Z
  rw [hm]
  simp [BitVec.toNat_shiftLeft, Nat.shiftLeft_eq, poly]
  have e : x.toNat * 2 % 4294967296 = (x.toNat - 2147483648) * 2 := by omega
  rw [e]
set_option maxRecDepth 10000 in
/-- below 2^24 eight shifts bring out nothing -/
theorem Zn_small (n : Nat) : ∀ x : BitVec 32, x.toNat * 2 ^ n < 4294967296 → (Zn n x).toNat = x.toNat * 2 ^ n := by
  induction n with
  | zero => intro x _; simp [Zn]
  | succ n ih =>
    intro x h
    have hp : 1 ≤ 2 ^ n := Nat.one_le_two_pow
    have h2 : x.toNat * 2 * 2 ^ n < 4294967296 := by rw [Nat.mul_assoc, ← Nat.pow_succ']; exact h
    have h3 : x.toNat < 2147483648 := by
      have : x.toNat * 2 * 1 ≤ x.toNat * 2 * 2 ^ n := Nat.mul_le_mul_left _ hp
      omega
    have hz := Z_toNat_lo x h3
    have e : Zn (n + 1) x = Zn n (Z x) := rfl
    rw [e, ih (Z x) (by rw [hz]; exact h2), hz, Nat.mul_assoc, ← Nat.pow_succ']
theorem xor_mul_pow (a b k : Nat) : (a ^^^ b) * 2 ^ k = (a * 2 ^ k) ^^^ (b * 2 ^ k) := by
  simp only [← Nat.shiftLeft_eq]; exact Nat.shiftLeft_xor_distrib
theorem xor_add_low (a b k : Nat) (hb : b < 2 ^ k) : (a * 2 ^ k) ^^^ b = a * 2 ^ k + b := by
  apply Nat.eq_of_testBit_eq
  intro i
  rw [Nat.testBit_xor, Nat.mul_comm a, Nat.testBit_two_pow_mul_add a hb, Nat.testBit_two_pow_mul]
  by_cases h : i < k
  · simp [h, Nat.not_le.2 h]
  · have : b.testBit i = false := Nat.testBit_lt_two_pow (Nat.lt_of_lt_of_le hb (Nat.pow_le_pow_right (by omega) (by omega)))
    simp [h, this, Nat.not_lt.1 h]
theorem split_hi (s : BitVec 32) (c : UInt8) : s ^^^ up c = BitVec.ofNat 32 ((s.toNat / 16777216 ^^^ c.toNat) * 16777216) ^^^ BitVec.ofNat 32 (s.toNat % 16777216) := by
  have hs := s.isLt
  have hc : c.toNat < 256 := c.toNat_lt
  have hx : s.toNat / 16777216 ^^^ c.toNat < 2 ^ 8 := Nat.xor_lt_two_pow (by omega) (by omega)
  apply BitVec.eq_of_toNat_eq
  have e1 : (s.toNat / 16777216 ^^^ c.toNat) * 16777216 = (s.toNat / 16777216 * 16777216) ^^^ (c.toNat * 16777216) := xor_mul_pow _ _ 24
  have e2 : (s.toNat / 16777216 * 16777216) ^^^ (s.toNat % 16777216) = s.toNat := by
    have := xor_add_low (s.toNat / 16777216) (s.toNat % 16777216) 24 (Nat.mod_lt _ (by decide))
    simp only [Nat.reducePow] at this
    rw [this]; exact Nat.div_add_mod' _ _
  simp only [BitVec.toNat_xor, BitVec.toNat_ofNat, up]
  rw [Nat.mod_eq_of_lt (a := (s.toNat / 16777216 ^^^ c.toNat) * 16777216) (by omega), Nat.mod_eq_of_lt (a := c.toNat * 16777216) (by omega), Nat.mod_eq_of_lt (a := s.toNat % 16777216) (by omega), e1]
  conv => lhs; rw [← e2]
  rw [Nat.xor_assoc, Nat.xor_assoc, Nat.xor_comm (s.toNat % 16777216)]
/-- the step by the table -/
theorem step_eq (s : BitVec 32) (c : UInt8) : (step s c).toNat = (s.toNat * 256 % 4294967296) ^^^ (tab (s.toNat / 16777216 ^^^ c.toNat)).toNat := by
  have hs := s.isLt
  unfold step tab
  rw [split_hi, Zn_xor, BitVec.toNat_xor, Nat.xor_comm]
  refine congrArg (· ^^^ _) ?_
  have e : (BitVec.ofNat 32 (s.toNat % 16777216)).toNat = s.toNat % 16777216 := by rw [BitVec.toNat_ofNat]; omega
  rw [Zn_small 8 _ (by rw [e]; omega), e]
  omega
/-- one step of a stream's sum -/
def comb (t b : BitVec 32) : BitVec 32 := (t <<< 1 ^^^ t >>> 31) ^^^ b
theorem rot_xor (t : BitVec 32) : (t <<< 1 ^^^ t >>> 31).toNat = t.toNat * 2 % 4294967296 + t.toNat / 2147483648 := by
  have ht := t.isLt
  rw [BitVec.toNat_xor, BitVec.toNat_shiftLeft, BitVec.toNat_ushiftRight, Nat.shiftLeft_eq, Nat.shiftRight_eq_div_pow]
  have e := xor_add_low (t.toNat % 2147483648) (t.toNat / 2147483648) 1 (by omega)
  simp only [Nat.reducePow] at *
  have e2 : t.toNat * 2 % 4294967296 = t.toNat % 2147483648 * 2 := by omega
  rw [e2, e]
end Go.Proofs.Ytaldcdgafljedaa.Crc
