/- Plain law behind CrcTurned: if some of 32 bits side by side are turned, the sum is another one. No program in sight. -/
import Derived.Test.YtaefkkpdemilpaaCrcMath
namespace Go.Proofs.Ytaefkkpdemilpaa.Crc
open Go

/-! bits of bytes, the highest first; the register bit by bit -/
def bit (l : List UInt8) (j : Nat) : Bool := (l.getD (j / 8) 0).toNat.testBit (7 - j % 8)
def top : BitVec 32 := BitVec.ofNat 32 2147483648
def zb (s : BitVec 32) (b : Bool) : BitVec 32 := Z (s ^^^ if b then top else 0#32)
def zrun (s : BitVec 32) (l : List Bool) : BitVec 32 := l.foldl zb s
def byteBits (c : UInt8) : List Bool := (List.range 8).map fun i => c.toNat.testBit (7 - i)

theorem Z_inj {x y : BitVec 32} (h : Z x = Z y) : x = y := by
  have hx := x.isLt
  have hy := y.isLt
  have h1 := congrArg BitVec.toNat h
  have key : ∀ z : BitVec 32, (Z z).toNat % 2 = z.toNat / 2147483648 := by
    intro z
    have hz := z.isLt
    by_cases hlo : z.toNat < 2147483648
    · rw [Z_toNat_lo z hlo]; omega
    · rw [Z_toNat_hi z (by omega)]
      have e := Nat.xor_mod_two_pow (a := (z.toNat - 2147483648) * 2) (b := 79764919) (n := 1)
      simp only [Nat.pow_one] at e
      rw [e]
      have e2 : (z.toNat - 2147483648) * 2 % 2 = 0 := by omega
      rw [e2, show (0 ^^^ 79764919 % 2) = 1 from rfl]
      omega
  have hk : x.toNat / 2147483648 = y.toNat / 2147483648 := by rw [← key x, ← key y, h1]
  apply BitVec.eq_of_toNat_eq
  by_cases hlo : x.toNat < 2147483648
  · have hlo2 : y.toNat < 2147483648 := by omega
    rw [Z_toNat_lo x hlo, Z_toNat_lo y hlo2] at h1
    omega
  · have hlo2 : ¬ y.toNat < 2147483648 := by omega
    rw [Z_toNat_hi x (by omega), Z_toNat_hi y (by omega)] at h1
    have h2 := congrArg (· ^^^ 79764919) h1
    simp only [Nat.xor_assoc, Nat.xor_self, Nat.xor_zero] at h2
    omega
theorem Zn_inj (n : Nat) : ∀ x y : BitVec 32, Zn n x = Zn n y → x = y := by
  induction n with
  | zero => intro x y h; exact h
  | succ n ih => intro x y h; exact Z_inj (ih _ _ h)
theorem zb_inj {s t : BitVec 32} {b : Bool} (h : zb s b = zb t b) : s = t := by
  have := Z_inj h
  have h2 := congrArg (· ^^^ if b then top else 0#32) this
  simpa only [BitVec.xor_assoc, BitVec.xor_self, BitVec.xor_zero] using h2
theorem zrun_inj (l : List Bool) : ∀ s t, zrun s l = zrun t l → s = t := by
  induction l with
  | nil => intro s t h; exact h
  | cons b l ih => intro s t h; exact zb_inj (ih _ _ h)
theorem zrun_append (s : BitVec 32) (l m : List Bool) : zrun s (l ++ m) = zrun (zrun s l) m := List.foldl_append
/-- the word that up to 32 bits make, the first one highest -/
def wordFrom : Nat → List Bool → BitVec 32
  | _, [] => 0#32
  | i, b :: l => (if b then BitVec.ofNat 32 (2 ^ (31 - i)) else 0#32) ^^^ wordFrom (i + 1) l
theorem Zn_top (i : Nat) (h : i ≤ 31) : Zn i (BitVec.ofNat 32 (2 ^ (31 - i))) = top := by
  have hp : 2 ^ (31 - i) * 2 ^ i = 2147483648 := by rw [← Nat.pow_add, show 31 - i + i = 31 by omega]
  have hlt : 2 ^ (31 - i) < 4294967296 := Nat.pow_lt_pow_right (a := 2) (n := 32) (by omega) (by omega)
  have e : (BitVec.ofNat 32 (2 ^ (31 - i))).toNat = 2 ^ (31 - i) := by rw [BitVec.toNat_ofNat]; exact Nat.mod_eq_of_lt hlt
  apply BitVec.eq_of_toNat_eq
  rw [Zn_small i _ (by rw [e, hp]; omega), e, hp]
  rfl
theorem Zn_zero (n : Nat) : Zn n 0#32 = 0#32 := by
  induction n with
  | zero => rfl
  | succ n ih => show Zn n (Z 0#32) = _; rw [Z_zero, ih]
theorem zrun_word : ∀ (l : List Bool) (i : Nat) (s : BitVec 32), i + l.length ≤ 32 → zrun (Zn i s) l = Zn (i + l.length) (s ^^^ wordFrom i l)
  | [], i, s, _ => by simp [zrun, wordFrom]
  | b :: l, i, s, h => by
    simp only [List.length_cons] at h
    have e : zb (Zn i s) b = Zn (i + 1) (s ^^^ if b then BitVec.ofNat 32 (2 ^ (31 - i)) else 0#32) := by
      rw [Zn_succ]
      unfold zb
      congr 1
      rw [Zn_xor]
      congr 1
      cases b
      · simp [Zn_zero]
      · simp only [if_true]; rw [Zn_top i (by omega)]
    show zrun (zb (Zn i s) b) l = _
    rw [e, zrun_word l (i + 1) _ (by omega)]
    rw [List.length_cons, show i + 1 + l.length = i + (l.length + 1) by omega, BitVec.xor_assoc]
    rfl
theorem wordFrom_bit : ∀ (l : List Bool) (i j : Nat), i + l.length ≤ 32 → (wordFrom i l).toNat.testBit j = (decide (i + j ≤ 31 ∧ 31 - j < i + l.length ∧ j ≤ 31) && l.getD (31 - j - i) false)
  | [], i, j, _ => by simp [wordFrom]
  | b :: l, i, j, h => by
    simp only [List.length_cons] at h
    have hlt : 2 ^ (31 - i) < 2 ^ 32 := Nat.pow_lt_pow_right (by omega) (by omega)
    have e : (if b then BitVec.ofNat 32 (2 ^ (31 - i)) else 0#32).toNat.testBit j = (b && decide (31 - i = j)) := by
      cases b
      · simp
      · simp only [if_true, Bool.true_and, BitVec.toNat_ofNat, Nat.mod_eq_of_lt hlt, Nat.testBit_two_pow]
    show (_ ^^^ wordFrom (i + 1) l).toNat.testBit j = _
    rw [BitVec.toNat_xor, Nat.testBit_xor, e, wordFrom_bit l (i + 1) j (by omega)]
    by_cases h1 : 31 - i = j
    · subst h1
      have : 31 - (31 - i) - i = 0 := by omega
      rw [this]
      have h2 : ¬ (i + 1 + (31 - i) ≤ 31) := by omega
      have h3 : i + (31 - i) ≤ 31 := by omega
      have h4 : 31 - (31 - i) < i + (l.length + 1) := by omega
      simp [h2, h3]
      omega
    · simp only [h1, decide_false, Bool.and_false, Bool.false_xor, List.length_cons]
      by_cases h2 : i + 1 + j ≤ 31
      · have h3 : 31 - j - i = (31 - j - (i + 1)) + 1 := by omega
        rw [h3, List.getD_cons_succ]
        congr 1
        apply decide_eq_decide.2
        omega
      · have h3 : ¬ (i + j ≤ 31) := by omega
        simp [h2, h3]
theorem wordFrom_inj {l m : List Bool} (h : l.length = m.length) (h32 : l.length ≤ 32) (e : wordFrom 0 l = wordFrom 0 m) : l = m := by
  apply List.ext_getElem h
  intro k h1 h2
  have a := wordFrom_bit l 0 (31 - k) (by omega)
  have b := wordFrom_bit m 0 (31 - k) (by omega)
  rw [e, b] at a
  have e1 : 31 - (31 - k) - 0 = k := by omega
  rw [e1] at a
  have d1 : (0 + (31 - k) ≤ 31 ∧ 31 - (31 - k) < 0 + l.length ∧ 31 - k ≤ 31) := by omega
  have d2 : (0 + (31 - k) ≤ 31 ∧ 31 - (31 - k) < 0 + m.length ∧ 31 - k ≤ 31) := by omega
  rw [decide_eq_true d1, decide_eq_true d2] at a
  simp [h1, h2] at a
  exact a.symm

/-- two rows of bits of one length that part only in a window of 32 make two registers -/
theorem zrun_window {s : BitVec 32} {p w1 w2 q : List Bool} (hl : w1.length = w2.length) (h32 : w1.length ≤ 32) (h : zrun s (p ++ w1 ++ q) = zrun s (p ++ w2 ++ q)) : w1 = w2 := by
  rw [zrun_append, zrun_append, zrun_append s (p ++ w2), zrun_append s p] at h
  have h1 := zrun_inj q _ _ h
  have a := zrun_word w1 0 (zrun s p) (by omega)
  have b := zrun_word w2 0 (zrun s p) (by omega)
  rw [show Zn 0 (zrun s p) = zrun s p from rfl] at a b
  rw [a, b, hl] at h1
  have h2 := Zn_inj _ _ _ h1
  have h3 := congrArg (zrun s p ^^^ ·) h2
  simp only [← BitVec.xor_assoc, BitVec.xor_self, BitVec.zero_xor] at h3
  exact wordFrom_inj hl h32 h3

/-! bytes as bits -/
theorem byteBits_len (c : UInt8) : (byteBits c).length = 8 := by simp [byteBits]
theorem word_byte (c : UInt8) : wordFrom 0 (byteBits c) = up c := by
  apply BitVec.eq_of_toNat_eq
  apply Nat.eq_of_testBit_eq
  intro j
  have hc := c.toNat_lt
  rw [wordFrom_bit _ 0 j (by rw [byteBits_len]; omega), byteBits_len]
  unfold up
  rw [BitVec.toNat_ofNat, Nat.mod_eq_of_lt (by omega), show c.toNat * 16777216 = 2 ^ 24 * c.toNat by omega, Nat.testBit_two_pow_mul]
  by_cases h : 24 ≤ j
  · by_cases h2 : j ≤ 31
    · have d : (0 + j ≤ 31 ∧ 31 - j < 0 + 8 ∧ j ≤ 31) := by omega
      have hk : 31 - j < 8 := by omega
      rw [decide_eq_true d, Bool.true_and]
      simp [byteBits, hk, h]
      congr 1
      omega
    · have d : ¬ (0 + j ≤ 31 ∧ 31 - j < 0 + 8 ∧ j ≤ 31) := by omega
      rw [decide_eq_false d]
      have : c.toNat.testBit (j - 24) = false := Nat.testBit_lt_two_pow (Nat.lt_of_lt_of_le (show c.toNat < 2 ^ 8 from hc) (Nat.pow_le_pow_right (by omega) (by omega)))
      simp [this]
  · have d : ¬ (0 + j ≤ 31 ∧ 31 - j < 0 + 8 ∧ j ≤ 31) := by omega
    rw [decide_eq_false d]
    simp [h]
theorem step_bits (s : BitVec 32) (c : UInt8) : step s c = zrun s (byteBits c) := by
  have := zrun_word (byteBits c) 0 s (by rw [byteBits_len]; omega)
  rw [show Zn 0 s = s from rfl, word_byte, byteBits_len] at this
  rw [this]; rfl
def bitsOf (l : List UInt8) : List Bool := (List.range (8 * l.length)).map (bit l)
theorem bitsOf_cons (c : UInt8) (l : List UInt8) : bitsOf (c :: l) = byteBits c ++ bitsOf l := by
  unfold bitsOf byteBits
  rw [List.length_cons, show 8 * (l.length + 1) = 8 + 8 * l.length by omega, List.range_add, List.map_append, List.map_map]
  have e1 : (List.range 8).map (bit (c :: l)) = (List.range 8).map fun i => c.toNat.testBit (7 - i) := by
    apply List.map_congr_left
    intro i hi
    have hi := List.mem_range.1 hi
    unfold bit
    rw [show i / 8 = 0 by omega, show i % 8 = i by omega]
    rfl
  have e2 : (List.range (8 * l.length)).map (bit (c :: l) ∘ fun x => 8 + x) = (List.range (8 * l.length)).map (bit l) := by
    apply List.map_congr_left
    intro i _
    show bit (c :: l) (8 + i) = bit l i
    unfold bit
    rw [show (8 + i) / 8 = i / 8 + 1 by omega, show (8 + i) % 8 = i % 8 by omega]
    rfl
  rw [e1, e2]
theorem run_bits : ∀ (l : List UInt8) (s : BitVec 32), run s l = zrun s (bitsOf l)
  | [], s => rfl
  | c :: l, s => by
    rw [bitsOf_cons, zrun_append, ← step_bits]
    exact run_bits l _
theorem bits_ext {l m : List UInt8} (h : l.length = m.length) (e : ∀ j, j < 8 * l.length → bit l j = bit m j) : l = m := by
  apply List.ext_getElem h
  intro k h1 h2
  apply UInt8.toNat_inj.1
  apply Nat.eq_of_testBit_eq
  intro i
  by_cases hi : i < 8
  · have := e (8 * k + (7 - i)) (by omega)
    unfold bit at this
    rw [show (8 * k + (7 - i)) / 8 = k by omega, show 7 - (8 * k + (7 - i)) % 8 = i by omega] at this
    simpa [h1, h2] using this
  · have hp : 2 ^ 8 ≤ 2 ^ i := Nat.pow_le_pow_right (by omega) (by omega)
    rw [Nat.testBit_lt_two_pow (Nat.lt_of_lt_of_le l[k].toNat_lt hp), Nat.testBit_lt_two_pow (Nat.lt_of_lt_of_le m[k].toNat_lt hp)]

/-! turning bits -/
def flipAt (l : List UInt8) (k : Nat) : List UInt8 := l.set (k / 8) (l.getD (k / 8) 0 ^^^ UInt8.ofNat (2 ^ (7 - k % 8)))
theorem flipAt_len (l : List UInt8) (k : Nat) : (flipAt l k).length = l.length := by simp [flipAt]
theorem bit_flipAt (l : List UInt8) (k j : Nat) (hk : k < 8 * l.length) : bit (flipAt l k) j = (bit l j != decide (j = k)) := by
  unfold flipAt bit
  by_cases h : j / 8 = k / 8
  · have hl : k / 8 < l.length := by omega
    rw [h]
    have hp : 2 ^ (7 - k % 8) < 256 := by
      have : 2 ^ (7 - k % 8) ≤ 2 ^ 7 := Nat.pow_le_pow_right (by omega) (by omega)
      omega
    have e : (UInt8.ofNat (2 ^ (7 - k % 8))).toNat = 2 ^ (7 - k % 8) := by rw [UInt8.toNat_ofNat']; exact Nat.mod_eq_of_lt hp
    have e2 : (l.set (k / 8) (l.getD (k / 8) 0 ^^^ UInt8.ofNat (2 ^ (7 - k % 8)))).getD (k / 8) 0 = l.getD (k / 8) 0 ^^^ UInt8.ofNat (2 ^ (7 - k % 8)) := by
      simp [List.getD_eq_getElem?_getD, hl]
    rw [e2, UInt8.toNat_xor, Nat.testBit_xor, e, Nat.testBit_two_pow]
    have : decide (7 - k % 8 = 7 - j % 8) = decide (j = k) := by apply decide_eq_decide.2; omega
    rw [this]
  · have e2 : (l.set (k / 8) (l.getD (k / 8) 0 ^^^ UInt8.ofNat (2 ^ (7 - k % 8)))).getD (j / 8) 0 = l.getD (j / 8) 0 := by
      rw [List.getD_eq_getElem?_getD, List.getElem?_set_ne (fun e => h e.symm), ← List.getD_eq_getElem?_getD]
    have hne : ¬ j = k := fun e => h (by rw [e])
    rw [e2]
    simp [hne]
def turns (l : List UInt8) (p : Nat) (mask : Nat) (i : Nat) : Bool := decide (p + i < 8 * l.length) && mask.testBit i
/-- the bytes, and whether one was turned, after i rounds -/
def turnTo (l : List UInt8) (p mask : Nat) : Nat → List UInt8
  | 0 => l
  | i + 1 => if turns l p mask i then flipAt (turnTo l p mask i) (p + i) else turnTo l p mask i
def turned (l : List UInt8) (p mask : Nat) : Nat → Bool
  | 0 => false
  | i + 1 => turns l p mask i || turned l p mask i
theorem turnTo_len (l : List UInt8) (p mask : Nat) : ∀ i, (turnTo l p mask i).length = l.length
  | 0 => rfl
  | i + 1 => by
    unfold turnTo
    split
    · rw [flipAt_len, turnTo_len l p mask i]
    · exact turnTo_len l p mask i
theorem turnTo_bit (l : List UInt8) (p mask : Nat) : ∀ i j, bit (turnTo l p mask i) j = (bit l j != (decide (p ≤ j ∧ j < p + i) && turns l p mask (j - p)))
  | 0, j => by
    have : ¬ (p ≤ j ∧ j < p + 0) := by omega
    rw [decide_eq_false this]
    simp [turnTo]
  | i + 1, j => by
    have ih := turnTo_bit l p mask i j
    unfold turnTo
    by_cases ht : turns l p mask i = true
    · rw [if_pos ht]
      have hlt : p + i < 8 * l.length := by unfold turns at ht; simp at ht; exact ht.1
      rw [bit_flipAt _ _ _ (by rw [turnTo_len]; exact hlt), ih]
      by_cases hj : j = p + i
      · subst hj
        have d1 : ¬ (p ≤ p + i ∧ p + i < p + i) := by omega
        have d2 : (p ≤ p + i ∧ p + i < p + (i + 1)) := by omega
        rw [decide_eq_false d1, decide_eq_true d2, show p + i - p = i by omega, ht]
        simp
      · have d : decide (p ≤ j ∧ j < p + i) = decide (p ≤ j ∧ j < p + (i + 1)) := by apply decide_eq_decide.2; omega
        rw [d]
        simp [hj]
    · rw [if_neg ht, ih]
      by_cases hj : j = p + i
      · subst hj
        have d1 : ¬ (p ≤ p + i ∧ p + i < p + i) := by omega
        rw [decide_eq_false d1, show p + i - p = i by omega, Bool.eq_false_iff.2 ht]
        simp
      · have d : decide (p ≤ j ∧ j < p + i) = decide (p ≤ j ∧ j < p + (i + 1)) := by apply decide_eq_decide.2; omega
        rw [d]
theorem turned_iff (l : List UInt8) (p mask : Nat) : ∀ i, turned l p mask i = true ↔ ∃ k, k < i ∧ turns l p mask k = true
  | 0 => by simp [turned]
  | i + 1 => by
    unfold turned
    rw [Bool.or_eq_true, turned_iff l p mask i]
    constructor
    · rintro (h | ⟨k, hk, h⟩)
      · exact ⟨i, by omega, h⟩
      · exact ⟨k, by omega, h⟩
    · rintro ⟨k, hk, h⟩
      by_cases e : k = i
      · subst e; exact .inl h
      · exact .inr ⟨k, by omega, h⟩

theorem sum_turned (l : List UInt8) (p mask : Nat) : (sumOf l = sumOf (turnTo l p mask 32)) ↔ turned l p mask 32 = false := by
  have hlen := turnTo_len l p mask 32
  constructor
  · intro h
    cases ht : turned l p mask 32 with
    | false => rfl
    | true =>
      exfalso
      obtain ⟨k, hk, hturn⟩ := (turned_iff l p mask 32).1 ht
      have hlt : p + k < 8 * l.length := by unfold turns at hturn; simp at hturn; exact hturn.1
      have h1 : run (BitVec.allOnes 32) l = run (BitVec.allOnes 32) (turnTo l p mask 32) := by
        have := congrArg (~~~ ·) h
        simpa [sumOf] using this
      rw [run_bits, run_bits] at h1
      have hsame : ∀ j, ¬ (p ≤ j ∧ j < p + 32) → bit (turnTo l p mask 32) j = bit l j := fun j hj => by
        rw [turnTo_bit, decide_eq_false hj]; simp
      have hsplit : ∀ m : List UInt8, bitsOf m = (bitsOf m).take p ++ ((bitsOf m).drop p).take 32 ++ (bitsOf m).drop (p + 32) := fun m => by
        rw [List.append_assoc]
        conv => lhs; rw [← List.take_append_drop p (bitsOf m)]
        congr 1
        conv => lhs; rw [← List.take_append_drop 32 ((bitsOf m).drop p)]
        rw [List.drop_drop]
      have hl1 : (bitsOf l).length = 8 * l.length := by simp [bitsOf]
      have hl2 : (bitsOf (turnTo l p mask 32)).length = 8 * l.length := by simp [bitsOf, hlen]
      have hget : ∀ (m : List UInt8) (j : Nat), j < 8 * m.length → (bitsOf m)[j]? = some (bit m j) := fun m j hj => by
        simp [bitsOf, hj]
      have htake : (bitsOf (turnTo l p mask 32)).take p = (bitsOf l).take p := by
        apply List.ext_getElem?
        intro j
        rw [List.getElem?_take, List.getElem?_take]
        split
        · rename_i hj
          rw [hget (turnTo l p mask 32) j (by rw [hlen]; omega), hget l j (by omega), hsame j (by omega)]
        · rfl
      have hdrop : (bitsOf (turnTo l p mask 32)).drop (p + 32) = (bitsOf l).drop (p + 32) := by
        apply List.ext_getElem?
        intro j
        rw [List.getElem?_drop, List.getElem?_drop]
        by_cases hj : p + 32 + j < 8 * l.length
        · rw [hget _ _ hj, hget _ _ (by rw [hlen]; exact hj), hsame _ (by omega)]
        · rw [List.getElem?_eq_none (by omega), List.getElem?_eq_none (by omega)]
      rw [hsplit l, hsplit (turnTo l p mask 32), htake, hdrop] at h1
      have hw := zrun_window (by simp [hl1, hl2]) (by simp; omega) h1
      have h2 := congrArg (·[k]?) hw
      simp only [List.getElem?_take, if_pos hk, List.getElem?_drop] at h2
      rw [hget _ _ hlt, hget _ _ (by rw [hlen]; exact hlt), turnTo_bit] at h2
      have d : (p ≤ p + k ∧ p + k < p + 32) := by omega
      rw [decide_eq_true d, show p + k - p = k by omega, hturn] at h2
      simp at h2
  · intro h
    have : l = turnTo l p mask 32 := by
      apply bits_ext hlen.symm
      intro j _
      rw [turnTo_bit]
      by_cases d : p ≤ j ∧ j < p + 32
      · have hn : turns l p mask (j - p) = false := by
          cases ht : turns l p mask (j - p) with
          | false => rfl
          | true =>
            have := (turned_iff l p mask 32).2 ⟨j - p, by omega, ht⟩
            rw [h] at this; cases this
        rw [hn]; simp
      · rw [decide_eq_false d]; simp
    rw [← this]
end Go.Proofs.Ytaefkkpdemilpaa.Crc
