/- Plain mathematics of texts read rune by rune. No program in sight. -/
import Derived.Lib.TrimUEq
import Derived.Laws.BitsAllLaws
namespace Go.Proofs.YtajalllecoclcaaDoor.Tk
open Go

/-- byte i of a text, 0 beyond its end -/
def at_ (l : List UInt8) (i : Nat) : Nat := (l.getD i 0).toNat
theorem at_lt (l : List UInt8) (i : Nat) : at_ l i < 256 := (l.getD i 0).toNat_lt
theorem at_drop (l : List UInt8) (p i : Nat) : at_ (l.drop p) i = at_ l (p + i) := by unfold at_; simp [List.getD, List.getElem?_drop]
theorem at_get (l : List UInt8) (i : Nat) (h : i < l.length) : at_ l i = l[i].toNat := by unfold at_; simp [List.getD, h]
/-- the first rune of a text, as Go reads it: its number and how many bytes it has -/
def d (l : List UInt8) : Nat × Nat := Lib.decodeN l.length (at_ l 0) (at_ l 1) (at_ l 2) (at_ l 3)
theorem decode_d (s : ByteArray) (p : Nat) : Utf8.decode s p = d (s.data.toList.drop p) := by
  rw [Lib.decode_N]
  unfold d
  rw [at_drop, at_drop, at_drop, at_drop, List.length_drop]; rfl
/-- a rune's number; -1: a bad byte -/
def num (p : Nat × Nat) : Int := if p.1 = 65533 ∧ p.2 = 1 then -1 else p.1
theorem decodeN_bd (n b0 b1 b2 b3 : Nat) (h : 0 < n) (h0 : b0 < 256) : 1 ≤ (Lib.decodeN n b0 b1 b2 b3).2 ∧ (Lib.decodeN n b0 b1 b2 b3).2 ≤ n ∧ (Lib.decodeN n b0 b1 b2 b3).2 ≤ 4 ∧ (Lib.decodeN n b0 b1 b2 b3).1 ≤ 1114111 := by
  unfold Lib.decodeN
  repeat' split
  all_goals (simp only; omega)
theorem d_bd (l : List UInt8) (h : 0 < l.length) : 1 ≤ (d l).2 ∧ (d l).2 ≤ l.length ∧ (d l).2 ≤ 4 ∧ (d l).1 ≤ 1114111 := decodeN_bd _ _ _ _ _ h (at_lt l 0)
theorem num_bd (l : List UInt8) (h : 0 < l.length) : -1 ≤ num (d l) ∧ num (d l) ≤ 1114111 := by
  have := d_bd l h
  unfold num
  split <;> omega
/-- a text's runes: numbers and lengths -/
def rs : Nat → List UInt8 → List (Int × Nat)
  | 0, _ => []
  | _ + 1, [] => []
  | n + 1, b :: l => (num (d (b :: l)), (d (b :: l)).2) :: rs n ((b :: l).drop (d (b :: l)).2)
theorem rs_nil (n : Nat) : rs n [] = [] := by cases n <;> rfl
theorem rs_fuel : ∀ (n m : Nat) (l : List UInt8), l.length ≤ n → l.length ≤ m → rs n l = rs m l
  | _, _, [], _, _ => by rw [rs_nil, rs_nil]
  | 0, _, b :: l, h, _ => by simp at h
  | _, 0, b :: l, _, h => by simp at h
  | n + 1, m + 1, b :: l, h, h' => by
    have hb := d_bd (b :: l) (by simp)
    unfold rs
    rw [rs_fuel n m _ (by rw [List.length_drop]; simp at h ⊢; omega) (by rw [List.length_drop]; simp at h' ⊢; omega)]
def runes (l : List UInt8) : List (Int × Nat) := rs l.length l
theorem runes_nil : runes [] = [] := rfl
theorem runes_cons (l : List UInt8) (h : 0 < l.length) : runes l = (num (d l), (d l).2) :: runes (l.drop (d l).2) := by
  cases l with
  | nil => simp at h
  | cons b l =>
    have hb := d_bd (b :: l) h
    unfold runes
    rw [show (b :: l).length = l.length + 1 from rfl]
    show (num (d (b :: l)), (d (b :: l)).2) :: rs l.length ((b :: l).drop (d (b :: l)).2) = _
    rw [rs_fuel l.length _ _ (by rw [List.length_drop, List.length_cons]; omega) (Nat.le_refl _)]
theorem runes_at (l : List UInt8) (p : Nat) (h : p < l.length) : runes (l.drop p) = (num (d (l.drop p)), (d (l.drop p)).2) :: runes (l.drop (p + (d (l.drop p)).2)) := by
  rw [runes_cons _ (by rw [List.length_drop]; omega), List.drop_drop]
theorem runes_end (l : List UInt8) (p : Nat) (h : l.length ≤ p) : runes (l.drop p) = [] := by rw [List.drop_of_length_le h]; rfl
theorem d_at (l : List UInt8) (p : Nat) (h : p < l.length) : 1 ≤ (d (l.drop p)).2 ∧ p + (d (l.drop p)).2 ≤ l.length ∧ (d (l.drop p)).2 ≤ 4 ∧ (d (l.drop p)).1 ≤ 1114111 ∧ -1 ≤ num (d (l.drop p)) ∧ num (d (l.drop p)) ≤ 1114111 := by
  have h0 : 0 < (l.drop p).length := by rw [List.length_drop]; omega
  have h1 := d_bd _ h0
  have h2 := num_bd _ h0
  rw [List.length_drop] at h1
  omega
theorem runes_len : ∀ (n : Nat) (l : List UInt8), l.length ≤ n → (runes l).length ≤ l.length
  | _, [], _ => Nat.le_refl _
  | 0, b :: l, h => by simp at h
  | n + 1, b :: l, h => by
    have hb := d_bd (b :: l) (by simp)
    rw [runes_cons _ (by simp), List.length_cons]
    have := runes_len n ((b :: l).drop (d (b :: l)).2) (by rw [List.length_drop]; simp at h ⊢; omega)
    rw [List.length_drop] at this
    omega
theorem runes_le (l : List UInt8) : (runes l).length ≤ l.length := runes_len _ l (Nat.le_refl _)

/-! the document's way -/
/-- does byte i go on? -/
def contB (l : List UInt8) (i : Nat) : Bool := decide (i < l.length ∧ 128 ≤ at_ l i ∧ at_ l i < 192)
/-- the number behind j bytes that go on -/
def cv (a : Int) (l : List UInt8) : Nat → Int
  | 0 => a
  | j + 1 => 64 * cv a l j + (at_ l (j + 1) : Int) - 128
theorem cv_succ (a : Int) (l : List UInt8) (j : Nat) : cv a l (j + 1) = 64 * cv a l j + (at_ l (j + 1) : Int) - 128 := rfl
/-- a number of so many bytes, or none -/
def wfin (c least : Int) (k : Nat) : Int × Nat := if c < least ∨ 1114111 < c ∨ (55296 ≤ c ∧ c ≤ 57343) then (0, 0) else (c, k)
def wide (a least : Int) (l : List UInt8) (m : Nat) : Int × Nat := if ∀ j, j < m → contB l (j + 1) = true then wfin (cv a l m) least (m + 1) else (0, 0)
def first (l : List UInt8) : Int × Nat :=
  if at_ l 0 < 128 then ((at_ l 0 : Int), 1)
  else
    let o := if 192 ≤ at_ l 0 ∧ at_ l 0 < 224 then wide ((at_ l 0 : Int) - 192) 128 l 1
      else if 224 ≤ at_ l 0 ∧ at_ l 0 < 240 then wide ((at_ l 0 : Int) - 224) 2048 l 2
      else if 240 ≤ at_ l 0 ∧ at_ l 0 < 248 then wide ((at_ l 0 : Int) - 240) 65536 l 3 else (0, 0)
    if o.2 = 0 then (-1, 1) else o
theorem all2 (l : List UInt8) : (∀ j, j < 1 → contB l (j + 1) = true) ↔ contB l 1 = true :=
  ⟨fun h => h 0 (by decide), fun h j hj => by
    obtain rfl : j = 0 := by omega
    exact h⟩
theorem all3 (l : List UInt8) : (∀ j, j < 2 → contB l (j + 1) = true) ↔ contB l 1 = true ∧ contB l 2 = true :=
  ⟨fun h => ⟨h 0 (by decide), h 1 (by decide)⟩, fun h j hj => by
    rcases (by omega : j = 0 ∨ j = 1) with rfl | rfl
    · exact h.1
    · exact h.2⟩
theorem all4 (l : List UInt8) : (∀ j, j < 3 → contB l (j + 1) = true) ↔ contB l 1 = true ∧ contB l 2 = true ∧ contB l 3 = true :=
  ⟨fun h => ⟨h 0 (by decide), h 1 (by decide), h 2 (by decide)⟩, fun h j hj => by
    rcases (by omega : j = 0 ∨ j = 1 ∨ j = 2) with rfl | rfl | rfl
    · exact h.1
    · exact h.2.1
    · exact h.2.2⟩
theorem cont_iff (l : List UInt8) (i : Nat) : contB l i = true ↔ i < l.length ∧ at_ l i / 64 = 2 := by
  unfold contB
  rw [decide_eq_true_eq]
  omega
theorem wide1 (a least : Int) (l : List UInt8) : wide a least l 1 = if 1 < l.length ∧ at_ l 1 / 64 = 2 then wfin (cv a l 1) least 2 else (0, 0) := by
  have e : (∀ j, j < 1 → contB l (j + 1) = true) ↔ (1 < l.length ∧ at_ l 1 / 64 = 2) := by
    rw [all2]
    rw [cont_iff]
  unfold wide
  by_cases h : 1 < l.length ∧ at_ l 1 / 64 = 2
  · rw [if_pos h, if_pos (e.2 h)]
  · rw [if_neg h, if_neg (fun x => h (e.1 x))]
theorem wide2 (a least : Int) (l : List UInt8) : wide a least l 2 = if 1 < l.length ∧ at_ l 1 / 64 = 2 ∧ 2 < l.length ∧ at_ l 2 / 64 = 2 then wfin (cv a l 2) least 3 else (0, 0) := by
  have e : (∀ j, j < 2 → contB l (j + 1) = true) ↔ (1 < l.length ∧ at_ l 1 / 64 = 2 ∧ 2 < l.length ∧ at_ l 2 / 64 = 2) := by
    rw [all3]
    rw [cont_iff, cont_iff]; exact ⟨fun h => ⟨h.1.1, h.1.2, h.2⟩, fun h => ⟨⟨h.1, h.2.1⟩, h.2.2⟩⟩
  unfold wide
  by_cases h : 1 < l.length ∧ at_ l 1 / 64 = 2 ∧ 2 < l.length ∧ at_ l 2 / 64 = 2
  · rw [if_pos h, if_pos (e.2 h)]
  · rw [if_neg h, if_neg (fun x => h (e.1 x))]
theorem wide3 (a least : Int) (l : List UInt8) : wide a least l 3 = if (1 < l.length ∧ at_ l 1 / 64 = 2) ∧ (2 < l.length ∧ at_ l 2 / 64 = 2) ∧ (3 < l.length ∧ at_ l 3 / 64 = 2) then wfin (cv a l 3) least 4 else (0, 0) := by
  have e : (∀ j, j < 3 → contB l (j + 1) = true) ↔ ((1 < l.length ∧ at_ l 1 / 64 = 2) ∧ (2 < l.length ∧ at_ l 2 / 64 = 2) ∧ (3 < l.length ∧ at_ l 3 / 64 = 2)) := by
    rw [all4]
    rw [cont_iff, cont_iff, cont_iff]
  unfold wide
  by_cases h : (1 < l.length ∧ at_ l 1 / 64 = 2) ∧ (2 < l.length ∧ at_ l 2 / 64 = 2) ∧ (3 < l.length ∧ at_ l 3 / 64 = 2)
  · rw [if_pos h, if_pos (e.2 h)]
  · rw [if_neg h, if_neg (fun x => h (e.1 x))]
theorem num_of (c k : Nat) (h : c ≠ 65533 ∨ k ≠ 1) : num (c, k) = (c : Int) := by unfold num; rw [if_neg]; simp only; omega
theorem num_bad : num (65533, 1) = -1 := rfl
theorem fin_eq (z k : Nat) (least : Int) (P : Prop) [Decidable P] (hk : 2 ≤ k) (hP : P ↔ ¬ ((z : Int) < least ∨ 1114111 < (z : Int) ∨ (55296 ≤ (z : Int) ∧ (z : Int) ≤ 57343))) :
    (if (wfin z least k).2 = 0 then ((-1 : Int), 1) else wfin z least k) = (num (if P then (z, k) else (65533, 1)), (if P then (z, k) else (65533, 1)).2) := by
  by_cases h : P
  · have e : wfin z least k = ((z : Int), k) := by unfold wfin; rw [if_neg (hP.1 h)]
    rw [e, if_pos h, num_of _ _ (.inr (by omega)), if_neg (show ¬ ((z : Int), k).2 = 0 by simp only; omega)]
  · have e : wfin z least k = (0, 0) := by unfold wfin; rw [if_pos (Decidable.of_not_not (fun x => h (hP.2 x)))]
    rw [e, if_neg h]; rfl
set_option maxHeartbeats 2000000 in
/-- the document's way is Go's -/
theorem first_d (l : List UInt8) : first l = (num (d l), (d l).2) := by
  unfold first
  have h0 := at_lt l 0; have h1 := at_lt l 1; have h2 := at_lt l 2; have h3 := at_lt l 3
  by_cases ha : at_ l 0 < 128
  · rw [if_pos ha]
    unfold d
    rw [Lib.decodeN, if_pos ha, num_of _ _ (.inl (by omega))]
  · rw [if_neg ha]
    simp only
    by_cases h2b : 192 ≤ at_ l 0 ∧ at_ l 0 < 224
    · rw [if_pos h2b]
      have e : d l = if 1 < l.length ∧ at_ l 1 / 64 = 2 then (if at_ l 0 % 32 * 64 + at_ l 1 % 64 ≥ 128 then (at_ l 0 % 32 * 64 + at_ l 1 % 64, 2) else (65533, 1)) else (65533, 1) := by
        unfold d Lib.decodeN
        rw [if_neg ha]
        by_cases hc : 1 < l.length ∧ at_ l 1 / 64 = 2
        · rw [if_pos ⟨by omega, hc⟩, if_pos hc]
        · rw [if_neg (fun x => hc x.2), if_neg (by omega), if_neg (by omega), if_neg hc]
      rw [e]
      rw [wide1]
      by_cases hc : 1 < l.length ∧ at_ l 1 / 64 = 2
      · rw [if_pos hc, if_pos hc]
        have hcv : cv ((at_ l 0 : Int) - 192) l 1 = ((at_ l 0 % 32 * 64 + at_ l 1 % 64 : Nat) : Int) := by
          show 64 * ((at_ l 0 : Int) - 192) + (at_ l 1 : Int) - 128 = _
          omega
        rw [hcv]
        generalize hz : at_ l 0 % 32 * 64 + at_ l 1 % 64 = z
        exact fin_eq _ _ _ _ (by decide) (by omega)
      · rw [if_neg hc, if_neg hc]; rfl
    · rw [if_neg h2b]
      by_cases h3b : 224 ≤ at_ l 0 ∧ at_ l 0 < 240
      · rw [if_pos h3b]
        have e : d l = if 1 < l.length ∧ at_ l 1 / 64 = 2 ∧ 2 < l.length ∧ at_ l 2 / 64 = 2 then (if at_ l 0 % 16 * 4096 + at_ l 1 % 64 * 64 + at_ l 2 % 64 ≥ 2048 ∧ (at_ l 0 % 16 * 4096 + at_ l 1 % 64 * 64 + at_ l 2 % 64 < 55296 ∨ (57344 ≤ at_ l 0 % 16 * 4096 + at_ l 1 % 64 * 64 + at_ l 2 % 64 ∧ at_ l 0 % 16 * 4096 + at_ l 1 % 64 * 64 + at_ l 2 % 64 ≤ 1114111)) then (at_ l 0 % 16 * 4096 + at_ l 1 % 64 * 64 + at_ l 2 % 64, 3) else (65533, 1)) else (65533, 1) := by
          unfold d Lib.decodeN
          rw [if_neg ha, if_neg (by omega)]
          by_cases hc : 1 < l.length ∧ at_ l 1 / 64 = 2 ∧ 2 < l.length ∧ at_ l 2 / 64 = 2
          · rw [if_pos ⟨by omega, ⟨hc.1, hc.2.1⟩, hc.2.2⟩, if_pos hc]
          · rw [if_neg (fun x => hc ⟨x.2.1.1, x.2.1.2, x.2.2⟩), if_neg (by omega), if_neg hc]
        rw [e]
        rw [wide2]
        by_cases hc : 1 < l.length ∧ at_ l 1 / 64 = 2 ∧ 2 < l.length ∧ at_ l 2 / 64 = 2
        · rw [if_pos hc, if_pos hc]
          have hcv : cv ((at_ l 0 : Int) - 224) l 2 = ((at_ l 0 % 16 * 4096 + at_ l 1 % 64 * 64 + at_ l 2 % 64 : Nat) : Int) := by
            show 64 * (64 * ((at_ l 0 : Int) - 224) + (at_ l 1 : Int) - 128) + (at_ l 2 : Int) - 128 = _
            omega
          rw [hcv]
          generalize hz : at_ l 0 % 16 * 4096 + at_ l 1 % 64 * 64 + at_ l 2 % 64 = z
          exact fin_eq _ _ _ _ (by decide) (by omega)
        · rw [if_neg hc, if_neg hc]; rfl
      · rw [if_neg h3b]
        by_cases h4b : 240 ≤ at_ l 0 ∧ at_ l 0 < 248
        · rw [if_pos h4b]
          have e : d l = if (1 < l.length ∧ at_ l 1 / 64 = 2) ∧ (2 < l.length ∧ at_ l 2 / 64 = 2) ∧ (3 < l.length ∧ at_ l 3 / 64 = 2) then (if at_ l 0 % 8 * 262144 + at_ l 1 % 64 * 4096 + at_ l 2 % 64 * 64 + at_ l 3 % 64 ≥ 65536 ∧ (at_ l 0 % 8 * 262144 + at_ l 1 % 64 * 4096 + at_ l 2 % 64 * 64 + at_ l 3 % 64 < 55296 ∨ (57344 ≤ at_ l 0 % 8 * 262144 + at_ l 1 % 64 * 4096 + at_ l 2 % 64 * 64 + at_ l 3 % 64 ∧ at_ l 0 % 8 * 262144 + at_ l 1 % 64 * 4096 + at_ l 2 % 64 * 64 + at_ l 3 % 64 ≤ 1114111)) then (at_ l 0 % 8 * 262144 + at_ l 1 % 64 * 4096 + at_ l 2 % 64 * 64 + at_ l 3 % 64, 4) else (65533, 1)) else (65533, 1) := by
            unfold d Lib.decodeN
            rw [if_neg ha, if_neg (by omega), if_neg (by omega)]
            by_cases hc : (1 < l.length ∧ at_ l 1 / 64 = 2) ∧ (2 < l.length ∧ at_ l 2 / 64 = 2) ∧ (3 < l.length ∧ at_ l 3 / 64 = 2)
            · rw [if_pos ⟨by omega, hc⟩, if_pos hc]
            · rw [if_neg (fun x => hc x.2), if_neg hc]
          rw [e]
          rw [wide3]
          by_cases hc : (1 < l.length ∧ at_ l 1 / 64 = 2) ∧ (2 < l.length ∧ at_ l 2 / 64 = 2) ∧ (3 < l.length ∧ at_ l 3 / 64 = 2)
          · rw [if_pos hc, if_pos hc]
            have hcv : cv ((at_ l 0 : Int) - 240) l 3 = ((at_ l 0 % 8 * 262144 + at_ l 1 % 64 * 4096 + at_ l 2 % 64 * 64 + at_ l 3 % 64 : Nat) : Int) := by
              show 64 * (64 * (64 * ((at_ l 0 : Int) - 240) + (at_ l 1 : Int) - 128) + (at_ l 2 : Int) - 128) + (at_ l 3 : Int) - 128 = _
              omega
            rw [hcv]
            generalize hz : at_ l 0 % 8 * 262144 + at_ l 1 % 64 * 4096 + at_ l 2 % 64 * 64 + at_ l 3 % 64 = z
            exact fin_eq _ _ _ _ (by decide) (by omega)
          · rw [if_neg hc, if_neg hc]; rfl
        · rw [if_neg h4b]
          have e : d l = (65533, 1) := by
            unfold d Lib.decodeN
            rw [if_neg ha, if_neg (by omega), if_neg (by omega), if_neg (by omega)]
          rw [e]; rfl
theorem first_2 (l : List UInt8) (h : 192 ≤ at_ l 0 ∧ at_ l 0 < 224) : first l = if (wide ((at_ l 0 : Int) - 192) 128 l 1).2 = 0 then (-1, 1) else wide ((at_ l 0 : Int) - 192) 128 l 1 := by
  unfold first
  rw [if_neg (show ¬ at_ l 0 < 128 by omega)]
  simp only
  rw [if_pos h]
theorem first_3 (l : List UInt8) (h : 224 ≤ at_ l 0 ∧ at_ l 0 < 240) : first l = if (wide ((at_ l 0 : Int) - 224) 2048 l 2).2 = 0 then (-1, 1) else wide ((at_ l 0 : Int) - 224) 2048 l 2 := by
  unfold first
  rw [if_neg (show ¬ at_ l 0 < 128 by omega)]
  simp only
  rw [if_neg (show ¬ (192 ≤ at_ l 0 ∧ at_ l 0 < 224) by omega), if_pos h]
theorem first_4 (l : List UInt8) (h : 240 ≤ at_ l 0 ∧ at_ l 0 < 248) : first l = if (wide ((at_ l 0 : Int) - 240) 65536 l 3).2 = 0 then (-1, 1) else wide ((at_ l 0 : Int) - 240) 65536 l 3 := by
  unfold first
  rw [if_neg (show ¬ at_ l 0 < 128 by omega)]
  simp only
  rw [if_neg (show ¬ (192 ≤ at_ l 0 ∧ at_ l 0 < 224) by omega), if_neg (show ¬ (224 ≤ at_ l 0 ∧ at_ l 0 < 240) by omega), if_pos h]
theorem first_0 (l : List UInt8) (h : at_ l 0 < 128) : first l = ((at_ l 0 : Int), 1) := by unfold first; rw [if_pos h]
theorem first_x (l : List UInt8) (h : 128 ≤ at_ l 0) (h2 : at_ l 0 < 192 ∨ 248 ≤ at_ l 0) : first l = (-1, 1) := by
  unfold first
  rw [if_neg (show ¬ at_ l 0 < 128 by omega)]
  simp only
  rw [if_neg (show ¬ (192 ≤ at_ l 0 ∧ at_ l 0 < 224) by omega), if_neg (show ¬ (224 ≤ at_ l 0 ∧ at_ l 0 < 240) by omega), if_neg (show ¬ (240 ≤ at_ l 0 ∧ at_ l 0 < 248) by omega)]
  rfl
theorem cv_bd (a : Int) (l : List UInt8) (h0 : 0 ≤ a) (h1 : a ≤ 31) : ∀ j, (∀ i, i < j → contB l (i + 1) = true) → 0 ≤ cv a l j ∧ cv a l j < 32 * 64 ^ j
  | 0, _ => ⟨h0, by show a < 32 * 64 ^ 0; omega⟩
  | j + 1, h => by
    have ih := cv_bd a l h0 h1 j (fun i hi => h i (by omega))
    have hc := of_decide_eq_true (h j (by omega))
    rw [cv_succ, Int.pow_succ]
    omega
end Go.Proofs.YtajalllecoclcaaDoor.Tk
