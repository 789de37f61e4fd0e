/- Plain mathematics of statuses. No program in sight. -/
import Derived.Test.YtajalllecoclcaaDoorFrameMath
namespace Go.Proofs.YtajalllecoclcaaDoor.St
open Go

/-- a number's digits -/
def digs (n : Nat) : List UInt8 := if h : n < 10 then [UInt8.ofNat (48 + n)] else digs (n / 10) ++ [UInt8.ofNat (48 + n % 10)]
termination_by n
decreasing_by omega
theorem digs_lt (n : Nat) (h : n < 10) : digs n = [UInt8.ofNat (48 + n)] := by unfold digs; rw [dif_pos h]
theorem digs_ge (n : Nat) (h : ¬ n < 10) : digs n = digs (n / 10) ++ [UInt8.ofNat (48 + n % 10)] := by rw [digs, dif_neg h]
def isDig (b : UInt8) : Bool := decide (48 ≤ b.toNat ∧ b.toNat ≤ 57)
theorem dig_nat (m : Nat) (h : m < 10) : (UInt8.ofNat (48 + m)).toNat = 48 + m := by rw [UInt8.toNat_ofNat']; omega
theorem isDig_of (m : Nat) (h : m < 10) : isDig (UInt8.ofNat (48 + m)) = true := by
  unfold isDig
  rw [dig_nat m h]
  exact decide_eq_true (by omega)
theorem digs_all (n : Nat) : ∀ b ∈ digs n, isDig b = true := by
  induction n using Nat.strongRecOn with
  | ind n ih =>
    by_cases h : n < 10
    · rw [digs_lt n h]
      intro b hb
      rw [List.mem_singleton.1 hb]
      exact isDig_of n h
    · rw [digs_ge n h]
      intro b hb
      rcases List.mem_append.1 hb with hb | hb
      · exact ih (n / 10) (by omega) b hb
      · rw [List.mem_singleton.1 hb]
        exact isDig_of _ (Nat.mod_lt _ (by decide))
theorem digs_ne (n : Nat) : digs n ≠ [] := by
  by_cases h : n < 10
  · rw [digs_lt n h]; exact List.cons_ne_nil _ _
  · rw [digs_ge n h]; exact List.append_ne_nil_of_right_ne_nil _ (List.cons_ne_nil _ _)
/-- the value of digits -/
def val (l : List UInt8) (n : Nat) : Nat := l.foldl (fun n b => 10 * n + (b.toNat - 48)) n
theorem val_digs (n : Nat) : val (digs n) 0 = n := by
  induction n using Nat.strongRecOn with
  | ind n ih =>
    by_cases h : n < 10
    · rw [digs_lt n h]
      show 10 * 0 + ((UInt8.ofNat (48 + n)).toNat - 48) = n
      rw [dig_nat n h]; omega
    · rw [digs_ge n h]
      unfold val
      rw [List.foldl_append]
      have := ih (n / 10) (by omega)
      unfold val at this
      rw [this]
      show 10 * (n / 10) + ((UInt8.ofNat (48 + n % 10)).toNat - 48) = n
      rw [dig_nat _ (Nat.mod_lt _ (by decide))]
      omega
theorem digs_len (k : Nat) : ∀ n, n < 10 ^ k → 0 < k → (digs n).length ≤ k := by
  induction k with
  | zero => intro n _ h; omega
  | succ k ih =>
    intro n hn _
    by_cases h : n < 10
    · rw [digs_lt n h]; show 1 ≤ k + 1; omega
    · rw [digs_ge n h, List.length_append]
      have hk : 0 < k := by
        apply Nat.pos_of_ne_zero
        rintro rfl
        rw [Nat.zero_add, Nat.pow_one] at hn
        exact h hn
      have := ih (n / 10) (by rw [Nat.pow_succ] at hn; exact Nat.div_lt_of_lt_mul (by rw [Nat.mul_comm]; exact hn)) hk
      show _ + 1 ≤ k + 1
      omega
theorem digs_13 (n : Nat) (h : n ≤ 1099511627776) : (digs n).length ≤ 13 := digs_len 13 n (by omega) (by decide)
/-- no digit is a blank -/
theorem dig_ne (b : UInt8) (h : isDig b = true) : b ≠ 32 := by
  rintro rfl
  revert h
  decide
/-- a status's numbers -/
structure Nums where
  at' : Int
  jobs : Int
  used : Int
  limit : Int
  left : Int
  deriving DecidableEq
def okI (x : Int) : Bool := decide (0 ≤ x ∧ x ≤ 1099511627776)
def may (n : Nums) : Bool := okI n.at' && okI n.jobs && okI n.used && okI n.limit && okI n.left && decide (n.used ≤ n.limit)
def dg (x : Int) : List UInt8 := digs x.toNat
def textL (n : Nums) : List UInt8 := dg n.at' ++ [32] ++ dg n.jobs ++ [32] ++ dg n.used ++ [32] ++ dg n.limit ++ [32] ++ dg n.left
/-- a number of digits; -1: it is none -/
def number (l : List UInt8) : Int := if l = [] ∨ 13 < l.length then -1 else if l.all isDig then (val l 0 : Int) else -1
/-- digit by digit -/
def scan : List UInt8 → Nat → Int
  | [], n => n
  | b :: l, n => if isDig b = true then scan l (10 * n + (b.toNat - 48)) else -1
theorem scan_eq : ∀ (l : List UInt8) (n : Nat), scan l n = if l.all isDig then (val l n : Int) else -1
  | [], n => rfl
  | b :: l, n => by
    unfold scan
    rw [List.all_cons]
    by_cases h : isDig b = true
    · rw [if_pos h, h, Bool.true_and, scan_eq l]; rfl
    · have h2 : isDig b = false := by simpa using h
      rw [if_neg h, h2]; rfl
theorem scan_end (l : List UInt8) (k n : Nat) (h : l.length ≤ k) : scan (l.drop k) n = n := by rw [List.drop_eq_nil_of_le h]; rfl
theorem scan_dig (l : List UInt8) (k n : Nat) (h : k < l.length) (hd : isDig l[k] = true) : scan (l.drop k) n = scan (l.drop (k + 1)) (10 * n + (l[k].toNat - 48)) := by
  rw [List.drop_eq_getElem_cons h, scan, if_pos hd]
theorem scan_no (l : List UInt8) (k n : Nat) (h : k < l.length) (hd : ¬ isDig l[k] = true) : scan (l.drop k) n = -1 := by
  rw [List.drop_eq_getElem_cons h, scan, if_neg hd]
theorem number_dg (x : Int) (h : okI x = true) : number (dg x) = x := by
  have h2 : 0 ≤ x ∧ x ≤ 1099511627776 := of_decide_eq_true h
  unfold number dg
  have h3 := digs_13 x.toNat (by omega)
  rw [if_neg (by
    rintro (h4 | h4)
    · exact digs_ne _ h4
    · omega), if_pos (List.all_eq_true.2 (digs_all _)), val_digs]
  omega
end Go.Proofs.YtajalllecoclcaaDoor.St
