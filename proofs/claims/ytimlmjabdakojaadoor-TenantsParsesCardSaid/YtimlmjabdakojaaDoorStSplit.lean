/- A text cut at each byte of one kind, and a status's text read back. No program in sight. -/
import Derived.Test.YtimlmjabdakojaaDoorStWalk5
namespace Go.Proofs.YtimlmjabdakojaaDoor.St
open Go Go.Lib

/-- cut at every c -/
def splitC (c : UInt8) : List UInt8 → List (List UInt8)
  | [] => [[]]
  | b :: l => if b = c then [] :: splitC c l else (b :: (splitC c l).headD []) :: (splitC c l).tail
theorem splitC_ne (c : UInt8) (l : List UInt8) : splitC c l ≠ [] := by
  cases l with
  | nil => exact List.cons_ne_nil _ _
  | cons b l => unfold splitC; split <;> exact List.cons_ne_nil _ _
theorem splitC_piece (c : UInt8) (l : List UInt8) : ∀ p : List UInt8, (∀ b ∈ p, b ≠ c) → splitC c (p ++ c :: l) = p :: splitC c l
  | [], _ => by rw [List.nil_append, splitC, if_pos rfl]
  | b :: p, h => by
    rw [List.cons_append, splitC, if_neg (h b (List.mem_cons_self ..)), splitC_piece c l p (fun x hx => h x (List.mem_cons_of_mem _ hx))]
    rfl
theorem splitC_last (c : UInt8) : ∀ p : List UInt8, (∀ b ∈ p, b ≠ c) → splitC c p = [p]
  | [], _ => rfl
  | b :: p, h => by
    rw [splitC, if_neg (h b (List.mem_cons_self ..)), splitC_last c p (fun x hx => h x (List.mem_cons_of_mem _ hx))]
    rfl
theorem indexByte_cases (l : List UInt8) (c : UInt8) : Lib.indexByte l c = -1 ∨ ∃ j : Nat, Lib.indexByte l c = j := by
  have h := Lib.indexByte_ge l c
  by_cases h1 : Lib.indexByte l c = -1
  · exact .inl h1
  · exact .inr ⟨(Lib.indexByte l c).toNat, by omega⟩
theorem splitK_C (c : UInt8) : ∀ s : List UInt8, splitK [c] 0 (count s [c]) s = splitC c s
  | [] => by rw [count_one]; rfl
  | b :: l => by
    have ih := splitK_C c l
    by_cases h : b = c
    · subst h
      rw [count_cons_eq, Nat.add_comm, splitK, index_one]
      have hi : Lib.indexByte (b :: l) b = 0 := by unfold Lib.indexByte; rw [if_pos (by simp)]
      rw [hi, splitC, if_pos rfl, ← ih]
      simp
    · have hb : (b == c) = false := by simpa using h
      rw [count_cons_ne b c l h, splitC, if_neg h, ← ih]
      rcases indexByte_cases l c with hj | ⟨j, hj⟩
      · have h0 : count l [c] = 0 := count_miss (by rw [index_one]; exact hj)
        rw [h0]
        rfl
      · have h1 : count l [c] = 1 + count (l.drop (j + [c].length)) [c] := count_hit (by simp) (by rw [index_one]; exact hj)
        rw [h1, Nat.add_comm 1]
        rw [splitK, splitK, index_one, index_one]
        have hi : Lib.indexByte (b :: l) c = ((j + 1 : Nat) : Int) := by
          unfold Lib.indexByte
          rw [hb, hj]
          have : ¬ ((j : Int) == -1) = true := fun e => by have := beq_iff_eq.1 e; omega
          rw [if_neg this]
          simp
        rw [hi, hj]
        have n1 : ¬ ((j : Int) == -1) = true := fun e => by have := beq_iff_eq.1 e; omega
        have n2 : ¬ (((j + 1 : Nat) : Int) == -1) = true := fun e => by have := beq_iff_eq.1 e; omega
        rw [if_neg n1, if_neg n2]
        simp
theorem splitB_C (c : UInt8) (s : ByteArray) : splitB ⟨#[c]⟩ 0 (countB s ⟨#[c]⟩) s = (splitC c s.data.toList).map Fr.bs := by
  have h := splitB_data ⟨#[c]⟩ 0 (countB s ⟨#[c]⟩) s
  have h2 : splitK [c] 0 (countB s ⟨#[c]⟩) s.data.toList = splitC c s.data.toList := splitK_C c s.data.toList
  rw [show ((⟨#[c]⟩ : ByteArray).data.toList) = [c] from rfl, h2] at h
  rw [← h, List.map_map]
  rw [show (Fr.bs ∘ fun x : ByteArray => x.data.toList) = id from funext fun x => Fr.bs_list x, List.map_id]
theorem countB_C (c : UInt8) (s : ByteArray) : countB s ⟨#[c]⟩ + 1 = (splitC c s.data.toList).length := by
  rw [← splitB_all ⟨#[c]⟩ (Nat.le_refl _) 0 _ s rfl, splitB_C, List.length_map]

/-- a text's status -/
def parse (s : List UInt8) : Option Nums :=
  match splitC 32 s with
  | [a, b, c, d, e] => if may ⟨number a, number b, number c, number d, number e⟩ = true ∧ textL ⟨number a, number b, number c, number d, number e⟩ = s then some ⟨number a, number b, number c, number d, number e⟩ else none
  | _ => none
theorem textL_cons (n : Nums) : textL n = dg n.at' ++ 32 :: (dg n.jobs ++ 32 :: (dg n.used ++ 32 :: (dg n.limit ++ 32 :: dg n.left))) := by
  unfold textL
  simp
theorem dg_ne (x : Int) : ∀ b ∈ dg x, b ≠ 32 := fun b hb => dig_ne b (digs_all _ b hb)
theorem split_text (n : Nums) : splitC 32 (textL n) = [dg n.at', dg n.jobs, dg n.used, dg n.limit, dg n.left] := by
  rw [textL_cons, splitC_piece _ _ _ (dg_ne _), splitC_piece _ _ _ (dg_ne _), splitC_piece _ _ _ (dg_ne _), splitC_piece _ _ _ (dg_ne _), splitC_last _ _ (dg_ne _)]
theorem may_ok {n : Nums} (h : may n = true) : okI n.at' = true ∧ okI n.jobs = true ∧ okI n.used = true ∧ okI n.limit = true ∧ okI n.left = true := by
  unfold may at h
  simp only [Bool.and_eq_true] at h
  exact ⟨h.1.1.1.1.1, h.1.1.1.1.2, h.1.1.1.2, h.1.1.2, h.1.2⟩
theorem parse_text (n : Nums) (h : may n = true) : parse (textL n) = some n := by
  obtain ⟨h1, h2, h3, h4, h5⟩ := may_ok h
  unfold parse
  rw [split_text]
  simp only [number_dg _ h1, number_dg _ h2, number_dg _ h3, number_dg _ h4, number_dg _ h5]
  rw [if_pos ⟨h, trivial⟩]
theorem parse_sound (s : List UInt8) (n : Nums) (h : parse s = some n) : may n = true ∧ textL n = s := by
  unfold parse at h
  split at h
  · split at h
    · rename_i h2
      cases h
      exact h2
    · cases h
  · cases h
/-- the reference: byte by byte -/
def scanR : List UInt8 → List Nat → Nat → Nat → Option (List Nat)
  | [], done, cur, _ => if done.length = 4 then some (done ++ [cur]) else none
  | b :: l, done, cur, dig => if b = 32 then scanR l (done ++ [cur]) 0 0 else if done.length ≤ 4 ∧ isDig b = true ∧ dig < 13 then scanR l done (10 * cur + (b.toNat - 48)) (dig + 1) else none
theorem scanR_digs (l : List UInt8) (done : List Nat) (hd : done.length ≤ 4) : ∀ (p : List UInt8) (cur dig : Nat), (∀ b ∈ p, isDig b = true) → dig + p.length ≤ 13 → scanR (p ++ l) done cur dig = scanR l done (val p cur) (dig + p.length)
  | [], cur, dig, _, _ => rfl
  | b :: p, cur, dig, h, hl => by
    have hb := h b (List.mem_cons_self ..)
    rw [List.length_cons] at hl
    rw [List.cons_append, scanR, if_neg (dig_ne b hb), if_pos ⟨hd, hb, by omega⟩, scanR_digs l done hd p _ _ (fun x hx => h x (List.mem_cons_of_mem _ hx)) (by omega)]
    rw [List.length_cons, Nat.add_right_comm, Nat.add_assoc]
    rfl
theorem scanR_num (x : Int) (hx : okI x = true) (l : List UInt8) (done : List Nat) (hd : done.length ≤ 4) : scanR (dg x ++ 32 :: l) done 0 0 = scanR l (done ++ [x.toNat]) 0 0 := by
  have h2 : 0 ≤ x ∧ x ≤ 1099511627776 := of_decide_eq_true hx
  rw [dg, scanR_digs _ done hd (digs x.toNat) 0 0 (digs_all _) (by have := digs_13 x.toNat (by omega); omega), scanR, if_pos rfl, val_digs]
theorem scanR_last (x : Int) (hx : okI x = true) (done : List Nat) (hd : done.length = 4) : scanR (dg x) done 0 0 = some (done ++ [x.toNat]) := by
  have h2 : 0 ≤ x ∧ x ≤ 1099511627776 := of_decide_eq_true hx
  have h := scanR_digs [] done (by omega) (digs x.toNat) 0 0 (digs_all _) (by have := digs_13 x.toNat (by omega); omega)
  rw [List.append_nil] at h
  rw [dg, h, scanR, if_pos hd, val_digs]
theorem scanR_text (n : Nums) (h : may n = true) : scanR (textL n) [] 0 0 = some [n.at'.toNat, n.jobs.toNat, n.used.toNat, n.limit.toNat, n.left.toNat] := by
  obtain ⟨h1, h2, h3, h4, h5⟩ := may_ok h
  rw [textL_cons, scanR_num _ h1 _ _ (by decide), scanR_num _ h2 _ _ (by simp), scanR_num _ h3 _ _ (by simp), scanR_num _ h4 _ _ (by simp), scanR_last _ h5 _ (by simp)]
  rfl
def numsOf (l : List Nat) : Nums := ⟨((l.getD 0 0 : Nat) : Int), ((l.getD 1 0 : Nat) : Int), ((l.getD 2 0 : Nat) : Int), ((l.getD 3 0 : Nat) : Int), ((l.getD 4 0 : Nat) : Int)⟩
/-- the reference's answer is the program's -/
theorem parse_scan (s : List UInt8) : parse s = (match scanR s [] 0 0 with | some l => if may (numsOf l) = true ∧ textL (numsOf l) = s then some (numsOf l) else none | none => none) := by
  cases hp : parse s with
  | some n =>
    obtain ⟨h1, rfl⟩ := parse_sound s n hp
    rw [scanR_text n h1]
    have e : numsOf [n.at'.toNat, n.jobs.toNat, n.used.toNat, n.limit.toNat, n.left.toNat] = n := by
      obtain ⟨k1, k2, k3, k4, k5⟩ := may_ok h1
      have f : ∀ x : Int, okI x = true → ((x.toNat : Nat) : Int) = x := fun x hx => by
        have : 0 ≤ x ∧ x ≤ 1099511627776 := of_decide_eq_true hx
        omega
      obtain ⟨a, b, c, d, e⟩ := n
      show (⟨((a.toNat : Nat) : Int), ((b.toNat : Nat) : Int), ((c.toNat : Nat) : Int), ((d.toNat : Nat) : Int), ((e.toNat : Nat) : Int)⟩ : Nums) = _
      rw [f a k1, f b k2, f c k3, f d k4, f e k5]
    simp only [e]
    rw [if_pos ⟨h1, trivial⟩]
  | none =>
    cases hs : scanR s [] 0 0 with
    | none => rfl
    | some l =>
      simp only
      rw [if_neg]
      rintro ⟨h1, h2⟩
      rw [← h2, parse_text _ h1] at hp
      cases hp
end Go.Proofs.YtimlmjabdakojaaDoor.St
