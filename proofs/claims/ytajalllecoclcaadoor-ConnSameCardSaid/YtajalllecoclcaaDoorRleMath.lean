/- Plain mathematics of runs: pieces of a text, a packed text, and back. No program in sight. -/
import Derived.Laws.BitsAllLaws
namespace Go.Proofs.YtajalllecoclcaaDoor.Rl
open Go

/-- how many of a byte a list begins with, m at most -/
def rowN (b : UInt8) : Nat → List UInt8 → Nat
  | 0, _ => 0
  | _ + 1, [] => 0
  | m + 1, c :: l => if c = b then 1 + rowN b m l else 0
theorem rowN_cons (b c : UInt8) (m : Nat) (l : List UInt8) : rowN b (m + 1) (c :: l) = if c = b then 1 + rowN b m l else 0 := rfl
theorem rowN_le (b : UInt8) : ∀ (m : Nat) (l : List UInt8), rowN b m l ≤ m ∧ rowN b m l ≤ l.length
  | 0, _ => ⟨Nat.le_refl _, Nat.zero_le _⟩
  | m + 1, [] => ⟨Nat.zero_le _, Nat.le_refl _⟩
  | m + 1, c :: l => by
    have := rowN_le b m l
    unfold rowN
    split
    · exact ⟨by omega, by simp; omega⟩
    · exact ⟨Nat.zero_le _, Nat.zero_le _⟩
theorem rowN_yes (b : UInt8) (m : Nat) (l : List UInt8) (k : Nat) (hk : k < l.length) (hb : l[k] = b) : rowN b (m + 1) (l.drop k) = 1 + rowN b m (l.drop (k + 1)) := by
  rw [List.drop_eq_getElem_cons hk, rowN_cons, if_pos hb]
theorem rowN_no (b : UInt8) (m : Nat) (l : List UInt8) (k : Nat) (h : ∀ hk : k < l.length, l[k] ≠ b) : rowN b m (l.drop k) = 0 := by
  cases m with
  | zero => rfl
  | succ m =>
    by_cases hk : k < l.length
    · rw [List.drop_eq_getElem_cons hk]
      unfold rowN
      rw [if_neg (h hk)]
    · rw [List.drop_of_length_le (by omega)]; rfl
theorem rowN_take (b : UInt8) : ∀ (m : Nat) (l : List UInt8), l = List.replicate (rowN b m l) b ++ l.drop (rowN b m l)
  | 0, _ => rfl
  | m + 1, [] => rfl
  | m + 1, c :: l => by
    unfold rowN
    split
    · rename_i h
      subst h
      rw [Nat.add_comm, List.replicate_succ, List.drop_succ_cons, List.cons_append, ← rowN_take c m l]
    · rfl
theorem rowN_next (b : UInt8) : ∀ (m : Nat) (l : List UInt8), rowN b m l = m ∨ (l.drop (rowN b m l)).head? ≠ some b
  | 0, _ => .inl rfl
  | m + 1, [] => .inr (by simp [rowN])
  | m + 1, c :: l => by
    unfold rowN
    split
    · rcases rowN_next b m l with h | h
      · exact .inl (by omega)
      · refine .inr ?_
        rw [Nat.add_comm, List.drop_succ_cons]; exact h
    · rename_i h
      exact .inr (by simpa using h)

/-- a piece -/
structure Pc where
  b : UInt8
  n : Nat
/-- how many like bytes a text begins with -/
def rl : List UInt8 → Nat
  | [] => 0
  | b :: l => rowN b 255 (b :: l)
theorem rl_bd (b : UInt8) (l : List UInt8) : 1 ≤ rl (b :: l) ∧ rl (b :: l) ≤ 255 ∧ rl (b :: l) ≤ l.length + 1 := by
  have h := rowN_le b 255 (b :: l)
  show 1 ≤ rowN b 255 (b :: l) ∧ rowN b 255 (b :: l) ≤ 255 ∧ rowN b 255 (b :: l) ≤ l.length + 1
  refine ⟨?_, h.1, by simpa using h.2⟩
  rw [rowN_cons, if_pos rfl]; omega
def pieces : Nat → List UInt8 → List Pc
  | 0, _ => []
  | _ + 1, [] => []
  | n + 1, b :: l => ⟨b, rl (b :: l)⟩ :: pieces n ((b :: l).drop (rl (b :: l)))
def pcs (l : List UInt8) : List Pc := pieces l.length l
theorem pieces_nil (n : Nat) : pieces n [] = [] := by cases n <;> rfl
theorem pieces_fuel : ∀ (n m : Nat) (l : List UInt8), l.length ≤ n → l.length ≤ m → pieces n l = pieces m l
  | _, m, [], _, _ => by rw [pieces_nil, pieces_nil]
  | 0, _, b :: l, h, _ => by simp at h
  | _, 0, b :: l, _, h => by simp at h
  | n + 1, m + 1, b :: l, h1, h2 => by
    have hb := rl_bd b l
    simp at h1 h2
    unfold pieces
    rw [pieces_fuel n m _ (by simp; omega) (by simp; omega)]
theorem pcs_nil : pcs [] = [] := rfl
theorem pcs_cons (b : UInt8) (l : List UInt8) : pcs (b :: l) = ⟨b, rl (b :: l)⟩ :: pcs ((b :: l).drop (rl (b :: l))) := by
  have hb := rl_bd b l
  show pieces (l.length + 1) (b :: l) = _
  unfold pieces pcs
  rw [pieces_fuel l.length _ _ (by simp; omega) (Nat.le_refl _)]
/-- all pieces behind p, those ahead: ps -/
theorem pcs_at (l : List UInt8) (p : Nat) (h : p < l.length) : pcs (l.drop p) = ⟨l[p], rl (l.drop p)⟩ :: pcs (l.drop (p + rl (l.drop p))) ∧ 1 ≤ rl (l.drop p) ∧ rl (l.drop p) ≤ 255 ∧ p + rl (l.drop p) ≤ l.length := by
  have e := List.drop_eq_getElem_cons h
  have hb := rl_bd l[p] (l.drop (p + 1))
  rw [← e] at hb
  refine ⟨?_, hb.1, hb.2.1, by have := hb.2.2; rw [List.length_drop] at this; omega⟩
  conv => lhs; rw [e, pcs_cons, ← e, List.drop_drop]
theorem pcs_end (l : List UInt8) (p : Nat) (h : l.length ≤ p) : pcs (l.drop p) = [] := by rw [List.drop_of_length_le h]; rfl
theorem rl_at (l : List UInt8) (p : Nat) (h : p < l.length) : rl (l.drop p) = rowN l[p] 255 (l.drop p) := by
  rw [List.drop_eq_getElem_cons h]; rfl

/-- a piece as bytes -/
def text (p : Pc) : List UInt8 := if p.n < 4 then List.replicate p.n p.b else [p.b, p.b, p.b, p.b, UInt8.ofNat (p.n - 4)]
def enc (l : List UInt8) : List UInt8 := (pcs l).flatMap text
theorem text_len (p : Pc) : (text p).length = if p.n < 4 then p.n else 5 := by unfold text; split <;> simp
theorem text_le (p : Pc) : (text p).length ≤ 5 := by rw [text_len]; split <;> omega

/-- what a packed text stands for: how many like bytes came last, the byte that came last, what stood for so far -/
def mach : Nat → UInt8 → List UInt8 → List UInt8 → List UInt8 × Int
  | r, _, out, [] => if r = 4 then ([], 24) else (out, 0)
  | r, b, out, c :: l => if r = 4 then (if 251 < c.toNat then ([], 25) else mach 0 c (out ++ List.replicate c.toNat b) l)
      else if 0 < r ∧ c = b then mach (r + 1) c (out ++ [c]) l else mach 1 c (out ++ [c]) l
theorem mach_nil (r : Nat) (b : UInt8) (out : List UInt8) : mach r b out [] = if r = 4 then ([], 24) else (out, 0) := rfl
theorem mach_cons (r : Nat) (b c : UInt8) (out l : List UInt8) : mach r b out (c :: l) = if r = 4 then (if 251 < c.toNat then ([], 25) else mach 0 c (out ++ List.replicate c.toNat b) l)
      else if 0 < r ∧ c = b then mach (r + 1) c (out ++ [c]) l else mach 1 c (out ++ [c]) l := rfl
theorem not_zero {p : Prop} : ¬ (0 < 0 ∧ p) := fun h => absurd h.1 (by decide)
def dec (l : List UInt8) : List UInt8 × Int := mach 0 0 [] l
/-- does a text begin with four like bytes? -/
def four (l : List UInt8) : Bool := decide (4 ≤ l.length ∧ l[0]? = l[1]? ∧ l[1]? = l[2]? ∧ l[2]? = l[3]?)
/-- the document's way -/
def rdec : Nat → List UInt8 → List UInt8 → List UInt8 × Int
  | 0, out, _ => (out, 0)
  | _ + 1, out, [] => (out, 0)
  | n + 1, out, b :: t => if four (b :: t) = false then rdec n (out ++ [b]) t else if (b :: t).length = 4 then ([], 24) else if 251 < ((b :: t).getD 4 0).toNat then ([], 25) else rdec n (out ++ List.replicate (4 + ((b :: t).getD 4 0).toNat) b) ((b :: t).drop 5)
theorem rdec_cons (n : Nat) (out t : List UInt8) (b : UInt8) : rdec (n + 1) out (b :: t) = if four (b :: t) = false then rdec n (out ++ [b]) t else if (b :: t).length = 4 then ([], 24) else if 251 < ((b :: t).getD 4 0).toNat then ([], 25) else rdec n (out ++ List.replicate (4 + ((b :: t).getD 4 0).toNat) b) ((b :: t).drop 5) := rfl

theorem rowN_more (c : UInt8) : ∀ (m : Nat) (l : List UInt8), rowN c m l < m → rowN c (m + 1) l = rowN c m l
  | 0, l, h => by omega
  | m + 1, [], _ => rfl
  | m + 1, d :: l, h => by
    rw [rowN_cons] at h ⊢
    rw [rowN_cons]
    by_cases hd : d = c
    · rw [if_pos hd] at h
      rw [if_pos hd, if_pos hd, rowN_more c m l (by omega)]
    · rw [if_neg hd, if_neg hd]
/-- a run that will not be four -/
theorem mach_low (b : UInt8) : ∀ (l : List UInt8) (r : Nat) (q : UInt8) (out : List UInt8), r + rowN b 4 l < 4 → mach r b out l = mach 0 q out l
  | [], r, q, out, h => by
    rw [mach_nil, mach_nil, if_neg (by omega), if_neg (by decide)]
  | c :: l, r, q, out, h => by
    have hr : r ≠ 4 := by omega
    rw [mach_cons, mach_cons, if_neg hr, if_neg (show ¬ 0 = 4 by decide), if_neg (not_zero (p := c = q))]
    by_cases hc : c = b
    · subst hc
      have h2 : rowN c 4 (c :: l) = 1 + rowN c 3 l := by rw [rowN_cons, if_pos rfl]
      have h4 : rowN c 4 l = rowN c 3 l := rowN_more c 3 l (by omega)
      by_cases h0 : 0 < r
      · rw [if_pos ⟨h0, rfl⟩, mach_low c l (r + 1) q _ (by omega), mach_low c l 1 q _ (by omega)]
      · rw [if_neg (fun h => h0 h.1)]
    · rw [if_neg (fun h => hc h.2)]
theorem four_cases (l : List UInt8) : (∃ b t, l = b :: b :: b :: b :: t ∧ four l = true) ∨ (four l = false ∧ ∀ b t, l = b :: t → 1 + rowN b 4 t < 4) := by
  match l with
  | [] => exact .inr ⟨rfl, fun b t h => nomatch h⟩
  | [a] => exact .inr ⟨rfl, fun b t h => by cases h; simp [rowN]⟩
  | [a, b] => exact .inr ⟨rfl, fun x t h => by cases h; have := rowN_le a 4 [b]; simp at this; omega⟩
  | [a, b, c] => exact .inr ⟨rfl, fun x t h => by cases h; have := rowN_le a 4 [b, c]; simp at this; omega⟩
  | a :: b :: c :: d :: t =>
    by_cases h1 : a = b
    · subst h1
      by_cases h2 : a = c
      · subst h2
        by_cases h3 : a = d
        · subst h3
          exact .inl ⟨a, t, rfl, by simp [four]⟩
        · refine .inr ⟨by simp [four, h3], fun x t' h => by cases h; simp [rowN, Ne.symm h3]⟩
      · refine .inr ⟨by simp [four, h2], fun x t' h => by cases h; simp [rowN, Ne.symm h2]⟩
    · refine .inr ⟨by simp [four, h1], fun x t' h => by cases h; simp [rowN, Ne.symm h1]⟩
theorem mach_four (b q : UInt8) (out t : List UInt8) : mach 0 q out (b :: b :: b :: b :: t) = mach 4 b (out ++ [b, b, b, b]) t := by
  simp [mach]
/-- both ways tell the same -/
theorem mach_rdec : ∀ (n : Nat) (l out : List UInt8) (q : UInt8), l.length ≤ n → mach 0 q out l = rdec n out l
  | 0, l, out, q, h => by
    obtain rfl : l = [] := List.length_eq_zero_iff.1 (by omega)
    simp [mach, rdec]
  | n + 1, [], out, q, h => by simp [mach, rdec]
  | n + 1, b :: t, out, q, h => by
    rcases four_cases (b :: t) with ⟨b', t', e, hf⟩ | ⟨hf, hr⟩
    · obtain ⟨rfl, rfl⟩ : b = b' ∧ t = b' :: b' :: b' :: t' := by simpa using e
      rw [mach_four, rdec_cons, hf, if_neg (by decide)]
      match t' with
      | [] => simp [mach_nil]
      | c :: t'' =>
        simp only [List.length_cons, List.getD_cons_succ, List.getD_cons_zero, List.drop_succ_cons, List.drop_zero]
        rw [if_neg (by omega), mach_cons, if_pos rfl]
        by_cases h5 : 251 < c.toNat
        · rw [if_pos h5, if_pos h5]
        · rw [if_neg h5, if_neg h5, mach_rdec n t'' _ c (by simp at h; omega)]
          congr 1
          rw [List.append_assoc]
          congr 1
          rw [show 4 + c.toNat = c.toNat + 1 + 1 + 1 + 1 by omega]
          simp [List.replicate_succ]
    · rw [rdec_cons, hf, if_pos rfl, mach_cons, if_neg (show ¬ 0 = 4 by decide), if_neg (not_zero (p := b = q)), mach_low b t 1 b _ (hr b t rfl), mach_rdec n t _ b (by simpa using h)]
theorem dec_rdec (l : List UInt8) : dec l = rdec l.length [] l := mach_rdec _ _ _ _ (Nat.le_refl _)

/-- pieces fit: each has 1 to 255 bytes, and two side by side unlike ones, or the first one has 255 -/
def Apart : List Pc → Prop
  | [] => True
  | [p] => 1 ≤ p.n ∧ p.n ≤ 255
  | p :: q :: l => 1 ≤ p.n ∧ p.n ≤ 255 ∧ (p.b ≠ q.b ∨ p.n = 255) ∧ Apart (q :: l)
theorem pieces_ind {C : List UInt8 → Prop} (h0 : C []) (h1 : ∀ b l, C ((b :: l).drop (rl (b :: l))) → C (b :: l)) : ∀ (n : Nat) (l : List UInt8), l.length ≤ n → C l
  | _, [], _ => h0
  | 0, b :: l, h => by simp at h
  | n + 1, b :: l, h => h1 b l (pieces_ind h0 h1 n _ (by have := rl_bd b l; simp at h; simp; omega))
theorem pcs_apart (l : List UInt8) : Apart (pcs l) := by
  refine pieces_ind (C := fun l => Apart (pcs l)) trivial (fun b l ih => ?_) l.length l (Nat.le_refl _)
  have hb := rl_bd b l
  have hn : rl (b :: l) = 255 ∨ _ := rowN_next b 255 (b :: l)
  rw [pcs_cons]
  change _ ∨ ((b :: l).drop (rl (b :: l))).head? ≠ some b at hn
  generalize (b :: l).drop (rl (b :: l)) = t at *
  cases t with
  | nil => exact ⟨hb.1, hb.2.1⟩
  | cons c t =>
    rw [pcs_cons] at ih ⊢
    refine ⟨hb.1, hb.2.1, ?_, ih⟩
    rcases hn with hn | hn
    · exact .inr hn
    · exact .inl (fun e => hn (by rw [List.head?_cons]; exact congrArg some e.symm))
theorem pcs_join (l : List UInt8) : (pcs l).flatMap (fun p => List.replicate p.n p.b) = l := by
  refine pieces_ind (C := fun l => (pcs l).flatMap (fun p => List.replicate p.n p.b) = l) rfl (fun b l ih => ?_) l.length l (Nat.le_refl _)
  rw [pcs_cons, List.flatMap_cons, ih]
  exact (rowN_take b 255 (b :: l)).symm
theorem pcs_length (l : List UInt8) : (pcs l).length ≤ l.length := by
  refine pieces_ind (C := fun l => (pcs l).length ≤ l.length) (Nat.le_refl _) (fun b l ih => ?_) l.length l (Nat.le_refl _)
  have hb := rl_bd b l
  rw [pcs_cons, List.length_cons]
  rw [List.length_drop] at ih
  simp at ih ⊢; omega
theorem mach_rep (b : UInt8) : ∀ (k r : Nat) (out t : List UInt8), 0 < r → r + k ≤ 4 → mach r b out (List.replicate k b ++ t) = mach (r + k) b (out ++ List.replicate k b) t
  | 0, r, out, t, _, _ => by simp
  | k + 1, r, out, t, h0, h => by
    rw [List.replicate_succ, List.cons_append, mach_cons, if_neg (by omega), if_pos ⟨h0, rfl⟩, mach_rep b k (r + 1) _ t (by omega) (by omega)]
    congr 1
    · omega
    · simp
/-- at a piece's head: nothing was counted, or another byte, less than four times -/
def Fresh (r : Nat) (q b : UInt8) : Prop := r = 0 ∨ (r < 4 ∧ q ≠ b)
theorem mach_first (r : Nat) (q b : UInt8) (out t : List UInt8) (h : Fresh r q b) : mach r q out (b :: t) = mach 1 b (out ++ [b]) t := by
  rcases h with rfl | ⟨h1, h2⟩
  · rw [mach_cons, if_neg (show ¬ 0 = 4 by decide), if_neg (not_zero (p := b = q))]
  · rw [mach_cons, if_neg (by omega), if_neg (fun h => h2 h.2.symm)]
theorem mach_text (p : Pc) (h1 : 1 ≤ p.n) (h2 : p.n ≤ 255) (r : Nat) (q : UInt8) (out t : List UInt8) (h : Fresh r q p.b) :
    ∃ r' q', mach r q out (text p ++ t) = mach r' q' (out ++ List.replicate p.n p.b) t ∧ (r' = 0 ∨ (r' < 4 ∧ q' = p.b ∧ p.n < 4)) := by
  obtain ⟨b, n⟩ := p
  simp only at h1 h2 h ⊢
  unfold text
  by_cases h4 : n < 4
  · obtain ⟨k, rfl⟩ : ∃ k, n = k + 1 := ⟨n - 1, by omega⟩
    refine ⟨1 + k, b, ?_, .inr ⟨by omega, rfl, h4⟩⟩
    simp only [if_pos h4]
    rw [List.replicate_succ, List.cons_append, mach_first _ _ _ _ _ h, mach_rep b k 1 _ t (by decide) (by omega)]
    simp
  · refine ⟨0, UInt8.ofNat (n - 4), ?_, .inl rfl⟩
    simp only [if_neg h4]
    have hc : (UInt8.ofNat (n - 4)).toNat = n - 4 := by rw [UInt8.toNat_ofNat']; omega
    show mach r q out (b :: b :: b :: b :: UInt8.ofNat (n - 4) :: t) = _
    rw [mach_first _ _ _ _ _ h]
    have h3 := mach_rep b 3 1 (out ++ [b]) (UInt8.ofNat (n - 4) :: t) (by decide) (by decide)
    simp only [List.replicate_succ, List.replicate_zero, List.cons_append, List.nil_append] at h3
    rw [h3, mach_cons, if_pos (by decide), hc, if_neg (by omega)]
    congr 1
    simp only [List.append_assoc, List.cons_append, List.nil_append]
    congr 1
    rw [show n = (n - 4) + 1 + 1 + 1 + 1 by omega]
    simp [List.replicate_succ]
theorem mach_enc : ∀ (ps : List Pc) (r : Nat) (q : UInt8) (out : List UInt8), Apart ps → r ≠ 4 → (∀ p ∈ ps.head?, Fresh r q p.b) →
    mach r q out (ps.flatMap text) = (out ++ ps.flatMap (fun p => List.replicate p.n p.b), 0)
  | [], r, q, out, _, hr, _ => by
    simp only [List.flatMap_nil, List.append_nil]
    rw [mach_nil, if_neg hr]
  | p :: ps, r, q, out, ha, hr, hf => by
    have hp : 1 ≤ p.n ∧ p.n ≤ 255 := by
      cases ps with
      | nil => exact ha
      | cons x l => exact ⟨ha.1, ha.2.1⟩
    obtain ⟨r', q', e, h'⟩ := mach_text p hp.1 hp.2 r q out (ps.flatMap text) (hf p rfl)
    rw [List.flatMap_cons, List.flatMap_cons, e, mach_enc ps r' q' _ ?_ ?_ ?_, List.append_assoc]
    · cases ps with
      | nil => trivial
      | cons x l => exact ha.2.2.2
    · rcases h' with h' | h' <;> omega
    · intro x hx
      cases ps with
      | nil => cases hx
      | cons y l =>
        obtain rfl : y = x := by simpa using hx
        rcases h' with h' | ⟨h1, h2, h3⟩
        · exact .inl h'
        · refine .inr ⟨h1, ?_⟩
          rw [h2]
          rcases ha.2.2.1 with h | h
          · exact h
          · omega
/-- unpacked what was packed is the text -/
theorem dec_enc (l : List UInt8) : dec (enc l) = (l, 0) := by
  unfold dec enc
  rw [mach_enc _ _ _ _ (pcs_apart l) (by decide) (fun p _ => .inl rfl), pcs_join]; rfl

/-- five bytes for four at most -/
theorem enc_small (l : List UInt8) : 4 * (enc l).length ≤ 5 * l.length := by
  unfold enc
  refine pieces_ind (C := fun l => 4 * ((pcs l).flatMap text).length ≤ 5 * l.length) (Nat.le_refl _) (fun b l ih => ?_) l.length l (Nat.le_refl _)
  have hb := rl_bd b l
  rw [pcs_cons, List.flatMap_cons, List.length_append, text_len]
  rw [List.length_drop] at ih
  simp only [List.length_cons] at ih ⊢
  split <;> omega
theorem rowN_rep (b : UInt8) : ∀ m k : Nat, rowN b m (List.replicate k b) = min m k
  | 0, k => by simp [rowN]
  | m + 1, 0 => by simp [rowN]
  | m + 1, k + 1 => by
    rw [List.replicate_succ]
    unfold rowN
    rw [if_pos rfl, rowN_rep b m k]; omega
theorem enc_rep (b : UInt8) (n : Nat) : ∀ k, k ≤ n → (enc (List.replicate k b)).length = 5 * (k / 255) + if 4 ≤ k % 255 then 5 else k % 255 := by
  induction n with
  | zero => intro k hk; obtain rfl : k = 0 := by omega
            rfl
  | succ n ih =>
    intro k hk
    cases k with
    | zero => rfl
    | succ k =>
      have hrl : rl (b :: List.replicate k b) = min 255 (k + 1) := rowN_rep b 255 (k + 1)
      unfold enc
      rw [List.replicate_succ, pcs_cons, List.flatMap_cons, List.length_append, text_len, hrl]
      have hd : (b :: List.replicate k b).drop (min 255 (k + 1)) = List.replicate (k + 1 - min 255 (k + 1)) b := by
        rw [← List.replicate_succ, List.drop_replicate]
      rw [hd]
      have := ih (k + 1 - min 255 (k + 1)) (by omega)
      unfold enc at this
      rw [this]
      by_cases h : k + 1 < 255
      · rw [Nat.min_eq_right (by omega), Nat.div_eq_of_lt h, Nat.mod_eq_of_lt h]
        simp only [Nat.sub_self, Nat.zero_div, Nat.zero_mod]
        split <;> split <;> simp <;> omega
      · have hm : min 255 (k + 1) = 255 := Nat.min_eq_left (by omega)
        have e1 : (k + 1) / 255 = (k + 1 - 255) / 255 + 1 := by omega
        have e2 : (k + 1) % 255 = (k + 1 - 255) % 255 := by omega
        rw [hm, e1, e2, if_neg (show ¬ (255 < 4) by decide)]
        omega
end Go.Proofs.YtajalllecoclcaaDoor.Rl
