/- Plain mathematics of tables of tenants. No program in sight. -/
import Derived.Test.YtajalllecoclcaaDoorStSplitM
import Derived.Test.YtajalllecoclcaaDoorTokWalk3
import Derived.Test.YtajalllecoclcaaDoorTokMath3
namespace Go.Proofs.YtajalllecoclcaaDoor
open Go Go.RowKit
namespace Tn
structure Ten where
  name : ByteArray
  tok : ByteArray
  mem : Int
  st : Int
  qu : Int
  deriving DecidableEq
def btw (n lo : Int) : Bool := decide (lo ≤ n) && decide (n ≤ 1099511627776)
def may (t : Ten) : Bool := wordB t.name.data.toList && (wordB t.tok.data.toList && (btw t.mem 0 && (btw t.st 1 && btw t.qu 1)))
/-- has x the name or the token of t? -/
def like (t x : Ten) : Bool := decide (x.name = t.name) || decide (x.tok = t.tok)
def again (l : List Ten) (t : Ten) : Bool := l.any (like t)
/-- the first one that may not be, behind those that may -/
def chkL (done : List Ten) : List Ten → Int × Int
  | [] => (-1, 0)
  | t :: r => if may t = false then ((done.length : Int), 1) else if again done t = true then ((done.length : Int), 8) else chkL (done ++ [t]) r
def check (l : List Ten) : Int × Int := if l.length = 0 then (-1, 6) else if 16 < l.length then (16, 2) else chkL [] l
theorem chkL_end (l : List Ten) (k : Nat) (h : l.length ≤ k) : chkL (l.take k) (l.drop k) = (-1, 0) := by rw [List.drop_eq_nil_of_le h]; rfl
theorem chkL_at (l : List Ten) (k : Nat) (h : k < l.length) : chkL (l.take k) (l.drop k) = if may l[k] = false then ((k : Int), 1) else if again (l.take k) l[k] = true then ((k : Int), 8) else chkL (l.take (k + 1)) (l.drop (k + 1)) := by
  rw [List.drop_eq_getElem_cons h, chkL, List.take_add_one, List.getElem?_eq_getElem h]
  have e : (l.take k).length = k := by rw [List.length_take]; omega
  rw [e]
  rfl
theorem again_at (l : List Ten) (t : Ten) (k : Nat) (h : k < l.length) : again (l.drop k) t = (like t l[k] || again (l.drop (k + 1)) t) := by
  rw [List.drop_eq_getElem_cons h]; rfl
theorem again_end (l : List Ten) (t : Ten) (k : Nat) (h : l.length ≤ k) : again (l.drop k) t = false := by rw [List.drop_eq_nil_of_le h]; rfl
/-- the first place of a token; -1: there is none -/
def findL (key : ByteArray) : List Ten → Nat → Int
  | [], _ => -1
  | t :: r, k => if t.tok = key then (k : Int) else findL key r (k + 1)
def find (l : List Ten) (key : ByteArray) : Int := findL key l 0
theorem findL_end (key : ByteArray) (l : List Ten) (k : Nat) (h : l.length ≤ k) : findL key (l.drop k) k = -1 := by rw [List.drop_eq_nil_of_le h]; rfl
theorem findL_at (key : ByteArray) (l : List Ten) (k : Nat) (h : k < l.length) : findL key (l.drop k) k = if l[k].tok = key then (k : Int) else findL key (l.drop (k + 1)) (k + 1) := by
  rw [List.drop_eq_getElem_cons h, findL]
theorem findL_bd (key : ByteArray) : ∀ (l : List Ten) (k : Nat), findL key l k = -1 ∨ 0 ≤ findL key l k
  | [], _ => .inl rfl
  | t :: r, k => by
    unfold findL
    split
    · exact .inr (Int.natCast_nonneg k)
    · exact findL_bd key r (k + 1)
/-- a tenant's line, a table's text -/
def lineL (t : Ten) : List UInt8 := t.name.data.toList ++ 58 :: (t.tok.data.toList ++ 58 :: (St.dg t.mem ++ 58 :: (St.dg t.st ++ 58 :: St.dg t.qu)))
def textL (l : List Ten) : List UInt8 := l.flatMap fun t => lineL t ++ [10]
/-- a line's tenant -/
def parseLine (x : List UInt8) : Option Ten :=
  match St.splitC 58 x with
  | [a, b, c, d, e] => if may ⟨Fr.bs a, Fr.bs b, St.number c, St.number d, St.number e⟩ = true ∧ lineL ⟨Fr.bs a, Fr.bs b, St.number c, St.number d, St.number e⟩ = x then some ⟨Fr.bs a, Fr.bs b, St.number c, St.number d, St.number e⟩ else none
  | _ => none
theorem parseLine_sound (x : List UInt8) (t : Ten) (h : parseLine x = some t) : may t = true ∧ lineL t = x := by
  unfold parseLine at h
  split at h
  · split at h
    · rename_i h2
      cases h
      exact h2
    · cases h
  · cases h
/-- line behind line -/
def go : List (List UInt8) → List Ten → Nat → List Ten × Int × Int
  | [], out, _ => (out, 0, 0)
  | [x], out, i => if x = [] then (out, 0, 0) else ([], (i : Int) + 1, 4)
  | x :: y :: r, out, i => match parseLine x with
    | none => ([], (i : Int) + 1, 4)
    | some t => if again out t = true then ([], (i : Int) + 1, 8) else if out.length = 16 then ([], (i : Int) + 1, 2) else go (y :: r) (out ++ [t]) (i + 1)
def parse (s : List UInt8) : List Ten × Int × Int := if s = [] then ([], 0, 6) else go (St.splitC 10 s) [] 0
theorem may_ok {t : Ten} (h : may t = true) : wordB t.name.data.toList = true ∧ wordB t.tok.data.toList = true ∧ St.okI t.mem = true ∧ St.okI t.st = true ∧ St.okI t.qu = true ∧ 1 ≤ t.st ∧ 1 ≤ t.qu := by
  unfold may btw at h
  simp only [Bool.and_eq_true, decide_eq_true_eq] at h
  obtain ⟨h1, h2, h3, h4, h5⟩ := h
  exact ⟨h1, h2, decide_eq_true (by omega), decide_eq_true (by omega), decide_eq_true (by omega), h4.1, h5.1⟩
/-- a byte of 128 and on begins no rune below 128 -/
theorem d_hi (l : List UInt8) (h : 128 ≤ Tk.at_ l 0) : 128 ≤ (Tk.d l).1 := by
  rcases Tk.d_cases l with h1 | ⟨h1, _⟩ | ⟨z, _, _, _, _, hz, hd⟩ | ⟨z, _, _, _, _, _, hz, hd⟩ | ⟨z, _, _, _, _, _, _, hz, hd⟩
  · rw [h1]; decide
  · omega
  · rw [hd]; exact hz
  · rw [hd]; show 128 ≤ z; omega
  · rw [hd]; show 128 ≤ z; omega
theorem take_at (l : List UInt8) (n : Nat) (b : UInt8) (h : b ∈ l.take n) : ∃ i, i < n ∧ i < l.length ∧ b.toNat = Tk.at_ l i := by
  obtain ⟨i, hi, rfl⟩ := List.getElem_of_mem h
  rw [List.length_take] at hi
  exact ⟨i, by omega, by omega, by rw [Tk.at_get l i (by omega), List.getElem_take]⟩
/-- no rune of a word is a line's end or a colon, so no byte is -/
theorem runes_no : ∀ (m : Nat) (l : List UInt8), l.length ≤ m → allMay (Tk.runes l) = true → ∀ b ∈ l, b.toNat ≠ 10 ∧ b.toNat ≠ 58
  | 0, l, h, _, b, hb => by
    rw [List.length_eq_zero_iff.1 (by omega : l.length = 0)] at hb
    cases hb
  | m + 1, l, h, ha, b, hb => by
    have hpos : 0 < l.length := List.length_pos_of_mem hb
    rw [Tk.runes_cons l hpos] at ha
    unfold allMay at ha
    rw [List.all_cons, Bool.and_eq_true] at ha
    obtain ⟨h1, h2⟩ := ha
    have hbd := Tk.d_bd l hpos
    have hsp : b ∈ l.take (Tk.d l).2 ∨ b ∈ l.drop (Tk.d l).2 := by
      rw [← List.take_append_drop (Tk.d l).2 l] at hb
      exact List.mem_append.1 hb
    rcases hsp with hsp | hsp
    · obtain ⟨i, hi, hil, e⟩ := take_at l _ b hsp
      rw [e]
      have hm : 32 < Tk.num (Tk.d l) ∧ Tk.num (Tk.d l) ≠ 58 := by
        unfold mayB at h1
        have := of_decide_eq_true h1
        exact ⟨this.1, this.2.2.1⟩
      rcases Tk.d_cases l with hd | ⟨hlo, hd⟩ | ⟨z, q0, _, q1, _, hz, hd⟩ | ⟨z, q0, _, q1, q2, _, hz, hd⟩ | ⟨z, q0, _, q1, q2, q3, _, hz, hd⟩
      · rw [hd] at hm
        exact absurd hm.1 (by decide)
      · rw [hd] at hm hi
        have hi0 : i = 0 := by simp only at hi; omega
        subst hi0
        rw [Tk.num_of _ _ (.inl (by omega))] at hm
        omega
      · rw [hd] at hi
        simp only at hi
        have : i = 0 ∨ i = 1 := by omega
        rcases this with rfl | rfl <;> omega
      · rw [hd] at hi
        simp only at hi
        have : i = 0 ∨ i = 1 ∨ i = 2 := by omega
        rcases this with rfl | rfl | rfl <;> omega
      · rw [hd] at hi
        simp only at hi
        have : i = 0 ∨ i = 1 ∨ i = 2 ∨ i = 3 := by omega
        rcases this with rfl | rfl | rfl | rfl <;> omega
    · exact runes_no m _ (by rw [List.length_drop]; omega) h2 b hsp
theorem word_no (l : List UInt8) (h : wordB l = true) : ∀ b ∈ l, b ≠ 10 ∧ b ≠ 58 := by
  unfold wordB at h
  rw [Bool.and_eq_true] at h
  intro b hb
  have := runes_no _ l (Nat.le_refl _) h.1 b hb
  exact ⟨fun e => this.1 (by rw [e]; rfl), fun e => this.2 (by rw [e]; rfl)⟩
theorem dg_no (x : Int) : ∀ b ∈ St.dg x, b ≠ 10 ∧ b ≠ 58 := by
  intro b hb
  have h := St.digs_all _ b hb
  have h2 : 48 ≤ b.toNat ∧ b.toNat ≤ 57 := of_decide_eq_true h
  exact ⟨fun e => by rw [e] at h2; exact absurd h2.1 (by decide), fun e => by rw [e] at h2; exact absurd h2.2 (by decide)⟩
theorem split_line (t : Ten) (h : may t = true) : St.splitC 58 (lineL t) = [t.name.data.toList, t.tok.data.toList, St.dg t.mem, St.dg t.st, St.dg t.qu] := by
  obtain ⟨h1, h2, -⟩ := may_ok h
  unfold lineL
  rw [St.splitC_piece _ _ _ (fun b hb => (word_no _ h1 b hb).2), St.splitC_piece _ _ _ (fun b hb => (word_no _ h2 b hb).2), St.splitC_piece _ _ _ (fun b hb => (dg_no _ b hb).2), St.splitC_piece _ _ _ (fun b hb => (dg_no _ b hb).2), St.splitC_last _ _ (fun b hb => (dg_no _ b hb).2)]
theorem parseLine_line (t : Ten) (h : may t = true) : parseLine (lineL t) = some t := by
  obtain ⟨_, _, h3, h4, h5, _⟩ := may_ok h
  obtain ⟨a, b, c, d, e⟩ := t
  unfold parseLine
  rw [split_line _ h]
  simp only [Fr.bs_list, St.number_dg _ h3, St.number_dg _ h4, St.number_dg _ h5]
  rw [if_pos ⟨h, trivial⟩]
theorem line_no (t : Ten) (h : may t = true) : ∀ b ∈ lineL t, b ≠ 10 := by
  obtain ⟨h1, h2, -⟩ := may_ok h
  intro b hb
  unfold lineL at hb
  simp only [List.mem_append, List.mem_cons] at hb
  have c : (58 : UInt8) ≠ 10 := by decide
  rcases hb with hb | rfl | hb | rfl | hb | rfl | hb | rfl | hb
  · exact (word_no _ h1 b hb).1
  · exact c
  · exact (word_no _ h2 b hb).1
  · exact c
  · exact (dg_no _ b hb).1
  · exact c
  · exact (dg_no _ b hb).1
  · exact c
  · exact (dg_no _ b hb).1
theorem split_text : ∀ l : List Ten, (∀ t ∈ l, may t = true) → St.splitC 10 (textL l) = l.map lineL ++ [[]]
  | [], _ => rfl
  | t :: r, h => by
    have e : textL (t :: r) = lineL t ++ 10 :: textL r := by
      show (lineL t ++ [10]) ++ textL r = _
      rw [List.append_assoc]; rfl
    rw [e, St.splitC_piece _ _ _ (line_no t (h t (List.mem_cons_self ..))), split_text r (fun x hx => h x (List.mem_cons_of_mem _ hx))]
    rfl
theorem chk_may : ∀ (r done : List Ten), chkL done r = (-1, 0) → ∀ t ∈ r, may t = true
  | [], _, _, t, ht => nomatch ht
  | x :: r, done, h, t, ht => by
    unfold chkL at h
    by_cases hm : may x = false
    · rw [if_pos hm] at h; exact absurd (congrArg Prod.snd h) (show ¬ (1 : Int) = 0 by decide)
    · rw [if_neg hm] at h
      by_cases ha : again done x = true
      · rw [if_pos ha] at h; exact absurd (congrArg Prod.snd h) (show ¬ (8 : Int) = 0 by decide)
      · rw [if_neg ha] at h
        rcases List.mem_cons.1 ht with rfl | ht
        · simpa using hm
        · exact chk_may r _ h t ht
theorem go_text : ∀ (r done : List Ten), chkL done r = (-1, 0) → done.length + r.length ≤ 16 → go (r.map lineL ++ [[]]) done done.length = (done ++ r, 0, 0)
  | [], done, _, _ => by
    show go [[]] done done.length = _
    rw [go, if_pos rfl, List.append_nil]
  | t :: r, done, h, hl => by
    have hm := chk_may (t :: r) done h t (List.mem_cons_self ..)
    unfold chkL at h
    rw [if_neg (by rw [hm]; decide)] at h
    by_cases ha : again done t = true
    · rw [if_pos ha] at h; exact absurd (congrArg Prod.snd h) (show ¬ (8 : Int) = 0 by decide)
    · rw [if_neg ha] at h
      rw [List.length_cons] at hl
      obtain ⟨y, q, hy⟩ : ∃ y q, r.map lineL ++ [[]] = y :: q := by
        cases hq : r.map lineL ++ [[]] with
        | nil => exact absurd hq (List.append_ne_nil_of_right_ne_nil _ (List.cons_ne_nil _ _))
        | cons y q => exact ⟨y, q, rfl⟩
      have ih := go_text r (done ++ [t]) h (by rw [List.length_append]; simp only [List.length_cons, List.length_nil]; omega)
      rw [hy, List.length_append, List.append_assoc] at ih
      show go (lineL t :: (r.map lineL ++ [[]])) done done.length = _
      rw [hy, go, parseLine_line t hm]
      simp only
      rw [if_neg ha, if_neg (by omega)]
      exact ih
theorem check_ok (l : List Ten) (h : (check l).2 = 0) : 0 < l.length ∧ l.length ≤ 16 ∧ chkL [] l = (-1, 0) := by
  unfold check at h
  by_cases h0 : l.length = 0
  · rw [if_pos h0] at h; exact absurd h (show ¬ (6 : Int) = 0 by decide)
  · rw [if_neg h0] at h
    by_cases h1 : 16 < l.length
    · rw [if_pos h1] at h; exact absurd h (show ¬ (2 : Int) = 0 by decide)
    · rw [if_neg h1] at h
      refine ⟨by omega, by omega, ?_⟩
      have : ∀ (r done : List Ten), (chkL done r).2 = 0 → chkL done r = (-1, 0) := by
        intro r
        induction r with
        | nil => intro done _; rfl
        | cons x r ih =>
          intro done h
          unfold chkL at h ⊢
          by_cases c1 : may x = false
          · rw [if_pos c1] at h; exact absurd h (show ¬ (1 : Int) = 0 by decide)
          · rw [if_neg c1] at h ⊢
            by_cases c2 : again done x = true
            · rw [if_pos c2] at h; exact absurd h (show ¬ (8 : Int) = 0 by decide)
            · rw [if_neg c2] at h ⊢
              exact ih _ h
      exact this l [] h
theorem parse_text (l : List Ten) (h : (check l).2 = 0) : parse (textL l) = (l, 0, 0) := by
  obtain ⟨h0, h16, hc⟩ := check_ok l h
  have hne : textL l ≠ [] := by
    cases l with
    | nil => exact absurd h0 (by decide)
    | cons t r =>
      show (lineL t ++ [10]) ++ _ ≠ []
      simp
  unfold parse
  rw [if_neg hne, split_text l (chk_may l [] hc)]
  exact go_text l [] hc (by simpa using h16)
/-- what was cut, joined again -/
def joinC (c : UInt8) : List (List UInt8) → List UInt8
  | [] => []
  | [x] => x
  | x :: y :: r => x ++ c :: joinC c (y :: r)
theorem joinC_cons (c b : UInt8) (x : List UInt8) (r : List (List UInt8)) : joinC c ((b :: x) :: r) = b :: joinC c (x :: r) := by
  cases r <;> rfl
theorem join_split (c : UInt8) : ∀ s : List UInt8, joinC c (St.splitC c s) = s
  | [] => rfl
  | b :: l => by
    have ih := join_split c l
    have hne := St.splitC_ne c l
    unfold St.splitC
    cases hq : St.splitC c l with
    | nil => exact absurd hq hne
    | cons y q =>
      rw [hq] at ih
      by_cases h : b = c
      · rw [if_pos h, h]
        show [] ++ c :: joinC c (y :: q) = _
        rw [ih]; rfl
      · rw [if_neg h]
        show joinC c ((b :: y) :: q) = _
        rw [joinC_cons, ih]
theorem join_lines : ∀ l : List Ten, joinC 10 (l.map lineL ++ [[]]) = textL l
  | [] => rfl
  | t :: r => by
    have ih := join_lines r
    obtain ⟨y, q, hy⟩ : ∃ y q, r.map lineL ++ [[]] = y :: q := by
      cases hq : r.map lineL ++ [[]] with
      | nil => exact absurd hq (List.append_ne_nil_of_right_ne_nil _ (List.cons_ne_nil _ _))
      | cons y q => exact ⟨y, q, rfl⟩
    show joinC 10 (lineL t :: (r.map lineL ++ [[]])) = _
    rw [hy] at ih ⊢
    show lineL t ++ 10 :: joinC 10 (y :: q) = _
    rw [ih]
    show _ = (lineL t ++ [10]) ++ textL r
    rw [List.append_assoc]; rfl
theorem go_sound : ∀ (ls : List (List UInt8)) (out : List Ten) (i : Nat), ls ≠ [] → out.length ≤ 16 → (go ls out i).2.2 = 0 →
    ∃ r, (go ls out i).1 = out ++ r ∧ chkL out r = (-1, 0) ∧ (out ++ r).length ≤ 16 ∧ ls = r.map lineL ++ [[]] ∧ (go ls out i).2.1 = 0
  | [], _, _, h, _, _ => absurd rfl h
  | [x], out, i, _, hl, h => by
    unfold go at h ⊢
    by_cases hx : x = []
    · rw [if_pos hx]
      exact ⟨[], by simp, rfl, by simpa using hl, by rw [hx]; rfl, rfl⟩
    · rw [if_neg hx] at h; exact absurd h (show ¬ (4 : Int) = 0 by decide)
  | x :: y :: r, out, i, _, hl, h => by
    unfold go at h ⊢
    cases hp : parseLine x with
    | none => rw [hp] at h; exact absurd h (show ¬ (4 : Int) = 0 by decide)
    | some t =>
      rw [hp] at h
      simp only at h ⊢
      obtain ⟨hm, hx⟩ := parseLine_sound x t hp
      by_cases ha : again out t = true
      · rw [if_pos ha] at h; exact absurd h (show ¬ (8 : Int) = 0 by decide)
      · rw [if_neg ha] at h ⊢
        by_cases h16 : out.length = 16
        · rw [if_pos h16] at h; exact absurd h (show ¬ (2 : Int) = 0 by decide)
        · rw [if_neg h16] at h ⊢
          obtain ⟨q, e1, e2, e3, e4, e5⟩ := go_sound (y :: r) (out ++ [t]) (i + 1) (List.cons_ne_nil _ _) (by rw [List.length_append]; simp only [List.length_cons, List.length_nil]; omega) h
          refine ⟨t :: q, by rw [e1, List.append_assoc]; rfl, ?_, by rw [List.append_assoc] at e3; exact e3, by rw [e4, ← hx]; rfl, e5⟩
          unfold chkL
          rw [if_neg (by rw [hm]; decide), if_neg ha]
          exact e2
theorem parse_sound (s : List UInt8) (h : (parse s).2.2 = 0) : (check (parse s).1).2 = 0 ∧ textL (parse s).1 = s ∧ (parse s).2.1 = 0 := by
  unfold parse at h ⊢
  by_cases hs : s = []
  · rw [if_pos hs] at h; exact absurd h (show ¬ (6 : Int) = 0 by decide)
  · rw [if_neg hs] at h ⊢
    obtain ⟨r, e1, e2, e3, e4, e5⟩ := go_sound _ [] 0 (St.splitC_ne 10 s) (by simp) h
    rw [List.nil_append] at e1 e3
    have ht : textL r = s := by rw [← join_lines, ← e4, join_split]
    have h0 : r.length ≠ 0 := by
      intro h0
      rw [List.length_eq_zero_iff.1 h0] at ht
      exact hs ht.symm
    rw [e1]
    refine ⟨?_, ht, e5⟩
    unfold check
    rw [if_neg h0, if_neg (by omega), e2]
end Tn
end Go.Proofs.YtajalllecoclcaaDoor
