/- Plain mathematics of packing and unpacking byte by byte. No program in sight. -/
import Derived.Test.YtaldcdgafljedaaRleMath
namespace Go.Proofs.Ytaldcdgafljedaa.Rl
open Go

/-- pieces one behind the other -/
def join (ps : List Pc) : List UInt8 := ps.flatMap (fun p => List.replicate p.n p.b)
theorem rowN_rep_app (b : UInt8) : ∀ (n m : Nat) (t : List UInt8), n ≤ m → (n = m ∨ t.head? ≠ some b) → rowN b m (List.replicate n b ++ t) = n
  | 0, 0, _, _, _ => rfl
  | 0, m + 1, [], _, _ => rfl
  | 0, m + 1, c :: t, _, h => by
    rcases h with h | h
    · omega
    · simp only [List.replicate_zero, List.nil_append]
      unfold rowN
      rw [if_neg (by simpa using h)]
  | n + 1, 0, _, h, _ => by omega
  | n + 1, m + 1, t, h, h2 => by
    rw [List.replicate_succ, List.cons_append]
    unfold rowN
    rw [if_pos rfl, rowN_rep_app b n m t (by omega) (h2.imp (by omega) id)]; omega
theorem apart_tail {p : Pc} {ps : List Pc} (h : Apart (p :: ps)) : Apart ps ∧ 1 ≤ p.n ∧ p.n ≤ 255 := by
  cases ps with
  | nil => exact ⟨trivial, h⟩
  | cons q l => exact ⟨h.2.2.2, h.1, h.2.1⟩
theorem join_head {p : Pc} {ps : List Pc} (h : Apart (p :: ps)) : (join (p :: ps)).head? = some p.b := by
  have := (apart_tail h).2
  obtain ⟨k, hk⟩ : ∃ k, p.n = k + 1 := ⟨p.n - 1, by omega⟩
  unfold join
  rw [List.flatMap_cons, hk, List.replicate_succ]; rfl
/-- a text has its pieces alone -/
theorem pcs_unique : ∀ (ps : List Pc), Apart ps → pcs (join ps) = ps
  | [], _ => rfl
  | p :: ps, h => by
    obtain ⟨ht, h1, h2⟩ := apart_tail h
    obtain ⟨b, n⟩ := p
    simp only at h1 h2
    obtain ⟨k, rfl⟩ : ∃ k, n = k + 1 := ⟨n - 1, by omega⟩
    have hj : join (⟨b, k + 1⟩ :: ps) = b :: (List.replicate k b ++ join ps) := by
      unfold join; rw [List.flatMap_cons, List.replicate_succ]; rfl
    have hrl : rl (b :: (List.replicate k b ++ join ps)) = k + 1 := by
      show rowN b 255 _ = _
      rw [← List.cons_append, ← List.replicate_succ]
      refine rowN_rep_app b (k + 1) 255 _ h2 ?_
      cases ps with
      | nil => exact .inr (by simp [join])
      | cons q l =>
        rcases h.2.2.1 with h | h
        · refine .inr ?_
          rw [join_head ht]
          simpa using Ne.symm h
        · exact .inl h
    rw [hj, pcs_cons, hrl]
    congr 1
    rw [← List.cons_append, ← List.replicate_succ, List.drop_append_of_le_length (by simp), List.drop_of_length_le (by simp), List.nil_append]
    exact pcs_unique ps ht
theorem apart_snoc : ∀ (ps : List Pc) (p : Pc), Apart ps → 1 ≤ p.n → p.n ≤ 255 → (∀ q, ps.getLast? = some q → q.b ≠ p.b ∨ q.n = 255) → Apart (ps ++ [p])
  | [], p, _, h1, h2, _ => ⟨h1, h2⟩
  | [a], p, h, h1, h2, hq => ⟨h.1, h.2, hq a rfl, h1, h2⟩
  | a :: b :: l, p, h, h1, h2, hq => ⟨h.1, h.2.1, h.2.2.1, apart_snoc (b :: l) p h.2.2.2 h1 h2 (fun q hq' => hq q (by rw [List.getLast?_cons_cons]; exact hq'))⟩
theorem apart_init : ∀ (ps : List Pc) (p : Pc), Apart (ps ++ [p]) → Apart ps ∧ 1 ≤ p.n ∧ p.n ≤ 255 ∧ ∀ q, ps.getLast? = some q → q.b ≠ p.b ∨ q.n = 255
  | [], p, h => ⟨trivial, h.1, h.2, fun q hq => nomatch hq⟩
  | [a], p, h => ⟨⟨h.1, h.2.1⟩, h.2.2.2.1, h.2.2.2.2, fun q hq => (Option.some.inj (show some a = some q from hq)) ▸ h.2.2.1⟩
  | a :: b :: l, p, h => by
    obtain ⟨i1, i2, i3, i4⟩ := apart_init (b :: l) p h.2.2.2
    exact ⟨⟨h.1, h.2.1, h.2.2.1, i1⟩, i2, i3, fun q hq => i4 q (by rw [List.getLast?_cons_cons] at hq; exact hq)⟩
theorem join_app (a b : List Pc) : join (a ++ b) = join a ++ join b := by unfold join; rw [List.flatMap_append]
theorem join_pcs (l : List UInt8) : join (pcs l) = l := pcs_join l

/-- the row that is not sure, and the pieces that are -/
def row0 : Pc := ⟨0, 0⟩
def rowOf (l : List UInt8) : Pc := match (pcs l).getLast? with
  | none => row0
  | some p => if p.n < 255 then p else row0
def sureOf (l : List UInt8) : List Pc := match (pcs l).getLast? with
  | none => []
  | some p => if p.n < 255 then (pcs l).dropLast else pcs l
/-- what stands in the pieces -/
theorem sure_row (l : List UInt8) : (rowOf l = row0 ∧ sureOf l = pcs l ∧ (∀ q, (pcs l).getLast? = some q → q.n = 255)) ∨ (pcs l = sureOf l ++ [rowOf l] ∧ 1 ≤ (rowOf l).n ∧ (rowOf l).n < 255) := by
  have ha := pcs_apart l
  unfold rowOf sureOf
  cases h : (pcs l).getLast? with
  | none =>
    have : pcs l = [] := List.getLast?_eq_none_iff.1 h
    exact .inl ⟨rfl, this.symm, fun q hq => nomatch hq⟩
  | some p =>
    have hd : pcs l = (pcs l).dropLast ++ [p] := by
      have hne : pcs l ≠ [] := fun e => by rw [e] at h; cases h
      rw [List.getLast?_eq_some_getLast hne] at h
      have := List.dropLast_concat_getLast hne
      rw [Option.some.inj h] at this
      exact this.symm
    rw [hd] at ha
    obtain ⟨_, i2, i3, _⟩ := apart_init _ _ ha
    simp only
    by_cases hp : p.n < 255
    · rw [if_pos hp, if_pos hp]
      exact .inr ⟨hd, i2, hp⟩
    · rw [if_neg hp, if_neg hp]
      refine .inl ⟨rfl, rfl, fun q hq => ?_⟩
      obtain rfl : p = q := Option.some.inj hq
      omega
/-- one byte more -/
def pput (r : Pc) (b : UInt8) : List Pc × Pc :=
  if 0 < r.n ∧ r.b ≠ b then ([r], ⟨b, 1⟩) else if r.n + 1 = 255 then ([⟨b, 255⟩], row0) else ([], ⟨b, r.n + 1⟩)
theorem pcs_is {l : List UInt8} (ps : List Pc) (ha : Apart ps) (hj : join ps = l) : pcs l = ps := by rw [← hj]; exact pcs_unique ps ha
theorem rowOf_last (l : List UInt8) (ps : List Pc) (p : Pc) (h : pcs l = ps ++ [p]) (hp : p.n < 255) : rowOf l = p ∧ sureOf l = ps := by
  unfold rowOf sureOf
  rw [h, List.getLast?_append]
  simp [hp]
theorem rowOf_full (l : List UInt8) (ps : List Pc) (p : Pc) (h : pcs l = ps ++ [p]) (hp : p.n = 255) : rowOf l = row0 ∧ sureOf l = ps ++ [p] := by
  unfold rowOf sureOf
  rw [h, List.getLast?_append]
  simp [hp]
theorem put_row (l : List UInt8) (b : UInt8) : sureOf (l ++ [b]) = sureOf l ++ (pput (rowOf l) b).1 ∧ rowOf (l ++ [b]) = (pput (rowOf l) b).2 := by
  have ha := pcs_apart l
  have hj := join_pcs l
  rcases sure_row l with ⟨h1, h2, h3⟩ | ⟨h1, h2, h3⟩
  · have e : pcs (l ++ [b]) = pcs l ++ [⟨b, 1⟩] := pcs_is _ (apart_snoc _ _ ha (show 1 ≤ 1 by decide) (show 1 ≤ 255 by decide) (fun q hq => .inr (h3 q hq))) (by rw [join_app, hj]; rfl)
    obtain ⟨r1, r2⟩ := rowOf_last _ _ _ e (show 1 < 255 by decide)
    rw [r1, r2, h1, h2]
    unfold pput row0
    rw [if_neg (fun h => absurd h.1 (by decide)), if_neg (by decide)]
    exact ⟨(List.append_nil _).symm, rfl⟩
  · generalize hr : rowOf l = r at *
    generalize hs : sureOf l = s at *
    rw [h1] at ha
    obtain ⟨i1, i2, i3, i4⟩ := apart_init _ _ ha
    unfold pput
    by_cases hb : r.b = b
    · rw [if_neg (fun h => h.2 hb)]
      have e : pcs (l ++ [b]) = s ++ [⟨b, r.n + 1⟩] := pcs_is _ (apart_snoc _ _ i1 (by simp) (show r.n + 1 ≤ 255 by omega) (fun q hq => by rw [← hb]; exact i4 q hq)) (by
        rw [← hj, h1, join_app, join_app, List.append_assoc]
        congr 1
        unfold join
        simp [List.replicate_succ', hb])
      by_cases hf : r.n + 1 = 255
      · rw [if_pos hf]
        obtain ⟨r1, r2⟩ := rowOf_full _ _ _ e hf
        rw [r1, r2, hf]; exact ⟨rfl, rfl⟩
      · rw [if_neg hf]
        obtain ⟨r1, r2⟩ := rowOf_last _ _ _ e (show r.n + 1 < 255 by omega)
        rw [r1, r2]; exact ⟨(List.append_nil _).symm, rfl⟩
    · rw [if_pos ⟨by omega, hb⟩]
      have e : pcs (l ++ [b]) = (s ++ [r]) ++ [⟨b, 1⟩] := pcs_is _ (apart_snoc _ _ ha (show 1 ≤ 1 by decide) (show 1 ≤ 255 by decide) (fun q hq => by
        rw [List.getLast?_append] at hq
        obtain rfl : r = q := by simpa using hq
        exact .inl hb)) (by rw [join_app, ← h1, hj]; rfl)
      obtain ⟨r1, r2⟩ := rowOf_last _ _ _ e (show 1 < 255 by decide)
      rw [r1, r2]; exact ⟨rfl, rfl⟩
/-- the bytes that are told, so far -/
def sureB (l : List UInt8) : List UInt8 := (sureOf l).flatMap text
def putB (r : Pc) (b : UInt8) : List UInt8 := (pput r b).1.flatMap text
def endB (r : Pc) : List UInt8 := if r.n = 0 then [] else text r
theorem sureB_put (l : List UInt8) (b : UInt8) : sureB (l ++ [b]) = sureB l ++ putB (rowOf l) b := by
  unfold sureB putB; rw [(put_row l b).1, List.flatMap_append]
theorem sureB_end (l : List UInt8) : sureB l ++ endB (rowOf l) = enc l := by
  unfold sureB endB enc
  rcases sure_row l with ⟨h1, h2, _⟩ | ⟨h1, h2, _⟩
  · rw [h1, h2, if_pos (show row0.n = 0 from rfl), List.append_nil]
  · rw [if_neg (by omega), h1, List.flatMap_append]; simp
theorem rowOf_nil : rowOf [] = row0 := rfl
theorem sureB_nil : sureB [] = [] := rfl
theorem rowOf_bd (l : List UInt8) : (rowOf l).n < 255 ∧ ((rowOf l).n = 0 → rowOf l = row0) := by
  rcases sure_row l with ⟨h1, _, _⟩ | ⟨_, h2, h3⟩
  · rw [h1]; exact ⟨by decide, fun _ => rfl⟩
  · exact ⟨h3, fun h => by omega⟩

/-- unpacking: one byte more -/
structure Un where
  r : Pc
  out : List UInt8
def ustep (u : Un) (c : UInt8) : Option Un :=
  if u.r.n = 4 then (if 251 < c.toNat then none else some ⟨row0, u.out ++ List.replicate c.toNat u.r.b⟩)
  else if 0 < u.r.n ∧ u.r.b = c then some ⟨⟨c, u.r.n + 1⟩, u.out ++ [c]⟩ else some ⟨⟨c, 1⟩, u.out ++ [c]⟩
def usteps : Un → List UInt8 → Option Un
  | u, [] => some u
  | u, c :: l => (ustep u c).bind (fun v => usteps v l)
theorem usteps_cons (u : Un) (c : UInt8) (l : List UInt8) : usteps u (c :: l) = (ustep u c).bind (fun v => usteps v l) := rfl
def ufin : Option Un → List UInt8 × Int
  | none => ([], 25)
  | some u => if u.r.n = 4 then ([], 24) else (u.out, 0)
theorem ufin_some (u : Un) : ufin (some u) = if u.r.n = 4 then ([], 24) else (u.out, 0) := rfl
theorem mach_steps : ∀ (l : List UInt8) (u : Un) (q : UInt8), (u.r.n = 0 ∨ u.r.b = q) → mach u.r.n q u.out l = ufin (usteps u l)
  | [], u, q, h => rfl
  | c :: l, u, q, h => by
    rw [mach_cons, usteps_cons]
    unfold ustep
    by_cases h4 : u.r.n = 4
    · have hq : u.r.b = q := h.resolve_left (by omega)
      rw [if_pos h4, if_pos h4]
      by_cases hc : 251 < c.toNat
      · rw [if_pos hc, if_pos hc]; rfl
      · rw [if_neg hc, if_neg hc, hq]
        exact mach_steps l ⟨row0, u.out ++ List.replicate c.toNat q⟩ c (.inl rfl)
    · rw [if_neg h4, if_neg h4]
      by_cases hb : 0 < u.r.n ∧ u.r.b = c
      · have hq : u.r.b = q := h.resolve_left (by omega)
        rw [if_pos hb, if_pos ⟨hb.1, by rw [← hq]; exact hb.2.symm⟩]
        exact mach_steps l ⟨⟨c, u.r.n + 1⟩, u.out ++ [c]⟩ c (.inr rfl)
      · rw [if_neg hb, if_neg (fun hh => hb ⟨hh.1, by rw [h.resolve_left (by omega)]; exact hh.2.symm⟩)]
        exact mach_steps l ⟨⟨c, 1⟩, u.out ++ [c]⟩ c (.inr rfl)
def un0 : Un := ⟨row0, []⟩
def ust (l : List UInt8) : Option Un := usteps un0 l
theorem dec_ust (l : List UInt8) : dec l = ufin (ust l) := mach_steps l un0 0 (.inl rfl)
theorem usteps_app : ∀ (l m : List UInt8) (u : Un), usteps u (l ++ m) = (usteps u l).bind (fun v => usteps v m)
  | [], m, u => rfl
  | c :: l, m, u => by
    rw [List.cons_append, usteps_cons, usteps_cons]
    cases ustep u c with
    | none => rfl
    | some v => exact usteps_app l m v
theorem ust_snoc (l : List UInt8) (c : UInt8) (u : Un) (h : ust l = some u) : ust (l ++ [c]) = ustep u c := by
  unfold ust at h ⊢
  rw [usteps_app, h]
  show (ustep u c).bind (fun v => some v) = ustep u c
  cases ustep u c <;> rfl
theorem ust_none (l m : List UInt8) (h : ust l = none) : ust (l ++ m) = none := by
  unfold ust at h ⊢
  rw [usteps_app, h]; rfl
/-- what bytes that may be stand for -/
def told (l : List UInt8) : List UInt8 := if (dec l).2 = 24 then (dec l.dropLast).1 ++ l.drop (l.length - 1) else (dec l).1
theorem told_ust (l : List UInt8) (u : Un) (h : ust l = some u) : told l = u.out := by
  unfold told
  rw [dec_ust, h, ufin_some]
  by_cases h4 : u.r.n = 4
  · rw [if_pos h4, if_pos rfl]
    cases hl : l.reverse with
    | nil =>
      obtain rfl : l = [] := by simpa using hl
      cases h
      exact absurd h4 (by decide)
    | cons c t =>
      obtain rfl : l = t.reverse ++ [c] := by
        have := congrArg List.reverse hl
        simpa using this
      rw [List.dropLast_concat]
      have hd : (t.reverse ++ [c]).drop ((t.reverse ++ [c]).length - 1) = [c] := by simp
      rw [hd, dec_ust]
      cases hv : ust t.reverse with
      | none => rw [ust_none _ _ hv] at h; cases h
      | some v =>
        rw [ust_snoc _ _ _ hv] at h
        unfold ustep at h
        split at h
        · split at h
          · cases h
          · cases h; exact absurd (show (0 : Nat) = 4 from h4) (by decide)
        · rename_i hn
          have hf : ufin (some v) = (v.out, 0) := by rw [ufin_some, if_neg hn]
          rw [hf]
          split at h <;> (cases h; rfl)
  · rw [if_neg h4, if_neg (show ¬ (0 : Int) = 24 by decide)]
/-- the states' rows -/
theorem ustep_row {u v : Un} {c : UInt8} (h : ustep u c = some v) (hu : u.r.n ≤ 4) : v.r.n ≤ 4 := by
  unfold ustep at h
  split at h
  · split at h
    · cases h
    · cases h; exact Nat.zero_le _
  · split at h
    · cases h; show u.r.n + 1 ≤ 4; omega
    · cases h; show 1 ≤ 4; decide
theorem usteps_row : ∀ (l : List UInt8) (u v : Un), usteps u l = some v → u.r.n ≤ 4 → v.r.n ≤ 4
  | [], u, v, h, hu => by cases h; exact hu
  | c :: l, u, v, h, hu => by
    rw [usteps_cons] at h
    cases hs : ustep u c with
    | none => rw [hs] at h; cases h
    | some x => rw [hs] at h; exact usteps_row l x v h (ustep_row hs hu)
theorem ust_row (l : List UInt8) (v : Un) (h : ust l = some v) : v.r.n ≤ 4 := usteps_row l un0 v h (Nat.zero_le _)
end Go.Proofs.Ytaldcdgafljedaa.Rl
