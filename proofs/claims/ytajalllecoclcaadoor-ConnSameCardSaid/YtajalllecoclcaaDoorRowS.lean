/- Rows whose elements have k cells each: read, kept, grown by append. -/
import Derived.Test.YtajalllecoclcaaDoorRowAt
namespace Go.Proofs.YtajalllecoclcaaDoor
open Go.RowKit Go.ChangeShapes Go.WideShapes

structure RowS (w : World) (k : Nat) (a : Option Addr) (len cap : Nat) (vs : List Value) : Prop where
  le : len ≤ cap
  max : cap ≤ maxLen
  length : vs.length = len * k
  nil : a = none → len = 0 ∧ cap = 0
  cells : ∀ x, a = some x → 0 < len → ∃ b off, x = ⟨b, off, none⟩ ∧ b < w.heap.size ∧ ∀ i, i < len * k → w.cell? ⟨b, off + i, none⟩ = some (vs.getD i undef)

/-- where element i lies, and its cells -/
theorem RowS.at {w : World} {k : Nat} {a : Option Addr} {len cap : Nat} {vs : List Value} (h : RowS w k a len cap vs) (i : Nat) (hi : i < len) :
    ∃ b off, a = some ⟨b, off, none⟩ ∧ b < w.heap.size ∧ ∀ j, j < k → w.cell? ⟨b, off + (i * k + j), none⟩ = some (vs.getD (i * k + j) undef) := by
  cases ha : a with
  | none => have := (h.nil ha).1; omega
  | some x =>
    obtain ⟨b, off, rfl, hb, hc⟩ := h.cells x ha (by omega)
    refine ⟨b, off, rfl, hb, fun j hj => hc _ ?_⟩
    have h1 : (i + 1) * k ≤ len * k := Nat.mul_le_mul_right k hi
    rw [Nat.succ_mul] at h1
    omega
theorem RowS.keep {w w' : World} {k : Nat} {a : Option Addr} {len cap : Nat} {vs : List Value} (h : RowS w k a len cap vs) (q : Below w.heap.size w w') : RowS w' k a len cap vs :=
  ⟨h.le, h.max, h.length, h.nil, fun x hx hl => by
    obtain ⟨b, off, rfl, hb, hc⟩ := h.cells x hx hl
    refine ⟨b, off, rfl, Nat.lt_of_lt_of_le hb q.size, fun i hi => ?_⟩
    rw [q.cell (p := ⟨b, off + i, none⟩) (by simpa using hb)]
    exact hc i hi⟩
theorem RowS.chg {w w' : World} {k : Nat} {a : Option Addr} {len cap : Nat} {vs : List Value} {S : List Nat} (h : RowS w k a len cap vs) (q : Chg S w w') (hS : ∀ x, a = some x → x.block ∉ S) : RowS w' k a len cap vs :=
  ⟨h.le, h.max, h.length, h.nil, fun x hx hl => by
    obtain ⟨b, off, rfl, hb, hc⟩ := h.cells x hx hl
    refine ⟨b, off, rfl, Nat.lt_of_lt_of_le hb q.size, fun i hi => ?_⟩
    rw [World.cell?_of_block (w := w) (w' := w') (a := ⟨b, off + i, none⟩) (q.block b hb (by simpa using hS _ hx))]
    exact hc i hi⟩

/-- 'out = append(out, x)', out nil or the call's own, x of k cells: the walk has just laid x in a block of its own. -/
theorem appendS {P : Program} {T E : TypeId} {z : Value} {k bytes : Nat} (hT : P.underlying T = some (.slice E)) (hinfo : (P.info? E).map (fun i => (i.zero, i.size, i.bytes)) = some (some z, k, bytes)) (hz : z.cells.size = k) (hk : 0 < k)
    {ops : Array Oper} {rest : List Oper} {o : Oper} {a : Act} {Q : Exit → Act → World → Prop} {w : World} (hgd : o.guard = none) (s x : Operand)
    (ho : o.op = .call { callee := .builtin .append, args := #[s, x], argTypes := #[T, T] })
    (B n : Nat) (v : Value) (xs : List Value) (hs : a.eval s = v) (hown : w.ownsRow B E k v n xs) (us : Array Value) (hul : us.size = k) (hu : ∀ u ∈ us.toList, u.oneCell' = true) (H : Nat) (hx : a.eval x = .slice (some ⟨H, 0, none⟩) 1 1) (hH : w.heap.size = H)
    (hn : n + 1 ≤ maxLen) (hbytes : (n + 1) * bytes ≤ 140737488355328) (hB : B ≤ w.heap.size)
    (h : ∀ g cap w', w'.ownsRow B E k (.slice (some ⟨g, 0, none⟩) (n + 1) cap) (n + 1) (xs ++ us.toList) → Chg v.ownBlock.toList w w' → Below B w w' → B ≤ g → g < w'.heap.size → (v.ownBlock = some g ∨ w.heap.size < g) →
      wpList P ops Q rest (a.put o.dst (.slice (some ⟨g, 0, none⟩) (n + 1) cap)) w') :
    wpList P ops Q (o :: rest) a (w.alloc (.cells us E)) := by
  subst hH
  obtain ⟨i0, hi, hz0, hz1, hz2⟩ := info_parts hinfo
  refine wpList_append_lies _ hgd s x T ho B E i0 z k bytes hT hi hz0 hz1 hz2 hz hk v n xs hs (hown.alloc _) ⟨w.heap.size, 0, none⟩ 1 1 us.toList hx (by rw [Nat.one_mul]; simpa using hul) ?_
    hu (by decide) hn hbytes (by simp; omega) (w.heap.size + 1) (by simp) ?_
  · intro j u hj
    rw [add_plain, Nat.zero_add, (Has.new w us E).cell j]
    simpa using hj
  intro g cap w' h1 h2 h3 h4
  have hc := (Chg.refl v.ownBlock.toList w).alloc (.cells us E)
  have hc2 := hc.trans (chg_grown h2)
  have hlt : ∀ k, v.ownBlock = some k → B ≤ k := fun k hk => (hown.lt k hk).1
  have hge : B ≤ g := by
    rcases h3 with h3 | h3
    · exact hlt g h3
    · omega
  exact h g cap w' h1 hc2 (hc2.below hB (fun k hk => by
    cases hv : v.ownBlock with
    | none => rw [hv] at hk; cases hk
    | some k' => rw [hv] at hk; simp at hk; subst hk; exact hlt k hv)) hge h4 (h3.imp id (by omega))

/-- what the call's own slice reads as -/
theorem rowS_owns {w : World} {B k : Nat} {E : TypeId} {v : Value} {n : Nat} {xs : List Value} (h : w.ownsRow B E k v n xs) : ∃ a cap, v = .slice a n cap ∧ RowS w k a n cap xs ∧ ∀ x, a = some x → B ≤ x.block ∧ x.block < w.heap.size := by
  obtain ⟨hl, h⟩ := h
  rcases h with ⟨rfl, rfl⟩ | ⟨g, cap, cur, rfl, hB, hg, hn, hm, hs, ht⟩
  · exact ⟨none, 0, rfl, ⟨Nat.le_refl _, by unfold maxLen; omega, by simpa using hl, (fun _ => ⟨rfl, rfl⟩), (fun y hy => nomatch hy)⟩, (fun y hy => nomatch hy)⟩
  · have hgl := (Array.getElem?_eq_some_iff.1 hg).1
    refine ⟨some ⟨g, 0, none⟩, cap, rfl, ⟨hn, hm, hl, (fun h => nomatch h), fun x hx _ => ?_⟩, fun x hx => ?_⟩
    · cases hx
      refine ⟨g, 0, rfl, hgl, fun i hi => ?_⟩
      rw [Nat.zero_add, cell_of_row _ _ _ _ _ _ hg, ← ht]
      have h1 : n * k ≤ cap * k := Nat.mul_le_mul_right k hn
      have hi2 : i < cur.size := by omega
      rw [Array.getElem?_eq_getElem hi2]
      have : (cur.toList.take (n * k)).getD i undef = cur[i] := by
        rw [List.getD_eq_getElem?_getD, List.getElem?_take, if_pos (by omega), List.getElem?_eq_getElem (by simpa using hi2)]
        simp
      rw [this]
    · cases hx
      exact ⟨hB, hgl⟩

theorem ownsRow_mono {w : World} {B C k : Nat} {E : TypeId} {v : Value} {n : Nat} {xs : List Value} (h : w.ownsRow B E k v n xs) (hB : C ≤ B) : w.ownsRow C E k v n xs := by
  obtain ⟨hl, h⟩ := h
  refine ⟨hl, ?_⟩
  rcases h with ⟨rfl, rfl⟩ | ⟨g, cap, cur, rfl, hB', hg, hn, hm, hs, ht⟩
  · exact .inl ⟨rfl, rfl⟩
  · exact .inr ⟨g, cap, cur, rfl, Nat.le_trans hB hB', hg, hn, hm, hs, ht⟩
theorem own_not {w : World} {B k : Nat} {E : TypeId} {v : Value} {n : Nat} {xs : List Value} (h : w.ownsRow B E k v n xs) {b : Nat} (hb : b < B ∨ w.heap.size ≤ b) : b ∉ v.ownBlock.toList := by
  intro hm
  have hv : v.ownBlock = some b := by simpa using hm
  have := h.lt b hv
  omega
/-- a cell outside is written: own rows stay -/
theorem own_set {w : World} {B k : Nat} {E : TypeId} {v : Value} {n : Nat} {xs : List Value} (h : w.ownsRow B E k v n xs) (p : Addr) (u : Value) (hp : p.block < B) : (w.setCell p u).ownsRow B E k v n xs :=
  ownsRow_chg h ((Chg.refl [p.block] w).setCell p u (.inl (by simp))) (fun g hg hm => by
    have := (h.lt g hg).1
    simp at hm; omega)

end Go.Proofs.YtajalllecoclcaaDoor
