/- Slices of structs that came in: their rows of cells, and as lists of one's own. -/
import Derived.Test.YtajalllecoclcaaDoorRowS
import Derived.Deep.Slices
import Derived.Deep.Fields
import Derived.ChangeSame
namespace Go.Proofs.YtajalllecoclcaaDoor
open Go.RowKit Go.ChangeShapes Go.WideShapes Go.Deep

/-- what a field's cell is: a number of a kind, a string (true), a bool (false) -/
def FK := IntKind ⊕ Bool
def FK.i (k : IntKind) : FK := .inl k
def FK.s : FK := .inr true
def FK.b : FK := .inr false
def FK.fits (k : FK) (P : Program) (t : TypeId) : Prop := match k with
  | .inl k => P.underlying t = some (.int k)
  | .inr true => P.underlying t = some .string
  | .inr false => P.underlying t = some .bool
def FK.good (k : FK) (v : Value) : Prop := match k with
  | .inl k => ∃ n, v = .int k n ∧ (Lit.int k n).wf = true
  | .inr true => ∃ s, v = .string s ∧ s.size ≤ maxLen
  | .inr false => ∃ x, v = .bool x

section
variable {H : Type} {enc : TypeId × Value → H} {P : Program} {w : World} {base : Nat} {spare : Nat → Bool} {held : Bool}
theorem fk_good {t : TypeId} {k : FK} {n : Nat} {v : Value} {y : DataW H × List MemPlace} (hk : k.fits P t) (h : DataW.trod enc P w base spare held n t [v] = some y) : k.good v := by
  match k, hk with
  | .inl k, hk =>
    obtain ⟨a, e, _, wf⟩ := DataW.trod_int hk h
    exact ⟨a, by simpa using e, wf⟩
  | .inr true, hk =>
    obtain ⟨a, e, _, wf⟩ := DataW.trod_string hk h
    exact ⟨a, by simpa using e, wf⟩
  | .inr false, hk =>
    obtain ⟨a, e, _⟩ := DataW.trod_bool hk h
    exact ⟨a, by simpa using e⟩

theorem rowS_in {t e : TypeId} {fs : Array Field} {a : Option Addr} {len cap : Nat} {x : DataW H × List MemPlace} (ks : List FK) (ht : P.underlying t = some (.slice e)) (he : P.underlying e = some (.struct fs))
    (hone : oneCellFields P fs = true) (hC : P.cellsOf e = fs.size) (hk : ∀ (j : Nat) (k : FK), ks[j]? = some k → ∃ f : Field, fs[j]? = some f ∧ k.fits P f.type) (hpos : 0 < fs.size)
    {fuel : Nat} (h : DataW.trod enc P w base spare held fuel t (Value.slice a len cap).cells.toList = some x) :
    ∃ vs : List Value, RowS w fs.size a len cap vs ∧ ∀ i, i < len → ∀ (j : Nat) (k : FK), ks[j]? = some k → k.good (vs.getD (i * fs.size + j) undef) := by
  rcases open_slice ht h with ⟨hcs, _⟩ | ⟨y, l, c, m, n, D, Pl, hcs, hb, hl, hm, hmm, hx, hi⟩
  · simp [Value.cells] at hcs
    obtain ⟨rfl, rfl, rfl⟩ := hcs
    exact ⟨[], ⟨Nat.le_refl _, by unfold maxLen; omega, by simp, (fun _ => ⟨rfl, rfl⟩), (fun y hy => nomatch hy)⟩, fun i hi => absurd hi (by omega)⟩
  · simp [Value.cells] at hcs
    obtain ⟨rfl, rfl, rfl⟩ := hcs
    have hlm : len ≤ m := by rw [hmm]; split <;> omega
    have hall : ∀ i, i < len → ∃ cs : List Value, cs.length = fs.size ∧ (∀ j, j < fs.size → w.cell? ((y.add (i * fs.size)).add j) = cs[j]?) ∧ ∀ (j : Nat) (k : FK), ks[j]? = some k → k.good (cs.getD j undef) := fun i hlt => by
      obtain ⟨cs', hc, ht'⟩ := hi i (by omega)
      rw [hC] at hc
      obtain ⟨ys, n', hn', hy, hlen, hyl, hf⟩ := DataW.trod_struct he ht'
      obtain ⟨_, hcl, hat⟩ := World.cells?_some hc
      refine ⟨cs', by omega, fun j hj => hat j hj, fun j k hjk => ?_⟩
      obtain ⟨f, hjf, hfit⟩ := hk j k hjk
      obtain ⟨ho, hkk⟩ := hone_of hone j f hjf
      have hjl : j < fs.size := (Array.getElem?_eq_some_iff.1 hjf).1
      have h1 := hf j f hjf
      rw [ho, hkk] at h1
      have hone' : (cs'.drop j).take 1 = [cs'[j]'(by omega)] := by
        rw [List.drop_eq_getElem_cons (by omega)]
        rfl
      rw [hone'] at h1
      have hys : ys[j]? = some (ys[j]'(by omega)) := List.getElem?_eq_getElem (by omega)
      have := fk_good hfit (h1.trans hys)
      rw [List.getD_eq_getElem?_getD, List.getElem?_eq_getElem (by omega)]
      exact this
    refine ⟨(List.range (len * fs.size)).map fun q => (w.cell? (y.add q)).getD undef, ⟨hl, hm, by simp, (fun h => nomatch h), fun y' hy' hl0 => ?_⟩, fun i hlt j k hjk => ?_⟩
    · cases hy'
      obtain ⟨cs, hcl, hcc, _⟩ := hall 0 hl0
      have h00 := hcc 0 hpos
      rw [Nat.zero_mul, show (y.add 0).add 0 = y.add 0 by simp [Addr.add], List.getElem?_eq_getElem (by omega)] at h00
      have h0 := add_spot h00
      refine ⟨y.block, y.off, h0, ?_, fun q hq => ?_⟩
      · have := Go.block_lt_of_cell h00
        simpa [Addr.add] using this
      · obtain ⟨cs2, hcl2, hcc2, _⟩ := hall (q / fs.size) (Nat.div_lt_of_lt_mul (by rw [Nat.mul_comm]; exact hq))
        have h2 := hcc2 (q % fs.size) (Nat.mod_lt _ hpos)
        have hq2 : q / fs.size * fs.size + q % fs.size = q := by rw [Nat.mul_comm]; exact Nat.div_add_mod _ _
        have hml := Nat.mod_lt q hpos
        rw [Go.Deep.add_add, hq2, List.getElem?_eq_getElem (by omega)] at h2
        have h3 : w.cell? ⟨y.block, y.off + q, none⟩ = w.cell? (y.add q) := by
          conv => rhs; rw [h0, add_plain]
        rw [h3, List.getD_eq_getElem?_getD, List.getElem?_map, List.getElem?_range hq]
        simp only [Option.map_some, Option.getD_some]
        rw [h2]; rfl
    · obtain ⟨cs, hcl, hcc, hg⟩ := hall i hlt
      have hjs : j < fs.size := by
        obtain ⟨f, hjf, _⟩ := hk j k hjk
        exact (Array.getElem?_eq_some_iff.1 hjf).1
      have h2 := hcc j hjs
      rw [Go.Deep.add_add] at h2
      have hq : i * fs.size + j < len * fs.size := by
        have : (i + 1) * fs.size ≤ len * fs.size := Nat.mul_le_mul_right _ hlt
        rw [Nat.succ_mul] at this; omega
      have := hg j k hjk
      rw [List.getD_eq_getElem?_getD] at this ⊢
      rw [List.getElem?_map, List.getElem?_range hq]
      simp only [Option.map_some, Option.getD_some]
      rw [h2]; exact this
end

/-- element i's cells -/
theorem flat_get {α : Type} (cells : α → List Value) (k : Nat) (hk : ∀ x, (cells x).length = k) : ∀ (l : List α) (i j : Nat) (h : i < l.length), j < k → (l.flatMap cells).getD (i * k + j) undef = (cells l[i]).getD j undef
  | x :: l, 0, j, _, hj => by
    simp only [List.flatMap_cons, Nat.zero_mul, Nat.zero_add, List.getElem_cons_zero, List.getD_eq_getElem?_getD]
    rw [List.getElem?_append_left (by rw [hk]; exact hj)]
  | x :: l, i + 1, j, h, hj => by
    have := flat_get cells k hk l i j (by simpa using h) hj
    simp only [List.flatMap_cons, List.getElem_cons_succ, List.getD_eq_getElem?_getD] at this ⊢
    rw [List.getElem?_append_right (by rw [hk, Nat.succ_mul]; omega), hk, ← this]
    congr 2; rw [Nat.succ_mul]; omega
theorem flat_len {α : Type} (cells : α → List Value) (k : Nat) (hk : ∀ x, (cells x).length = k) (l : List α) : (l.flatMap cells).length = l.length * k := by
  induction l with
  | nil => simp
  | cons x l ih => simp only [List.flatMap_cons, List.length_append, hk, ih, List.length_cons, Nat.succ_mul]; omega
theorem rows_of {α : Type} (cells : α → List Value) (good : α → Prop) (k : Nat) (hk : ∀ x, (cells x).length = k) : ∀ (len : Nat) (vs : List Value), vs.length = len * k →
    (∀ i, i < len → ∃ x, good x ∧ ∀ j, j < k → vs.getD (i * k + j) undef = (cells x).getD j undef) → ∃ l : List α, l.length = len ∧ vs = l.flatMap cells ∧ ∀ x ∈ l, good x
  | 0, vs, hl, _ => ⟨[], rfl, by simpa using hl, fun x hx => nomatch hx⟩
  | len + 1, vs, hl, h => by
    obtain ⟨x, hg, hx⟩ := h 0 (by omega)
    rw [Nat.succ_mul] at hl
    have h1 : vs.take k = cells x := by
      apply List.ext_getElem (by rw [List.length_take, hk]; omega)
      intro j h1 h2
      rw [hk] at h2
      have := hx j h2
      rw [Nat.zero_mul, Nat.zero_add, List.getD_eq_getElem?_getD, List.getD_eq_getElem?_getD, List.getElem?_eq_getElem (by omega), List.getElem?_eq_getElem (by rw [hk]; exact h2)] at this
      simpa using this
    obtain ⟨l, hll, hvl, hgl⟩ := rows_of cells good k hk len (vs.drop k) (by rw [List.length_drop]; omega) (fun i hi => by
      obtain ⟨y, hgy, hy⟩ := h (i + 1) (by omega)
      refine ⟨y, hgy, fun j hj => ?_⟩
      rw [← hy j hj, List.getD_eq_getElem?_getD, List.getD_eq_getElem?_getD, List.getElem?_drop]
      congr 2; rw [Nat.succ_mul]; omega)
    refine ⟨x :: l, by simp [hll], ?_, fun y hy => ?_⟩
    · rw [List.flatMap_cons, ← h1, ← hvl, List.take_append_drop]
    · rcases List.mem_cons.1 hy with rfl | hy
      · exact hg
      · exact hgl y hy
end Go.Proofs.YtajalllecoclcaaDoor
