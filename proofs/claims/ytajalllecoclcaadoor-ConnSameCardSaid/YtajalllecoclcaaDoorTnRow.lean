/- Rows of tenants. -/
import Derived.Test.YtajalllecoclcaaDoorTnMath
import Derived.Test.YtajalllecoclcaaDoorRowIn
import Derived.Test.YtajalllecoclcaaDoorApp
namespace Go.Proofs.YtajalllecoclcaaDoor
open Go.RowKit Go.ChangeShapes Go.WideShapes Go.Deep
def tncells (t : Tn.Ten) : List Value := [.string t.name, .string t.tok, .int .i64 t.mem, .int .i64 t.st, .int .i64 t.qu]
theorem tncells_len (l : List Tn.Ten) : (l.flatMap tncells).length = l.length * 5 := by
  induction l with
  | nil => rfl
  | cons f fs ih => simp [tncells, ih]; omega
theorem tncells_one (l : List Tn.Ten) : ∀ y ∈ l.flatMap tncells, y.oneCell' = true := by
  intro y hy
  rw [List.mem_flatMap] at hy
  obtain ⟨x, _, hx⟩ := hy
  simp only [tncells, List.mem_cons, List.not_mem_nil, or_false] at hx
  rcases hx with rfl | rfl | rfl | rfl | rfl <;> rfl
/-- where a tenant of a row lies -/
theorem RowS.ten {w : World} {a : Option Addr} {len cap : Nat} {l : List Tn.Ten} (h : RowS w 5 a len cap (l.flatMap tncells)) (k : Nat) (hk : k < len) (hkl : k < l.length) :
    ∃ b off, a = some ⟨b, off, none⟩ ∧ b < w.heap.size ∧ w.cell? ⟨b, off + k * 5, none⟩ = some (.string l[k].name) ∧ w.cell? ⟨b, off + k * 5 + 1, none⟩ = some (.string l[k].tok) ∧
      w.cell? ⟨b, off + k * 5 + 2, none⟩ = some (.int .i64 l[k].mem) ∧ w.cell? ⟨b, off + k * 5 + 3, none⟩ = some (.int .i64 l[k].st) ∧ w.cell? ⟨b, off + k * 5 + 4, none⟩ = some (.int .i64 l[k].qu) := by
  obtain ⟨b, off, ha, hb, hc⟩ := h.at k hk
  have g : ∀ j, j < 5 → (l.flatMap tncells).getD (k * 5 + j) undef = (tncells l[k]).getD j undef := fun j hj => flat_get tncells 5 (fun _ => rfl) l k j hkl hj
  refine ⟨b, off, ha, hb, ?_, ?_, ?_, ?_, ?_⟩
  · have := hc 0 (by decide); rw [g 0 (by decide)] at this; exact this
  · have := hc 1 (by decide); rw [g 1 (by decide)] at this; rw [Nat.add_assoc]; exact this
  · have := hc 2 (by decide); rw [g 2 (by decide)] at this; rw [Nat.add_assoc]; exact this
  · have := hc 3 (by decide); rw [g 3 (by decide)] at this; rw [Nat.add_assoc]; exact this
  · have := hc 4 (by decide); rw [g 4 (by decide)] at this; rw [Nat.add_assoc]; exact this
/-- the first k of a row -/
theorem RowS.front {w : World} {a : Option Addr} {len cap : Nat} {l : List Tn.Ten} (h : RowS w 5 a len cap (l.flatMap tncells)) (hl : l.length = len) (k : Nat) (hk : k ≤ len) : RowS w 5 a k cap ((l.take k).flatMap tncells) := by
  have hle := h.le
  refine ⟨by omega, h.max, by rw [tncells_len, List.length_take]; congr 1; omega, fun ha => ?_, fun x hx h0 => ?_⟩
  · have := h.nil ha
    exact ⟨by omega, this.2⟩
  · obtain ⟨b, off, rfl, hb, hc⟩ := h.cells x hx (by omega)
    refine ⟨b, off, rfl, hb, fun i hi => ?_⟩
    have h1 : k * 5 ≤ len * 5 := Nat.mul_le_mul_right 5 hk
    rw [hc i (by omega)]
    have hsp : l.flatMap tncells = (l.take k).flatMap tncells ++ (l.drop k).flatMap tncells := by rw [← List.flatMap_append, List.take_append_drop]
    have hlen : ((l.take k).flatMap tncells).length = k * 5 := by rw [tncells_len, List.length_take]; congr 1; omega
    rw [hsp, List.getD_eq_getElem?_getD, List.getD_eq_getElem?_getD, List.getElem?_append_left (by omega)]
section
variable {H : Type} {enc : TypeId × Value → H} {w : World} {base : Nat} {spare : Nat → Bool} {held : Bool}
theorem ten_in {a : Option Addr} {len cap : Nat} {d : DataW H} {q : List MemPlace} (h0 : DataW.Trod enc Tryd.prog w base spare held 29 (Value.slice a len cap) d q) :
    ∃ l : List Tn.Ten, l.length = len ∧ RowS w 5 a len cap (l.flatMap tncells) ∧ ∀ x ∈ l, x.name.size ≤ maxLen ∧ x.tok.size ≤ maxLen := by
  obtain ⟨fuel, h⟩ := h0
  obtain ⟨vs, hr, hg⟩ := rowS_in [FK.s, FK.s, FK.i .i64, FK.i .i64, FK.i .i64] Tryd.underlying29 Tryd.underlying61 (by kernel_rfl) (by kernel_rfl) (fun j k hk => by
    match j, hk with
    | 0, hk => cases hk; exact ⟨_, rfl, Tryd.underlying9⟩
    | 1, hk => cases hk; exact ⟨_, rfl, Tryd.underlying9⟩
    | 2, hk => cases hk; exact ⟨_, rfl, Tryd.underlying3⟩
    | 3, hk => cases hk; exact ⟨_, rfl, Tryd.underlying3⟩
    | 4, hk => cases hk; exact ⟨_, rfl, Tryd.underlying3⟩) (by decide) h
  have hr' : RowS w 5 a len cap vs := hr
  obtain ⟨l, h1, h2, h3⟩ := rows_of tncells (fun x => x.name.size ≤ maxLen ∧ x.tok.size ≤ maxLen) 5 (fun _ => rfl) len vs hr'.length (fun i hi => by
    obtain ⟨c0, hc0, hz0⟩ := hg i hi 0 _ rfl
    obtain ⟨c1, hc1, hz1⟩ := hg i hi 1 _ rfl
    obtain ⟨c2, hc2, _⟩ := hg i hi 2 _ rfl
    obtain ⟨c3, hc3, _⟩ := hg i hi 3 _ rfl
    obtain ⟨c4, hc4, _⟩ := hg i hi 4 _ rfl
    refine ⟨⟨c0, c1, c2, c3, c4⟩, ⟨hz0, hz1⟩, fun j hj => ?_⟩
    match j, hj with
    | 0, _ => exact hc0
    | 1, _ => exact hc1
    | 2, _ => exact hc2
    | 3, _ => exact hc3
    | 4, _ => exact hc4)
  subst h2
  exact ⟨l, h1, hr', h3⟩
end
theorem info_ten : (Tryd.prog.info? 61).map (fun i => (i.zero, i.size, i.bytes)) = some (some (.agg #[.string ⟨#[]⟩, .string ⟨#[]⟩, .int .i64 0, .int .i64 0, .int .i64 0]), 5, 56) := by kernel_rfl
theorem tstr_ne {a b : ByteArray} (hab : a ≠ b) : (a.toList == b.toList) = false := by
  apply Bool.eq_false_iff.2
  intro e
  apply hab
  have e3 := beq_iff_eq.1 e
  rw [ByteArray.toList_eq, ByteArray.toList_eq] at e3
  exact Fr.bs_inj e3
theorem tstr_eq (a b : ByteArray) : (a.toList == b.toList) = decide (a = b) := by
  by_cases h : a = b
  · subst h; simp
  · rw [tstr_ne h]; simp [h]
end Go.Proofs.YtajalllecoclcaaDoor
