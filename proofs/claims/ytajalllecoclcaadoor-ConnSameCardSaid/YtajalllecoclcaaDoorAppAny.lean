/- append of a whole row, whatever it is. -/
import Derived.Test.YtajalllecoclcaaDoorApp
namespace Go.Proofs.YtajalllecoclcaaDoor
open Go.RowKit Go.ChangeShapes Go.WideShapes

/-- a slice literal without elements is the call's own -/
theorem owns_empty (w : World) (B k : Nat) (E : TypeId) (hB : B ≤ w.heap.size) : (w.alloc (.cells #[] E)).ownsRow B E k (.slice (some ⟨w.heap.size, 0, none⟩) 0 0) 0 [] :=
  ⟨by simp, .inr ⟨w.heap.size, 0, #[], rfl, hB, heap_alloc_new w _, Nat.le_refl _, Nat.zero_le _, by simp, by simp⟩⟩
theorem run_append_row {P : Program} {w : World} (t ty e : TypeId) (i : TypeInfo) (z : Value) (size bytes : Nat) (ht : P.underlying t = some (.slice e)) (hi : P.info? e = some i) (hz : i.zero = some z)
    (hsize : i.size = size) (hby : i.bytes = bytes) (hzs : z.cells.size = size) (hsz : 0 < size) (B : Nat) (v : Value) (n m cap : Nat) (a : Option Addr) (xs ys : List Value) (hown : w.ownsRow B e size v n xs) (hu : RowS w size a m cap ys) (h1 : ∀ y ∈ ys, y.oneCell' = true)
    (h63 : n + m ≤ maxLen) (hbytes : (n + m) * bytes ≤ 140737488355328) (hbase : B ≤ w.heap.size) :
    ∃ v' w', (Builtin.append_ #[t, t] ty #[v, .slice a m cap]).run P w = .ok v' w' ∧ w'.ownsRow B e size v' (n + m) (xs ++ ys) ∧ w.grownBy w' v.ownBlock := by
  cases a with
  | none =>
    obtain ⟨rfl, rfl⟩ := hu.nil rfl
    have hx : ys = [] := List.eq_nil_of_length_eq_zero (by simpa using hu.length)
    subst hx
    obtain ⟨b, c, rfl, hr, -⟩ := rowS_owns hown
    have hle := hr.le
    refine ⟨_, w, ?_, by rw [List.append_nil]; exact hown, ⟨rfl, rfl, rfl, Nat.le_refl _, fun _ _ _ => rfl⟩⟩
    cases b with
    | none => simp [Builtin.append_, run_underlying ht, sizeOf, typeInfo, hi, Builtin.lenOf, Builtin.firstCells, hle]
    | some x => simp [Builtin.append_, run_underlying ht, sizeOf, typeInfo, hi, Builtin.lenOf, Builtin.firstCells, hle, storeCells]
  | some x =>
    have holds : ∀ j y, ys[j]? = some y → w.cell? (x.add j) = some y := by
      intro j y hj
      have hjl : j < ys.length := (List.getElem?_eq_some_iff.1 hj).1
      rw [hu.length] at hjl
      have hm : 0 < m := by
        apply Nat.pos_of_ne_zero
        rintro rfl
        rw [Nat.zero_mul] at hjl
        omega
      obtain ⟨b, off, rfl, hb, hc⟩ := hu.cells x rfl hm
      have := hc j hjl
      rw [List.getD_eq_getElem?_getD, hj] at this
      rw [add_plain]
      exact this
    obtain ⟨v', w', hr, h2, h3, _, _⟩ := run_append_own_at (P := P) w B t ty e i z size bytes ht hi hz hsize hby hzs hsz v n xs hown x m cap ys hu.length holds h1 h63 hbytes hbase
    exact ⟨v', w', hr, h2, h3⟩
/-- 'out = append(out, u...)', out nil or the call's own, u any row -/
theorem appendAny {P : Program} {T E : TypeId} {z : Value} {k bytes : Nat} (hT : P.underlying T = some (.slice E)) (hinfo : (P.info? E).map (fun i => (i.zero, i.size, i.bytes)) = some (some z, k, bytes)) (hz : z.cells.size = k) (hk : 0 < k)
    {ops : Array Oper} {rest : List Oper} {o : Oper} {a : Act} {Q : Exit → Act → World → Prop} {w : World} (hgd : o.guard = none) (s x : Operand)
    (ho : o.op = .call { callee := .builtin .append, args := #[s, x], argTypes := #[T, T] })
    (B n m cap : Nat) (v : Value) (u : Option Addr) (xs ys : List Value) (hs : a.eval s = v) (hx : a.eval x = .slice u m cap) (hown : w.ownsRow B E k v n xs) (hu : RowS w k u m cap ys) (h1 : ∀ y ∈ ys, y.oneCell' = true)
    (hn : n + m ≤ maxLen) (hbytes : (n + m) * bytes ≤ 140737488355328) (hB : B ≤ w.heap.size)
    (h : ∀ v' w', w'.ownsRow B E k v' (n + m) (xs ++ ys) → Chg v.ownBlock.toList w w' → Below B w w' → wpList P ops Q rest (a.put o.dst v') w') :
    wpList P ops Q (o :: rest) a w := by
  obtain ⟨i0, hi, hz0, hz1, hz2⟩ := info_parts hinfo
  refine wpList_plain hgd fun K hK => ?_
  obtain ⟨v', w', hr, h2, h3⟩ := run_append_row (P := P) T o.type E i0 z k bytes hT hi hz0 hz1 hz2 hz hk B v n m cap u xs ys hown hu h1 hn hbytes hB
  have hc := chg_grown h3
  unfold Oper.wp execOp
  simp only [ho, resolve, invoke, builtin, Sem.run_bind, Sem.run_pure, Result.andThen_ok, List.map_toArray, List.map_cons, List.map_nil, hs, hx, hr]
  exact hK _ _ (h v' w' h2 hc (hc.below hB (fun j hj => by
    cases hv : v.ownBlock with
    | none => rw [hv] at hj; cases hj
    | some g => rw [hv] at hj; simp at hj; subst hj; exact (hown.lt j hv).1)))
end Go.Proofs.YtajalllecoclcaaDoor
