/- The slice of answers that comes in, and appends of it. -/
import Derived.Test.YtcogndjfalomjaaDoorStEq
import Derived.Test.YtcogndjfalomjaaDoorApp
import Derived.Test.YtcogndjfalomjaaDoorRowIn
namespace Go.Proofs.YtcogndjfalomjaaDoor
open Go.RowKit Go.ChangeShapes Go.WideShapes Go.Deep
section
variable {H : Type} {enc : TypeId × Value → H} {w : World} {base : Nat} {spare : Nat → Bool} {held : Bool}
theorem ans_in {a : Option Addr} {len cap : Nat} {d : DataW H} {q : List MemPlace} (h0 : DataW.Trod enc Tryd.prog w base spare held 39 (Value.slice a len cap) d q) :
    ∃ l : List St.Ans, l.length = len ∧ RowS w 4 a len cap (l.flatMap ancells) ∧ ∀ x ∈ l, x.d.size ≤ maxLen := by
  obtain ⟨fuel, h⟩ := h0
  obtain ⟨vs, hr, hg⟩ := rowS_in [FK.i .i64, FK.i .i64, FK.s, FK.i .i64] Tryd.underlying39 Tryd.underlying46 (by kernel_rfl) (by kernel_rfl) (fun j k hk => by
    match j, hk with
    | 0, hk => cases hk; exact ⟨_, rfl, Tryd.underlying3⟩
    | 1, hk => cases hk; exact ⟨_, rfl, Tryd.underlying3⟩
    | 2, hk => cases hk; exact ⟨_, rfl, Tryd.underlying9⟩
    | 3, hk => cases hk; exact ⟨_, rfl, Tryd.underlying24⟩) (by decide) h
  have hr' : RowS w 4 a len cap vs := hr
  obtain ⟨l, h1, h2, h3⟩ := rows_of ancells (fun x => x.d.size ≤ maxLen) 4 (fun _ => rfl) len vs hr'.length (fun i hi => by
    obtain ⟨c0, hc0, _⟩ := hg i hi 0 _ rfl
    obtain ⟨c1, hc1, _⟩ := hg i hi 1 _ rfl
    obtain ⟨c2, hc2, hz⟩ := hg i hi 2 _ rfl
    obtain ⟨c3, hc3, _⟩ := hg i hi 3 _ rfl
    refine ⟨⟨c0, c1, c2, c3⟩, hz, fun j hj => ?_⟩
    match j, hj with
    | 0, _ => exact hc0
    | 1, _ => exact hc1
    | 2, _ => exact hc2
    | 3, _ => exact hc3)
  subst h2
  exact ⟨l, h1, hr', h3⟩
end
theorem ancells_one (l : List St.Ans) : ∀ y ∈ l.flatMap ancells, y.oneCell' = true := by
  intro y hy
  rw [List.mem_flatMap] at hy
  obtain ⟨x, _, hx⟩ := hy
  simp only [ancells, List.mem_cons, List.not_mem_nil, or_false] at hx
  rcases hx with rfl | rfl | rfl | rfl <;> rfl
theorem info_ans41 : (Tryd.prog.info? 46).map (fun i => (i.zero, i.size, i.bytes)) = some (some (.agg #[.int .i64 0, .int .i64 0, .string ⟨#[]⟩, .int .i64 0]), 4, 40) := by kernel_rfl
theorem info_rans41 : (Tryd.prog.info? 65).map (fun i => (i.zero, i.size, i.bytes)) = some (some (.agg #[.int .i64 0, .int .i64 0, .string ⟨#[]⟩, .int .i64 0]), 4, 40) := by kernel_rfl
/-- a slice literal without elements is the call's own -/
theorem owns_empty (w : World) (B k : Nat) (E : TypeId) (hB : B ≤ w.heap.size) : (w.alloc (.cells #[] E)).ownsRow B E k (.slice (some ⟨w.heap.size, 0, none⟩) 0 0) 0 [] :=
  ⟨by simp, .inr ⟨w.heap.size, 0, #[], rfl, hB, heap_alloc_new w _, Nat.le_refl _, Nat.zero_le _, by simp, by simp⟩⟩
theorem run_append_row {P : Program} {w : World} (t ty e : TypeId) (i : TypeInfo) (z : Value) (size bytes : Nat) (ht : P.underlying t = some (.slice e)) (hi : P.info? e = some i) (hz : i.zero = some z)
    (hsize : i.size = size) (hby : i.bytes = bytes) (hzs : z.cells.size = size) (hsz : 0 < size) (B : Nat) (v : Value) (n m cap : Nat) (a : Option Addr) (xs ys : List Value) (hown : w.ownsRow B e size v n xs) (hu : RowS w size a m cap ys) (h1 : ∀ y ∈ ys, y.oneCell' = true)
    (h63 : n + m ≤ maxLen) (hbytes : (n + m) * bytes ≤ 140737488355328) (hbase : B ≤ w.heap.size) :
    ∃ v' w', (Builtin.append_ #[t, t] ty #[v, .slice a m cap]).run P w = .ok v' w' ∧ w'.ownsRow B e size v' (n + m) (xs ++ ys) ∧ w.grownBy w' v.ownBlock := by
  cases a with
  | none =>
    obtain ⟨rfl, rfl⟩ := hu.nil rfl
    have hx : ys = [] := List.eq_nil_of_length_eq_zero (by simpa using hu.length)
    subst hx
    obtain ⟨b, c, rfl, hr, -⟩ := rowS_owns hown
    have hle := hr.le
    refine ⟨_, w, ?_, by rw [List.append_nil]; exact hown, ⟨rfl, rfl, rfl, Nat.le_refl _, fun _ _ _ => rfl⟩⟩
    cases b with
    | none => simp [Builtin.append_, run_underlying ht, sizeOf, typeInfo, hi, Builtin.lenOf, Builtin.firstCells, hle]
    | some x => simp [Builtin.append_, run_underlying ht, sizeOf, typeInfo, hi, Builtin.lenOf, Builtin.firstCells, hle, storeCells]
  | some x =>
    have holds : ∀ j y, ys[j]? = some y → w.cell? (x.add j) = some y := by
      intro j y hj
      have hjl : j < ys.length := (List.getElem?_eq_some_iff.1 hj).1
      rw [hu.length] at hjl
      have hm : 0 < m := by
        apply Nat.pos_of_ne_zero
        rintro rfl
        rw [Nat.zero_mul] at hjl
        omega
      obtain ⟨b, off, rfl, hb, hc⟩ := hu.cells x rfl hm
      have := hc j hjl
      rw [List.getD_eq_getElem?_getD, hj] at this
      rw [add_plain]
      exact this
    obtain ⟨v', w', hr, h2, h3, _, _⟩ := run_append_own_at (P := P) w B t ty e i z size bytes ht hi hz hsize hby hzs hsz v n xs hown x m cap ys hu.length holds h1 h63 hbytes hbase
    exact ⟨v', w', hr, h2, h3⟩
/-- 'out = append(out, u...)', out nil or the call's own, u any row -/
theorem appendAny {P : Program} {T E : TypeId} {z : Value} {k bytes : Nat} (hT : P.underlying T = some (.slice E)) (hinfo : (P.info? E).map (fun i => (i.zero, i.size, i.bytes)) = some (some z, k, bytes)) (hz : z.cells.size = k) (hk : 0 < k)
    {ops : Array Oper} {rest : List Oper} {o : Oper} {a : Act} {Q : Exit → Act → World → Prop} {w : World} (hgd : o.guard = none) (s x : Operand)
    (ho : o.op = .call { callee := .builtin .append, args := #[s, x], argTypes := #[T, T] })
    (B n m cap : Nat) (v : Value) (u : Option Addr) (xs ys : List Value) (hs : a.eval s = v) (hx : a.eval x = .slice u m cap) (hown : w.ownsRow B E k v n xs) (hu : RowS w k u m cap ys) (h1 : ∀ y ∈ ys, y.oneCell' = true)
    (hn : n + m ≤ maxLen) (hbytes : (n + m) * bytes ≤ 140737488355328) (hB : B ≤ w.heap.size)
    (h : ∀ v' w', w'.ownsRow B E k v' (n + m) (xs ++ ys) → Chg v.ownBlock.toList w w' → Below B w w' → wpList P ops Q rest (a.put o.dst v') w') :
    wpList P ops Q (o :: rest) a w := by
  obtain ⟨i0, hi, hz0, hz1, hz2⟩ := info_parts hinfo
  refine wpList_plain hgd fun K hK => ?_
  obtain ⟨v', w', hr, h2, h3⟩ := run_append_row (P := P) T o.type E i0 z k bytes hT hi hz0 hz1 hz2 hz hk B v n m cap u xs ys hown hu h1 hn hbytes hB
  have hc := chg_grown h3
  unfold Oper.wp execOp
  simp only [ho, resolve, invoke, builtin, Sem.run_bind, Sem.run_pure, Result.andThen_ok, List.map_toArray, List.map_cons, List.map_nil, hs, hx, hr]
  exact hK _ _ (h v' w' h2 hc (hc.below hB (fun j hj => by
    cases hv : v.ownBlock with
    | none => rw [hv] at hj; cases hj
    | some g => rw [hv] at hj; simp at hj; subst hj; exact (hown.lt j hv).1)))
end Go.Proofs.YtcogndjfalomjaaDoor
