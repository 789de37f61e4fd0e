/- append of one own row to another. -/
import Derived.Test.YtajalllecoclcaaDoorRowS
namespace Go.Proofs.YtajalllecoclcaaDoor
open Go.RowKit Go.ChangeShapes Go.WideShapes

theorem run_append_two {P : Program} {w : World} (t ty e : TypeId) (i : TypeInfo) (z : Value) (size bytes : Nat) (ht : P.underlying t = some (.slice e)) (hi : P.info? e = some i) (hz : i.zero = some z)
    (hsize : i.size = size) (hby : i.bytes = bytes) (hzs : z.cells.size = size) (hsz : 0 < size) (B C : Nat) (v u : Value) (n m : Nat) (xs ys : List Value) (hown : w.ownsRow B e size v n xs) (hu : w.ownsRow C e size u m ys) (h1 : ∀ y ∈ ys, y.oneCell' = true)
    (h63 : n + m ≤ maxLen) (hbytes : (n + m) * bytes ≤ 140737488355328) (hbase : B ≤ w.heap.size) :
    ∃ v' w', (Builtin.append_ #[t, t] ty #[v, u]).run P w = .ok v' w' ∧ w'.ownsRow B e size v' (n + m) (xs ++ ys) ∧ w.grownBy w' v.ownBlock := by
  have hlu := hu.1
  rcases hu.2 with ⟨rfl, rfl⟩ | ⟨g, cap, cur, rfl, hbg, hg, hnc, hcm, hcs, htake⟩
  · have hx : ys = [] := List.eq_nil_of_length_eq_zero (by simpa using hlu)
    subst hx
    obtain ⟨a, c, rfl, hr, -⟩ := rowS_owns hown
    have hle := hr.le
    refine ⟨_, w, ?_, by rw [List.append_nil]; exact hown, ⟨rfl, rfl, rfl, Nat.le_refl _, fun _ _ _ => rfl⟩⟩
    cases a with
    | none => simp [Builtin.append_, run_underlying ht, sizeOf, typeInfo, hi, Builtin.lenOf, Builtin.firstCells, hle]
    | some x => simp [Builtin.append_, run_underlying ht, sizeOf, typeInfo, hi, Builtin.lenOf, Builtin.firstCells, hle, storeCells]
  · have holds : ∀ j y, ys[j]? = some y → w.cell? ((⟨g, 0, none⟩ : Addr).add j) = some y := World.ownsRow.cells (g := g) (base := C) ⟨hlu, .inr ⟨g, cap, cur, rfl, hbg, hg, hnc, hcm, hcs, htake⟩⟩ rfl
    obtain ⟨v', w', hr, h2, h3, _, _⟩ := run_append_own_at (P := P) w B t ty e i z size bytes ht hi hz hsize hby hzs hsz v n xs hown ⟨g, 0, none⟩ m cap ys hlu holds h1 h63 hbytes hbase
    exact ⟨v', w', hr, h2, h3⟩
/-- 'out = append(out, u...)', both nil or the call's own -/
theorem appendRow {P : Program} {T E : TypeId} {z : Value} {k bytes : Nat} (hT : P.underlying T = some (.slice E)) (hinfo : (P.info? E).map (fun i => (i.zero, i.size, i.bytes)) = some (some z, k, bytes)) (hz : z.cells.size = k) (hk : 0 < k)
    {ops : Array Oper} {rest : List Oper} {o : Oper} {a : Act} {Q : Exit → Act → World → Prop} {w : World} (hgd : o.guard = none) (s x : Operand)
    (ho : o.op = .call { callee := .builtin .append, args := #[s, x], argTypes := #[T, T] })
    (B C n m : Nat) (v u : Value) (xs ys : List Value) (hs : a.eval s = v) (hx : a.eval x = u) (hown : w.ownsRow B E k v n xs) (hu : w.ownsRow C E k u m ys) (h1 : ∀ y ∈ ys, y.oneCell' = true)
    (hn : n + m ≤ maxLen) (hbytes : (n + m) * bytes ≤ 140737488355328) (hB : B ≤ w.heap.size)
    (h : ∀ v' w', w'.ownsRow B E k v' (n + m) (xs ++ ys) → Chg v.ownBlock.toList w w' → Below B w w' → wpList P ops Q rest (a.put o.dst v') w') :
    wpList P ops Q (o :: rest) a w := by
  obtain ⟨i0, hi, hz0, hz1, hz2⟩ := info_parts hinfo
  refine wpList_plain hgd fun K hK => ?_
  obtain ⟨v', w', hr, h2, h3⟩ := run_append_two (P := P) T o.type E i0 z k bytes hT hi hz0 hz1 hz2 hz hk B C v u n m xs ys hown hu h1 hn hbytes hB
  have hc := chg_grown h3
  unfold Oper.wp execOp
  simp only [ho, resolve, invoke, builtin, Sem.run_bind, Sem.run_pure, Result.andThen_ok, List.map_toArray, List.map_cons, List.map_nil, hs, hx, hr]
  exact hK _ _ (h v' w' h2 hc (hc.below hB (fun j hj => by
    cases hv : v.ownBlock with
    | none => rw [hv] at hj; cases hj
    | some g => rw [hv] at hj; simp at hj; subst hj; exact (hown.lt j hv).1)))
end Go.Proofs.YtajalllecoclcaaDoor
