/- Answers: Hear. (Printed by gen_prohear.py.) -/
import Derived.Test.YtajalllecoclcaaDoorPrWalk2
namespace Go.Proofs.YtajalllecoclcaaDoor
open Go.RowKit
set_option linter.unusedVariables false
set_option linter.unusedSimpArgs false

theorem rn_three (w : World) (cs ds es : Array Value) (T U V : TypeId) : Has (((w.alloc (.cells cs T)).alloc (.cells ds U)).alloc (.cells es V)) w.heap.size cs T ∧ Has (((w.alloc (.cells cs T)).alloc (.cells ds U)).alloc (.cells es V)) (w.heap.size + 1) ds U ∧ Has (((w.alloc (.cells cs T)).alloc (.cells ds U)).alloc (.cells es V)) (w.heap.size + 1 + 1) es V ∧ Below w.heap.size w (((w.alloc (.cells cs T)).alloc (.cells ds U)).alloc (.cells es V)) := by
  obtain ⟨h1, h2, h3⟩ := rn_two w cs ds T U
  refine ⟨h1.alloc _, h2.alloc _, ?_, h3.alloc h3.size _⟩
  have := Has.new ((w.alloc (.cells cs T)).alloc (.cells ds U)) es V
  rw [World.size_alloc, World.size_alloc] at this
  exact this
theorem get0 (d : ByteArray) (h0 : 0 < d.size) : d.data.toList.getD 0 0 = d[0] := by rw [List.getD, List.getElem?_eq_getElem (by rw [llen]; exact h0), lget d 0 h0]; rfl
theorem below_set {B : Nat} {w w' : World} (h : Below B w w') (b i : Nat) (hb : B ≤ b) (v : Value) : Below B w (w'.setCell ⟨b, i, none⟩ v) := h.setCell hb v
def hearV (o : Option Pr.An) : Value := match o with
  | some a => .tuple #[.agg #[.int .i64 a.t, .int .i64 a.j, .string a.txt, .int .i64 a.err], .int .i64 0]
  | none => .tuple #[.agg #[.int .i64 0, .int .i64 0, .string ⟨#[]⟩, .int .i64 0], .int .i64 35]
def toldV (o : Option Pr.An) : Value := match o with
  | some a => .agg #[.int .i64 a.t, .int .i64 a.j, .string a.txt, .int .i64 a.err, .bool true]
  | none => .agg #[.int .i64 0, .int .i64 0, .string ⟨#[]⟩, .int .i64 0, .bool false]
theorem hear_w (f : Fr.Frm) (h : Pr.whole f = false) : Pr.hear f = none := by unfold Pr.hear; rw [if_pos h]
theorem hear_65 (t j : Int) (d : ByteArray) (ht : t = 65 ∨ t = 70) (hw : Pr.whole ⟨t, j, d⟩ = true) : Pr.hear ⟨t, j, d⟩ = if j = 0 then some ⟨t, j, d, 0⟩ else none := by
  unfold Pr.hear
  rw [if_neg (by rw [hw]; decide), if_pos ht]
theorem hear_66 (j : Int) (d : ByteArray) (hw : Pr.whole ⟨66, j, d⟩ = true) : Pr.hear ⟨66, j, d⟩ = some ⟨66, j, d, 0⟩ := by
  unfold Pr.hear
  rw [if_neg (by rw [hw]; decide), if_neg (by simp only; decide), if_pos rfl]
theorem hear_67 (j : Int) (d : ByteArray) (hw : Pr.whole ⟨67, j, d⟩ = true) : Pr.hear ⟨67, j, d⟩ = if d.size = 0 then some ⟨67, j, Pr.e0, 0⟩ else none := by
  unfold Pr.hear
  rw [if_neg (by rw [hw]; decide), if_neg (by simp only; decide), if_neg (by simp only; decide), if_pos rfl]
theorem hear_68 (t j : Int) (d : ByteArray) (ht : t = 68 ∨ t = 69) (hw : Pr.whole ⟨t, j, d⟩ = true) : Pr.hear ⟨t, j, d⟩ = if d.size = 1 ∧ 0 < (d.data.toList.getD 0 0).toNat then some ⟨t, j, Pr.e0, ((d.data.toList.getD 0 0).toNat : Int)⟩ else none := by
  unfold Pr.hear
  rw [if_neg (by rw [hw]; decide), if_neg (by simp only; omega), if_neg (by simp only; omega), if_neg (by simp only; omega), if_pos ht]
end Go.Proofs.YtajalllecoclcaaDoor
