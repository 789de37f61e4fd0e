/- A text's status. -/
import Derived.Test.YtimlmjabdakojaaDoorStSplit
import Derived.Test.YtimlmjabdakojaaDoorStWalk6
import Derived.Test.YtimlmjabdakojaaDoorMake
namespace Go.Proofs.YtimlmjabdakojaaDoor
open Go.RowKit
set_option linter.unusedVariables false
set_option linter.unusedSimpArgs false

/-- the cell that bytealg.MaxLen holds -/
def MaxL (w : World) : Prop := ∃ m, w.cell? ⟨0, 0, none⟩ = some (.int .i64 m)
theorem MaxL.keep {w w' : World} (h : MaxL w) (hb : Below w.heap.size w w') : MaxL w' := by
  obtain ⟨m, hm⟩ := h
  exact ⟨m, by rw [hb.cell (p := ⟨0, 0, none⟩) (World.block_lt_of_cell? _ _ hm)]; exact hm⟩
theorem split_walk41 (s : ByteArray) (c : UInt8) (L : List (List UInt8)) (hL : St.splitC c s.data.toList = L) (w : World) (hM : MaxL w) (hs : s.size < 4294967281) :
    Calls Tryd.prog 32 #[.string s, .string ⟨#[c]⟩] w fun e w' => e = .returned (.slice (some ⟨w.heap.size, 0, none⟩) L.length L.length) ∧ w' = w.alloc (.cells (L.map fun x => Value.string (Fr.bs x)).toArray 9) := by
  obtain ⟨m, hm⟩ := hM
  have h := Tryd.strings_Split s ⟨#[c]⟩ m w hs hm (Nat.le_refl _)
  rw [St.splitB_C, St.countB_C, hL, List.map_map] at h
  exact h
namespace St
def parsedV : Option Nums → Value
  | some n => .tuple #[.agg #[.int .i64 n.at', .int .i64 n.jobs, .int .i64 n.used, .int .i64 n.limit, .int .i64 n.left], .int .i64 0]
  | none => .tuple #[.agg #[.int .i64 0, .int .i64 0, .int .i64 0, .int .i64 0, .int .i64 0], .int .i64 4]
theorem parse_not (s : List UInt8) (h : (splitC 32 s).length ≠ 5) : parse s = none := by
  unfold parse
  split
  · rename_i e; rw [e] at h; exact absurd rfl h
  · rfl
theorem parse_five (s a b c d e : List UInt8) (h : splitC 32 s = [a, b, c, d, e]) : parse s = if may ⟨number a, number b, number c, number d, number e⟩ = true ∧ textL ⟨number a, number b, number c, number d, number e⟩ = s then some ⟨number a, number b, number c, number d, number e⟩ else none := by
  unfold parse
  rw [h]
end St
theorem results_cell_tmp1 {fn : Func} {p u : Tmp} {ty : TypeId} (h : fn.results = #[.cell p ty, .tmp u]) (tmps : Array Value) (P : Program) (w : World) :
    (results fn tmps).run P w =
      ((asAddr (tmps.getD p undef)).run P w).andThen fun a w₁ => ((loadVar ty a).run P w₁).andThen fun x w₂ => .ok (.tuple #[x, tmps.getD u undef]) w₂ := by
  simp only [results, h]
  simp [Sem.run_bind, Result.andThen]
theorem str_ne {a b : ByteArray} (hab : a ≠ b) : (a.toList == b.toList) = false := by
  apply Bool.eq_false_iff.2
  intro e
  apply hab
  have e3 := beq_iff_eq.1 e
  rw [ByteArray.toList_eq, ByteArray.toList_eq] at e3
  exact Fr.bs_inj e3
theorem fset5 {w : World} {r : Nat} {x y z u v : Value} {T : TypeId} (h : Has w r #[x, y, z, u, v] T) (a b c d e : Value) : Has (((((w.setCell ⟨r, 0, none⟩ a).setCell ⟨r, 1, none⟩ b).setCell ⟨r, 2, none⟩ c).setCell ⟨r, 3, none⟩ d).setCell ⟨r, 4, none⟩ e) r #[a, b, c, d, e] T := ((((h.setCell 0 a).setCell 1 b).setCell 2 c).setCell 3 d).setCell 4 e
theorem oset5 {w : World} {q r : Nat} {cs : Array Value} {T : TypeId} (h : Has w q cs T) (hq : q ≠ r) (a b c d e : Value) : Has (((((w.setCell ⟨r, 0, none⟩ a).setCell ⟨r, 1, none⟩ b).setCell ⟨r, 2, none⟩ c).setCell ⟨r, 3, none⟩ d).setCell ⟨r, 4, none⟩ e) q cs T := ((((h.setCell_other _ _ hq).setCell_other _ _ hq).setCell_other _ _ hq).setCell_other _ _ hq).setCell_other _ _ hq
theorem bset1 {B : Nat} {w w' : World} (h : Below B w w') (b i : Nat) (hb : B ≤ b) (v : Value) : Below B w (w'.setCell ⟨b, i, none⟩ v) := h.setCell hb v
theorem bset5 {B : Nat} {w w' : World} {r : Nat} (h : Below B w w') (hr : B ≤ r) (a b c d e : Value) : Below B w (((((w'.setCell ⟨r, 0, none⟩ a).setCell ⟨r, 1, none⟩ b).setCell ⟨r, 2, none⟩ c).setCell ⟨r, 3, none⟩ d).setCell ⟨r, 4, none⟩ e) := bset1 (bset1 (bset1 (bset1 (bset1 h r 0 hr a) r 1 hr b) r 2 hr c) r 3 hr d) r 4 hr e
end Go.Proofs.YtimlmjabdakojaaDoor
