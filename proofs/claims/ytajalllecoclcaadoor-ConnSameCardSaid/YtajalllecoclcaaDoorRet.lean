/- A struct result that lives in a variable, with slots behind it. -/
import Derived.Tactics
import Derived.Laws.ResultCell
import Derived.WalkKit
namespace Go.Proofs.YtajalllecoclcaaDoor
theorem results_cell1 {fn : Func} {p : Tmp} {ty : TypeId} (h : fn.results = #[.cell p ty]) (tmps : Array Value) (P : Program) (w : World) :
    (results fn tmps).run P w = ((asAddr (tmps.getD p undef)).run P w).andThen fun a w₁ => (loadVar ty a).run P w₁ := by
  simp only [results, h]
  simp [Sem.run_bind, Result.andThen]
theorem results_cell_tmp2 {fn : Func} {p u v : Tmp} {ty : TypeId} (h : fn.results = #[.cell p ty, .tmp u, .tmp v]) (tmps : Array Value) (P : Program) (w : World) :
    (results fn tmps).run P w =
      ((asAddr (tmps.getD p undef)).run P w).andThen fun a w₁ => ((loadVar ty a).run P w₁).andThen fun x w₂ => .ok (.tuple #[x, tmps.getD u undef, tmps.getD v undef]) w₂ := by
  simp only [results, h]
  simp [Sem.run_bind, Result.andThen]
theorem bound_in {P : Program} (a y : Nat) (code : BoundsCode) (h : a ≤ y) (w : World) : (Instr.sliceBound (.int .i64 (a : Int)) y code).run P w = .ok a w := by
  have h1 : ((a : Int) ≤ (y : Int)) := by omega
  simp [Instr.sliceBound, asIntOf, h, go_sem]
theorem und_in {P : Program} {T : TypeId} {d : TypeDesc} (hT : P.underlying T = some d) (w : World) : (underlying T).run P w = .ok d w := by
  simp [underlying, go_sem, hT]
/-- s[a:b] -/
theorem run_slice_str {P : Program} {T : TypeId} (hT : P.underlying T = some .string) (s : ByteArray) (a b : Nat) (x y : Int) (hx : x = (a : Int)) (hy : y = (b : Int)) (h : a ≤ b) (hb : b ≤ s.size) (w : World) :
    (Instr.slice T (.string s) (some (.int .i64 x)) (some (.int .i64 y)) none).run P w = .ok (.string (s.extract a b)) w := by
  subst hx hy
  simp [Instr.slice, Instr.sliceBounds, Sem.run_bind, und_in hT, bound_in b s.size _ hb, bound_in a b _ h]
/-- s[a:] -/
theorem run_slice_from {P : Program} {T : TypeId} (hT : P.underlying T = some .string) (s : ByteArray) (a : Nat) (x : Int) (hx : x = (a : Int)) (h : a ≤ s.size) (w : World) :
    (Instr.slice T (.string s) (some (.int .i64 x)) none none).run P w = .ok (.string (s.extract a s.size)) w := by
  subst hx
  simp [Instr.slice, Instr.sliceBounds, Sem.run_bind, und_in hT, bound_in a s.size _ h]
/-- s[:b] -/
theorem run_slice_to {P : Program} {T : TypeId} (hT : P.underlying T = some .string) (s : ByteArray) (b : Nat) (y : Int) (hy : y = (b : Int)) (h : b ≤ s.size) (w : World) :
    (Instr.slice T (.string s) none (some (.int .i64 y)) none).run P w = .ok (.string (s.extract 0 b)) w := by
  subst hy
  simp [Instr.slice, Instr.sliceBounds, Sem.run_bind, und_in hT, bound_in b s.size _ h]
end Go.Proofs.YtajalllecoclcaaDoor
