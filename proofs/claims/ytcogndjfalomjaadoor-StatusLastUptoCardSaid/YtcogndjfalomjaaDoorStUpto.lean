/- What a bound on the whole reading gives: each text's size; and a witness for a row with a condition. -/
import Derived.Test.YtcogndjfalomjaaDoorStIn
import Derived.Test.YtcogndjfalomjaaDoorRows
import Derived.Deep.DeepHandedRow
namespace Go.Proofs.YtcogndjfalomjaaDoor
open Go Go.RowKit Go.ChangeShapes Go.WideShapes Go.Deep

theorem bulk_part {H : Type} {d : DataW H} {l : List (DataW H)} (h : d ∈ l) : Rows.uptoBulk d ≤ Rows.uptoBulkAll l := by
  induction l with
  | nil => cases h
  | cons x r ih =>
    rw [Rows.uptoBulkAll]
    rcases List.mem_cons.1 h with rfl | h
    · exact Nat.le_add_right _ _
    · exact Nat.le_trans (ih h) (Nat.le_add_left _ _)
theorem bulk_slice {H : Type} {d : DataW H} {l m : List (DataW H)} (h : d ∈ l) : Rows.uptoBulk d ≤ Rows.uptoBulk (.slice l m) := by
  have := bulk_part h
  rw [Rows.uptoBulk]
  omega
theorem bulk_agg {H : Type} {d : DataW H} {l : List (DataW H)} (h : d ∈ l) : Rows.uptoBulk d ≤ Rows.uptoBulk (.agg l) := by
  have := bulk_part h
  rw [Rows.uptoBulk]
  omega
section
variable {H : Type} {enc : TypeId × Value → H} {w : World} {base : Nat} {spare : Nat → Bool} {held : Bool}
theorem ans_small {a : Option Addr} {len cap : Nat} {d : DataW H} {q : List MemPlace} (h0 : DataW.Trod enc Tryd.prog w base spare held 39 (Value.slice a len cap) d q) {l : List St.Ans} (hl : l.length = len) (hr : RowS w 4 a len cap (l.flatMap ancells))
    {N : Nat} (hN : Rows.uptoBulk d ≤ N) : ∀ x ∈ l, x.d.size ≤ N := by
  obtain ⟨fuel, h⟩ := h0
  rcases open_slice Tryd.underlying39 h with ⟨hcs, _⟩ | ⟨y, l', c, m, n, D, Pl, hcs, hb, hl', hm, hmm, hx, hi⟩
  · simp [Value.cells] at hcs
    obtain ⟨rfl, rfl, rfl⟩ := hcs
    intro x hx
    rw [List.length_eq_zero_iff.1 hl] at hx
    cases hx
  · simp [Value.cells] at hcs
    obtain ⟨rfl, rfl, rfl⟩ := hcs
    intro x hxm
    obtain ⟨k, hk, rfl⟩ := List.getElem_of_mem hxm
    have hkl : k < len := by omega
    obtain ⟨b, off, hy, _, _, _, c2, _⟩ := hr.ans k hkl hl
    cases hy
    have hC : Tryd.prog.cellsOf 46 = 4 := by kernel_rfl
    obtain ⟨cs', hc, ht'⟩ := hi k (by rw [hmm]; split <;> omega)
    rw [hC] at hc
    obtain ⟨ys, n', hn', hyy, hlen, hyl, hf⟩ := DataW.trod_struct Tryd.underlying46 ht'
    obtain ⟨_, hcl, hat⟩ := World.cells?_some hc
    have h2 := hat 2 (by decide)
    rw [add_plain, add_plain] at h2
    rw [show off + k * 4 + 2 = off + k * 4 + 2 from rfl] at c2
    rw [c2] at h2
    have hfs : DataW.trod enc Tryd.prog w base spare held n' 9 ((cs'.drop 2).take (Tryd.prog.cellsOf 9)) = ys[2]? := hf 2 _ rfl
    have hone : Tryd.prog.cellsOf 9 = 1 := by kernel_rfl
    rw [hone] at hfs
    have e1 : (cs'.drop 2).take 1 = [.string l[k].d] := by
      have h3 : 2 < cs'.length := by omega
      rw [List.getElem?_eq_getElem h3] at h2
      rw [List.drop_eq_getElem_cons h3, ← Option.some.inj h2]
      rfl
    have hys : ys[2]? = some (ys[2]'(by rw [hyl]; decide)) := List.getElem?_eq_getElem _
    rw [hys] at hfs
    generalize ys[2]'(by rw [hyl]; decide) = z at *
    have hz := hfs
    rw [e1] at hz
    obtain ⟨s, es, ez, _⟩ := DataW.trod_string Tryd.underlying9 hz
    have es' : l[k].d = s := by simpa using es
    rw [es']
    have hin : z.1 ∈ ys.map (·.1) := List.mem_map.2 ⟨z, List.mem_of_getElem? hys, rfl⟩
    have k1 : Rows.uptoBulk z.1 ≤ Rows.uptoBulk (D k) := by
      have := bulk_agg hin
      have e2 : D k = .agg (ys.map (·.1)) := congrArg Prod.fst hyy
      rw [e2]
      exact this
    have k2 : Rows.uptoBulk (D k) ≤ Rows.uptoBulk d := by
      have e3 : d = .slice ((List.range len).map D) ((List.range (m - len)).map fun j => D (len + j)) := congrArg Prod.fst hx
      rw [e3]
      exact bulk_slice (List.mem_map.2 ⟨k, List.mem_range.2 hkl, rfl⟩)
    rw [ez, Rows.uptoBulk] at k1
    have : s.data.toList.length = s.size := by simp
    omega
end
/-- an input that fits a row with a condition, over a world that is laid whole -/
theorem witness_upto {H : Type} {enc : TypeId × Value → H} {C : Checked} {os : Os} {f : FuncId} {fn : Func} {s : OpenSpec} {conds : List PathCond} {apart : Bool} {laid : List (String × DataW Unit)} (modest : Bool) (w0 : World) (args : Array Value) (hos : w0.os = os)
    (hsh : (w0.forCall (fun _ _ => 0) ⟨#[], args, []⟩).Shaped C.prog)
    (hok : Input.okWideB C.prog (w0.forCall (fun _ _ => 0) ⟨#[], args, []⟩) f ⟨#[], args, []⟩ = true)
    (hrow : s.preRow enc C.prog fn conds apart laid (w0.forCall (fun _ _ => 0) ⟨#[], args, []⟩).memory args) :
    ∃ (w : World) (tape : Tape) (i : Input), w.os = os ∧ (w.forCall tape i).Shaped C.prog ∧ i.vars = [] ∧ Input.okWide C.prog (w.forCall tape i) .any w.heap.size f i ∧
      s.preRow enc C.prog fn conds apart laid (w.forCall tape i).memory i.args ∧ ({ modest := modest } : Assume).holds C.prog (lone (Frame.enter C.prog f i.args .normal) [] (w.forCall tape i)) :=
  ⟨w0, fun _ _ => 0, ⟨#[], args, []⟩, hos, hsh, (Input.okWide_of_okWideB (base := 0) hok).1, (Input.okWide_of_okWideB hok).2, hrow, by
    simp only [Assume.holds]
    exact ⟨by simp, by simp, fun _ => Modest.zero, by simp, by simp⟩⟩
end Go.Proofs.YtcogndjfalomjaaDoor
