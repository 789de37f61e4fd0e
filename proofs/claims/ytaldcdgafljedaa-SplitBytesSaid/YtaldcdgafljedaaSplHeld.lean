/- Splitters: Held. -/
import Derived.Test.YtaldcdgafljedaaSplLaw2
namespace Go.Proofs.Ytaldcdgafljedaa
open Go.RowKit
set_option linter.unusedVariables false
set_option linter.unusedSimpArgs false

theorem kat_low {w w' : World} {b : Nat} {r : Rl.Pc} (h : KAt w b r) (k : Below w.heap.size w w') : KAt w' b r := by
  unfold KAt at *; exact Has.below h k (Has.lt h)
set_option maxRecDepth 100000 in
set_option maxHeartbeats 800000 in
theorem sheld_walk (w : World) (B b sb pb : Nat) (v : Value) (now : List Rl.Pc) (room : Nat) (row : Rl.Pc) (h : SpAt w B b sb pb v now room row) (hl2 : (Sp.body now).length ≤ 10000000) (hrn : row.n ≤ 255) :
    Calls Try.prog 21 #[.pointer (some ⟨b, 0, none⟩)] w fun e w' => e = .returned (.int .i64 (((Sp.body now).length + min row.n 1 : Nat) : Int)) ∧ Below w.heap.size w w' := by
  obtain ⟨a, c, rfl, -, -⟩ := rowAt_owns h.own
  have c0 := h.cs.cell 0; have c4 := h.cs.cell 4
  simp only [scells, ptr, List.getElem?_toArray, List.getElem?_cons_zero, List.getElem?_cons_succ] at c0 c4
  have HK := Lib.hid h.pk
  have HRW := Lib.hid (fun x : Later w => later_call (x := x) (prow_walk pb row x.at (kat_low h.pk x.below)))
  have x0 : ∀ x : Later w, x.at.cell? ⟨b, 0, none⟩ = _ := fun x => x.cell c0
  have x4 : ∀ x : Later w, x.at.cell? ⟨b, 4, none⟩ = _ := fun x => x.cell c4
  clear h c0 c4
  generalize (Sp.body now).length = bl at *
  generalize row.n = n at *
  generalize (row.b.toNat : Int) = rb at *
  have hfd : ∀ w : World, (Instr.field 50 (.agg #[.int .u8 rb, .int .i64 (n : Int)]) 1).run Try.prog w = .ok (.int .i64 (n : Int)) w := fun _ => by kernel_rfl
  have hmin : min (n : Int) 1 = ((min n 1 : Nat) : Int) := by omega
  have hmb : min n 1 ≤ 1 := Nat.min_le_right _ _
  generalize min n 1 = mn at *
  go_enter Try.func21, Try.ntmps21
  go_upto_region 3 with (fail)
  refine region_later 14 (by kernel_rfl) (by kernel_rfl) ?_
  simp only [List.take_succ_cons, List.take_zero, List.drop_succ_cons, List.drop_zero]
  repeat (go_big_quiet_step (exact HRW.out _))
  refine wpQuiet_nil ?_
  rintro w' ⟨x, rfl⟩
  go_wp2
  go_ret
  exact ⟨rfl, x.below⟩
end Go.Proofs.Ytaldcdgafljedaa
