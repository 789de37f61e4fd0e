/- Arrays by value that are the same. -/
import Derived.Test.YtcogndjfalomjaaDoorStThree
import Derived.ChangeKeysEq
namespace Go.Proofs.YtcogndjfalomjaaDoor
open Go.RowKit
set_option linter.unusedVariables false
set_option linter.unusedSimpArgs false

theorem info_int41 : ∃ i, Tryd.prog.info? 3 = some i := Option.isSome_iff_exists.1 (by kernel_rfl)
theorem eqarr5 (a b c d e : Int) (w : World) : (binOp .eql 28 (.agg #[.int .i64 a, .int .i64 b, .int .i64 c, .int .i64 d, .int .i64 e]) (.agg #[.int .i64 a, .int .i64 b, .int .i64 c, .int .i64 d, .int .i64 e])).run Tryd.prog w = .ok (.bool true) w := by
  obtain ⟨i, hi⟩ := info_int41
  rw [run_eql_struct, run_equalIn_array w 9999 _ _ Tryd.underlying28 hi, show Tryd.prog.cellsOf 3 = 1 by kernel_rfl, show List.range 5 = [0, 1, 2, 3, 4] from rfl]
  simp only [Op.eqItems]
  go_simp
theorem neqarr8 (a b c d e f g h : Int) (w : World) : (binOp .neq 48 (.agg #[.int .i64 a, .int .i64 b, .int .i64 c, .int .i64 d, .int .i64 e, .int .i64 f, .int .i64 g, .int .i64 h]) (.agg #[.int .i64 a, .int .i64 b, .int .i64 c, .int .i64 d, .int .i64 e, .int .i64 f, .int .i64 g, .int .i64 h])).run Tryd.prog w = .ok (.bool false) w := by
  obtain ⟨i, hi⟩ := info_int41
  rw [run_neq_struct, run_equalIn_array w 9999 _ _ Tryd.underlying48 hi, show Tryd.prog.cellsOf 3 = 1 by kernel_rfl, show List.range 8 = [0, 1, 2, 3, 4, 5, 6, 7] from rfl]
  simp only [Op.eqItems]
  go_simp
theorem eqnum (a b c d e : Int) (w : World) : (binOp .eql 23 (.agg #[.int .i64 a, .int .i64 b, .int .i64 c, .int .i64 d, .int .i64 e]) (.agg #[.int .i64 a, .int .i64 b, .int .i64 c, .int .i64 d, .int .i64 e])).run Tryd.prog w = .ok (.bool true) w := by
  have hfs : Tryd.prog.underlying 23 = some (.struct (Tryd.prog.fieldsOf 23)) := by kernel_rfl
  rw [run_eql_struct, run_equalIn_struct w 9999 _ _ _ hfs (by kernel_rfl)]
  clear hfs
  go_simp
end Go.Proofs.YtcogndjfalomjaaDoor
