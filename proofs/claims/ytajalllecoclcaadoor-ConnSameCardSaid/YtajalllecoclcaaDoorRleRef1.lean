/- The reference of runs: row, four, Piece. -/
import Derived.Test.YtajalllecoclcaaDoorRleMath
import Derived.Test.YtajalllecoclcaaDoorRowS
import Derived.Test.YtajalllecoclcaaDoorLater
import Derived.Test.YtajalllecoclcaaDoorFrameWalk1
import Derived.Test.YtajalllecoclcaaDoorFrameMath
import Derived.Deep.QuietTactic
import Derived.BigQuiet
import Derived.OwnWalk
namespace Go.Proofs.YtajalllecoclcaaDoor
open Go.RowKit
set_option linter.unusedVariables false
set_option linter.unusedSimpArgs false

theorem below_drewN {B : Nat} {w w' : World} (h : Below B w w') (n : Nat) : Below B w (w'.drewN n) := ⟨h.os, h.tape, h.output, h.size, h.block⟩
theorem below_alloc2 (w : World) (a b : Obj) : Below w.heap.size w ((w.alloc a).alloc b) := ((Below.refl _ _).alloc (Nat.le_refl _) a).alloc (by simp) b
theorem ret_nat {k : IntKind} {a b : Nat} (h : a = b) : Ending.returned (.int k (a : Int)) = .returned (.int k (b : Int)) := by rw [h]
theorem ret_str {a b : ByteArray} (h : a = b) : Ending.returned (.string a) = .returned (.string b) := by rw [h]
theorem lget (s : ByteArray) (k : Nat) (h : k < s.size) : s.data.toList[k]'(by simpa using h) = s[k] := by
  show s.data.toList[k] = s.data[k]
  exact Array.getElem_toList (xs := s.data) (i := k) h
theorem llen (s : ByteArray) : s.data.toList.length = s.size := by simp
theorem u8_eq (a b : UInt8) (h : a = b) : ((a.toNat : Int) == (b.toNat : Int)) = true := by subst h; simp
theorem u8_ne (a b : UInt8) (h : a ≠ b) : ((a.toNat : Int) == (b.toNat : Int)) = false := by
  apply Bool.eq_false_iff.2
  intro e
  have : (a.toNat : Int) = b.toNat := by simpa using e
  exact h (UInt8.toNat_inj.1 (by omega))

/-- the byte at place k, if there is one: a test on two bytes -/
theorem opt_eq (s : ByteArray) (i j : Nat) (hi : i < s.size) (hj : j < s.size) : (s.data.toList[i]? = s.data.toList[j]?) ↔ s[i] = s[j] := by
  rw [List.getElem?_eq_getElem (by rw [llen]; exact hi), List.getElem?_eq_getElem (by rw [llen]; exact hj), lget s i hi, lget s j hj]
  exact Option.some_inj
/-! a piece as bytes -/
def pv (p : Rl.Pc) : Value := .agg #[vB p.b, .int .i64 (p.n : Int)]
/-- one byte as a string -/
def b1 (b : UInt8) : ByteArray := ⟨#[b]⟩
end Go.Proofs.YtajalllecoclcaaDoor
