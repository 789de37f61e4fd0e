/- Walks of package frame and of its reference: types, numbers. -/
import Derived.Test.YtimlmjabdakojaaDoorFrameMath
import Derived.Test.YtimlmjabdakojaaDoorRows
import Derived.Test.YtimlmjabdakojaaDoorRowAt
import Derived.Test.YtimlmjabdakojaaDoorLater
import Derived.Handy
namespace Go.Proofs.YtimlmjabdakojaaDoor
open Go.RowKit

/-- a frame as a value -/
def fv (f : Fr.Frm) : Value := .agg #[.int .i64 f.t, .int .i64 f.j, .string f.d]

theorem mayT_split (t : Int) : Fr.mayT t = (decide (1 ≤ t ∧ t ≤ 7) || decide (65 ≤ t ∧ t ≤ 70)) := by
  unfold Fr.mayT; rw [Bool.eq_iff_iff]; simp
theorem vB_of (m : Nat) (x : Int) (h : x = ((m % 256 : Nat) : Int)) : Value.int .u8 x = vB (UInt8.ofNat m) := by
  unfold vB; rw [h, UInt8.toNat_ofNat']
theorem rowAt_new (w : World) (l : List UInt8) (T : TypeId) (hm : l.length ≤ maxLen) : RowAt (w.alloc (.cells (l.map vB).toArray T)) (some ⟨w.heap.size, 0, none⟩) l.length l.length (l.map vB) :=
  ⟨Nat.le_refl _, hm, by simp, (fun e => nomatch e), fun x hx _ => by
    cases hx
    refine ⟨w.heap.size, 0, rfl, fun i hi => ?_⟩
    rw [Nat.zero_add, (Has.new w _ _).cell]
    simp [hi]⟩
theorem put_cells (n : Nat) (h : n < 4294967296) : #[Value.int IntKind.u8 ((n : Int) / 16777216), Value.int IntKind.u8 ((n : Int) / 65536 % 256), Value.int IntKind.u8 ((n : Int) / 256 % 256), Value.int IntKind.u8 ((n : Int) % 256)] = ((Fr.put4 n).map vB).toArray := by
  unfold Fr.put4
  rw [vB_of (n / 16777216) _ (by omega), vB_of (n / 65536) _ (by omega), vB_of (n / 256) _ (by omega), vB_of n _ (by omega)]
  rfl
/-! the number of four bytes -/
theorem getD_idx (s : ByteArray) (i : Nat) (h : i < s.size) : s.data.toList.getD i 0 = s[i] := by
  rw [List.getD_eq_getElem?_getD, List.getElem?_eq_getElem (by simpa using h)]; rfl
theorem or_low (a : Nat) (c : Nat) (ha : a < 16777216) (hc : c < 256) : bits .or .i64 ((a : Int) * 256) (c : Int) = ((a * 256 + c : Nat) : Int) := by
  have e1 : (BitVec.ofInt 64 ((a : Int) * 256)).toNat = a * 256 := by
    have := ofInt_u64 (a * 256) (by omega)
    rw [show ((a * 256 : Nat) : Int) = (a : Int) * 256 from by omega] at this
    exact this
  have e2 : (BitVec.ofInt 64 (c : Int)).toNat = c := ofInt_u64 c (by omega)
  have e3 : (a * 256) ||| c = a * 256 + c := nat_join 8 (a * 256) c (by omega) hc
  unfold bits
  show IntKind.i64.wrap ((BitVec.ofInt 64 ((a : Int) * 256) ||| BitVec.ofInt 64 (c : Int)).toNat : Int) = _
  rw [BitVec.toNat_or, e1, e2, e3]
  exact IntWalk.i64_in _ (by omega)
end Go.Proofs.YtimlmjabdakojaaDoor
