/- The frames with which bytes begin. -/
import Derived.Test.YtngheokngonhjaaFrameWalk6
import Derived.Test.YtngheokngonhjaaRowS
import Derived.OwnWalk
namespace Go.Proofs.Ytngheokngonhjaa
open Go.RowKit

namespace Fr
/-- all frames behind p, with fuel n; fs: those ahead -/
def run (s : ByteArray) : Nat → Nat → List Frm → List Frm × Nat × Int
  | 0, p, fs => (fs, p, 0)
  | n + 1, p, fs => if s.size ≤ p then (fs, p, 0) else if (dec (s.extract p s.size)).err ≠ 0 then (fs, p, (dec (s.extract p s.size)).err) else run s n (p + (dec (s.extract p s.size)).len) (fs ++ [(dec (s.extract p s.size)).f])
theorem run_end (s : ByteArray) (n p : Nat) (fs : List Frm) (h : s.size ≤ p) : run s n p fs = (fs, p, 0) := by
  cases n with
  | zero => rfl
  | succ n => unfold run; rw [if_pos h]
/-- one frame further -/
theorem run_step (s : ByteArray) (n p : Nat) (fs : List Frm) (h : p < s.size) (he : (dec (s.extract p s.size)).err = 0) : run s (n + 1) p fs = run s n (p + (dec (s.extract p s.size)).len) (fs ++ [(dec (s.extract p s.size)).f]) := by
  conv => lhs; unfold run
  rw [if_neg (by omega), if_neg (by simpa using he)]
theorem run_stop (s : ByteArray) (n p : Nat) (fs : List Frm) (h : p < s.size) (he : (dec (s.extract p s.size)).err ≠ 0) : run s (n + 1) p fs = (fs, p, (dec (s.extract p s.size)).err) := by
  conv => lhs; unfold run
  rw [if_neg (by omega), if_pos he]
theorem dec_len (s : ByteArray) (p : Nat) (h : p < s.size) (he : (dec (s.extract p s.size)).err = 0) : 9 ≤ (dec (s.extract p s.size)).len ∧ p + (dec (s.extract p s.size)).len ≤ s.size := by
  have h1 := enc_dec _ he
  have hs : (s.extract p s.size).size = s.size - p := by rw [ByteArray.size_extract]; omega
  omega
end Fr
/-- a frame's cells -/
def fcells (f : Fr.Frm) : List Value := [.int .i64 f.t, .int .i64 f.j, .string f.d]
theorem fcells_len (fs : List Fr.Frm) : (fs.flatMap fcells).length = fs.length * 3 := by
  induction fs with
  | nil => rfl
  | cons f fs ih => simp [fcells, ih]; omega
theorem info_frame : (Try.prog.info? 33).map (fun i => (i.zero, i.size, i.bytes)) = some (some (.agg #[.int .i64 0, .int .i64 0, .string ⟨#[]⟩]), 3, 32) := by kernel_rfl

end Go.Proofs.Ytngheokngonhjaa
