/- The reference of runs: Piece, Pieces, Encode. -/
import Derived.Test.YtajalllecoclcaaDoorRleRef1
import Derived.Test.YtajalllecoclcaaDoorRet
import Derived.Test.YtajalllecoclcaaDoorRowIn
import Derived.Deep.CutRange
namespace Go.Proofs.YtajalllecoclcaaDoor
open Go.RowKit
set_option linter.unusedVariables false
set_option linter.unusedSimpArgs false

theorem bs_app (a b : List UInt8) : Fr.bs a ++ Fr.bs b = Fr.bs (a ++ b) := by
  apply Fr.bs_inj; rw [Fr.list_append, Fr.list_bs, Fr.list_bs, Fr.list_bs]
theorem bs_size (a : List UInt8) : (Fr.bs a).size = a.length := by rw [← Fr.size_list, Fr.list_bs]
theorem list_from (t : ByteArray) (n : Nat) : (t.extract n t.size).data.toList = t.data.toList.drop n := by
  simp only [ByteArray.data_extract, Array.toList_extract, List.extract_eq_take_drop]
  rw [List.take_of_length_le]
  rw [List.length_drop, llen]
  exact Nat.le_refl _
def strLen (v : Value) : Nat := match v with | .string t => t.size | _ => 0

def pcells (p : Rl.Pc) : List Value := [.int .u8 (p.b.toNat : Int), .int .i64 (p.n : Int)]
theorem pcells_len (l : List Rl.Pc) : (l.flatMap pcells).length = l.length * 2 := by
  induction l with
  | nil => rfl
  | cons p l ih => simp [pcells, ih]; omega
theorem flat_get2 (R : List Rl.Pc) (k j : Nat) (h : k < R.length) (hj : j < 2) : (R.flatMap pcells).getD (k * 2 + j) undef = (pcells R[k]).getD j undef := flat_get pcells 2 (fun _ => rfl) R k j h hj
theorem Rl.apart_good : ∀ (ps : List Rl.Pc), Rl.Apart ps → ∀ p ∈ ps, 1 ≤ p.n ∧ p.n ≤ 255
  | [], _, _, h => nomatch h
  | [a], ha, p, h => by obtain rfl : p = a := by simpa using h
                        exact ha
  | a :: b :: l, ha, p, h => by
    rcases List.mem_cons.1 h with rfl | h
    · exact ⟨ha.1, ha.2.1⟩
    · exact Rl.apart_good (b :: l) ha.2.2.2 p h
theorem Rl.pcs_good (l : List UInt8) (p : Rl.Pc) (h : p ∈ Rl.pcs l) : 1 ≤ p.n ∧ p.n ≤ 255 := Rl.apart_good _ (Rl.pcs_apart l) p h

end Go.Proofs.YtajalllecoclcaaDoor
