/- A number's digits. -/
import Derived.Test.YtimlmjabdakojaaDoorStWalk2
import Derived.Test.YtimlmjabdakojaaDoorRet
namespace Go.Proofs.YtimlmjabdakojaaDoor
open Go.RowKit
set_option linter.unusedVariables false

namespace St
/-- a digit's byte -/
def dig (m : Nat) : UInt8 := UInt8.ofNat (48 + m)
def pre (n : Nat) : List UInt8 := if n < 10 then [] else digs (n / 10)
theorem pre_start (n : Nat) : pre n ++ [dig (n % 10)] = digs n := by
  unfold pre dig
  by_cases h : n < 10
  · rw [if_pos h, digs_lt n h, Nat.mod_eq_of_lt h]; rfl
  · rw [if_neg h, digs_ge n h]
theorem pre_lt (n : Nat) (h : n < 10) : pre n = [] := by unfold pre; rw [if_pos h]
theorem pre_ge (n : Nat) (h : ¬ n < 10) : pre n = pre (n / 10) ++ [dig (n / 10 % 10)] := by rw [pre_start]; unfold pre; rw [if_neg h]
theorem ten_cut : ∀ m : Nat, m < 10 → (⟨#[48, 49, 50, 51, 52, 53, 54, 55, 56, 57]⟩ : ByteArray).extract m (m + 1) = Fr.bs [dig m] := by
  intro m h
  have : m = 0 ∨ m = 1 ∨ m = 2 ∨ m = 3 ∨ m = 4 ∨ m = 5 ∨ m = 6 ∨ m = 7 ∨ m = 8 ∨ m = 9 := by omega
  rcases this with rfl | rfl | rfl | rfl | rfl | rfl | rfl | rfl | rfl | rfl <;> rfl
end St
theorem ten_slice (m : Nat) (h : m < 10) (w : World) : (Instr.slice 9 (.string ⟨#[48, 49, 50, 51, 52, 53, 54, 55, 56, 57]⟩) (some (.int .i64 (m : Int))) (some (.int .i64 ((m : Int) + 1))) none).run Tryd.prog w = .ok (.string (Fr.bs [St.dig m])) w := by
  rw [← St.ten_cut m h]
  exact run_slice_str Tryd.underlying9 _ m (m + 1) _ _ rfl (by omega) (by omega) (by show m + 1 ≤ 10; omega) w
theorem tmod_nat (n : Nat) : (n : Int).tmod 10 = ((n % 10 : Nat) : Int) := by rw [Int.tmod_eq_emod_of_nonneg (Int.natCast_nonneg n)]; omega
theorem tdiv_nat (n : Nat) : (n : Int).tdiv 10 = ((n / 10 : Nat) : Int) := by rw [Int.tdiv_eq_ediv_of_nonneg (Int.natCast_nonneg n)]; omega
set_option maxRecDepth 100000 in
set_option maxHeartbeats 800000 in
theorem refdigits_pos (N : Nat) (hN : N ≤ 1000000000000000) (w : World) : Calls Tryd.prog 46 #[.int .i64 (N : Int)] w fun e w' => e = .returned (.string (Fr.bs (St.digs N))) ∧ Below w.heap.size w w' := by
  have HS := St.pre_start N
  generalize St.digs N = R at *
  have hm : N % 10 < 10 := Nat.mod_lt _ (by decide)
  have hr := tmod_nat N
  have HR := Lib.hid HS
  have hsl := fun w => ten_slice (N % 10) hm w
  generalize N % 10 = m at *
  have hm2 : (m : Int) < 10 := by omega
  have h0 : ¬ (N : Int) < 0 := by omega
  clear HS
  go_enter Tryd.func46, Tryd.ntmps46
  go_wp2_with fail
  go_loopw [0, 3] (fun i v wr => ∃ (n : Nat) (o : List UInt8), n ≤ 1000000000000000 ∧ i = .int .i64 n ∧ v = .string (Fr.bs o) ∧ St.pre n ++ o = R ∧ n < 10 ^ (17 - o.length) ∧ o.length ≤ 17 ∧ Below w.heap.size w wr) (fun i _ _ => (intOf i).toNat)
  case atStart => exact ⟨N, [St.dig m], hN, rfl, rfl, HR.out, Nat.lt_of_le_of_lt hN (by simp only [List.length_cons, List.length_nil]; decide), by simp, Below.refl _ _⟩
  case round =>
    clear hr hsl h0 hm2 hm HR
    obtain ⟨n, o, hn, rfl, rfl, ho, hp, hl, hbr⟩ := hrel
    have HB := Lib.hid hbr
    clear hbr
    by_cases h10 : n < 10
    · have h10' : ¬ (10 : Int) ≤ (n : Int) := by omega
      have HO := Lib.hid (show o = R by rw [← ho, St.pre_lt n h10]; rfl)
      clear ho h10 hp
      go_wp2
      go_ret
      exact ⟨by rw [← HO.out]; rfl, HB.out⟩
    · have h10' : (10 : Int) ≤ (n : Int) := by omega
      have hq := tdiv_nat n
      rw [St.pre_ge n h10, List.append_assoc] at ho
      have HO := Lib.hid ho
      have hm : n / 10 % 10 < 10 := Nat.mod_lt _ (by decide)
      have hr := tmod_nat (n / 10)
      have hsl := fun w => ten_slice (n / 10 % 10) hm w
      have hlt : n / 10 < n := by omega
      have hk : o.length < 17 := by
        apply Classical.byContradiction
        intro h
        have e : 17 - o.length = 0 := by omega
        rw [e, Nat.pow_zero] at hp
        omega
      have HP := Lib.hid (show n / 10 < 10 ^ (17 - (o.length + 1)) by
        have e : 17 - o.length = 17 - (o.length + 1) + 1 := by omega
        rw [e, Nat.pow_succ] at hp
        exact Nat.div_lt_of_lt_mul (by rw [Nat.mul_comm]; exact hp))
      generalize n / 10 % 10 = m' at *
      generalize n / 10 = p at *
      have hm2 : (m' : Int) < 10 := by omega
      have hcat : ¬ 9223372036854775807 < (Fr.bs [St.dig m']).size + (Fr.bs o).size := by
        rw [← Fr.size_list, ← Fr.size_list, Fr.list_bs, Fr.list_bs]
        show ¬ _ < 1 + o.length; omega
      have c1 : decide ((10 : Int) ≤ (n : Int)) = true := by simpa using h10'
      clear ho hp h10
      go_wp2_with fail
      go_roundw
      case rel => exact ⟨p, St.dig m' :: o, by omega, by go_num, rfl, HO.out, HP.out, by simp; omega, HB.out⟩
      case measure => simp [intOf]; omega
end Go.Proofs.YtimlmjabdakojaaDoor
