/- The reference of runs: row, four, Piece. -/
import Derived.Test.YtaldcdgafljedaaRleMath
import Derived.Test.YtaldcdgafljedaaRowS
import Derived.Test.YtaldcdgafljedaaLater
import Derived.Test.YtaldcdgafljedaaFrameWalk1
import Derived.Test.YtaldcdgafljedaaFrameMath
import Derived.Deep.QuietTactic
import Derived.BigQuiet
import Derived.OwnWalk
namespace Go.Proofs.Ytaldcdgafljedaa
open Go.RowKit
set_option linter.unusedVariables false
set_option linter.unusedSimpArgs false

theorem below_drewN {B : Nat} {w w' : World} (h : Below B w w') (n : Nat) : Below B w (w'.drewN n) := ⟨h.os, h.tape, h.output, h.size, h.block⟩
theorem below_alloc2 (w : World) (a b : Obj) : Below w.heap.size w ((w.alloc a).alloc b) := ((Below.refl _ _).alloc (Nat.le_refl _) a).alloc (by simp) b
theorem ret_nat {k : IntKind} {a b : Nat} (h : a = b) : Ending.returned (.int k (a : Int)) = .returned (.int k (b : Int)) := by rw [h]
theorem ret_str {a b : ByteArray} (h : a = b) : Ending.returned (.string a) = .returned (.string b) := by rw [h]
theorem lget (s : ByteArray) (k : Nat) (h : k < s.size) : s.data.toList[k]'(by simpa using h) = s[k] := by
  show s.data.toList[k] = s.data[k]
  exact Array.getElem_toList (xs := s.data) (i := k) h
theorem llen (s : ByteArray) : s.data.toList.length = s.size := by simp
theorem u8_eq (a b : UInt8) (h : a = b) : ((a.toNat : Int) == (b.toNat : Int)) = true := by subst h; simp
theorem u8_ne (a b : UInt8) (h : a ≠ b) : ((a.toNat : Int) == (b.toNat : Int)) = false := by
  apply Bool.eq_false_iff.2
  intro e
  have : (a.toNat : Int) = b.toNat := by simpa using e
  exact h (UInt8.toNat_inj.1 (by omega))

set_option maxRecDepth 100000 in
set_option maxHeartbeats 800000 in
theorem row_walk (s : ByteArray) (w : World) (h0 : 0 < s.size) (hs : s.size ≤ 1000000) :
    Calls Try.prog 34 #[.string s] w fun e w' => e = .returned (.int .i64 (Rl.rl s.data.toList : Int)) ∧ Below w.heap.size w w' := by
  have hrl : Rl.rl s.data.toList = Rl.rowN s[0] 255 s.data.toList := by
    have := Rl.rl_at s.data.toList 0 (by rw [llen]; exact h0)
    rw [List.drop_zero, lget s 0 h0] at this
    exact this
  have HR := Lib.hid hrl
  generalize Rl.rl s.data.toList = R at *
  clear hrl
  have h0' : (0 : Int) < (s.size : Int) := by omega
  go_enter Try.func34, Try.ntmps34
  go_wp2
  go_loopw [3] (fun i wr => ∃ k : Nat, i = .int .i64 k ∧ k ≤ s.size ∧ k ≤ 255 ∧ Rl.rowN s[0] (255 - k) (s.data.toList.drop k) + k = R ∧ Below w.heap.size w wr) (fun i _ => s.size - (intOf i).toNat)
  case atStart => exact ⟨0, rfl, Nat.zero_le _, by omega, by rw [HR.out]; rfl, Below.refl _ _⟩
  case round =>
    obtain ⟨k, rfl, hk, hk2, hR, hbr⟩ := hrel
    have HB := Lib.hid hbr
    have HRR := Lib.hid hR
    clear hbr hR
    by_cases hlt : k < s.size
    · have c1 : decide ((k : Int) < (s.size : Int)) = true := by simpa using hlt
      have c1' : (k : Int) < (s.size : Int) := by omega
      by_cases h255 : k < 255
      · have c2 : decide ((k : Int) < 255) = true := by simp; omega
        by_cases hb : s[k] = s[0]
        · have c3 := u8_eq _ _ hb
          have hst := Rl.rowN_yes s[0] (254 - k) s.data.toList k (by rw [llen]; exact hlt) (by rw [lget s k hlt]; exact hb)
          rw [show 254 - k + 1 = 255 - k by omega] at hst
          have HN := Lib.hid (show Rl.rowN s[0] (255 - (k + 1)) (s.data.toList.drop (k + 1)) + (k + 1) = R by have := HRR.out; rw [show 255 - (k + 1) = 254 - k by omega]; omega)
          clear hst
          go_wp2_with fail
          go_quiet (fail)
          go_wp2
          go_roundw
          case rel => exact ⟨k + 1, by go_num, hlt, by omega, HN.out, below_drewN HB.out _⟩
          case measure => simp [intOf]; omega
        · have c3 := u8_ne _ _ hb
          have HN := Lib.hid (show k = R by have := HRR.out; rw [Rl.rowN_no _ _ _ _ (fun hk => by rw [lget s k hlt]; exact hb)] at this; omega)
          go_wp2_with fail
          go_quiet (fail)
          go_wp2
          go_ret
          exact ⟨ret_nat HN.out, below_drewN HB.out _⟩
      · have c2 : decide ((k : Int) < 255) = false := by simp; omega
        have HN := Lib.hid (show k = R by have := HRR.out; rw [show 255 - k = 0 by omega] at this; simpa [Rl.rowN] using this)
        go_wp2_with fail
        go_quiet (fail)
        go_wp2
        go_ret
        exact ⟨ret_nat HN.out, below_drewN HB.out _⟩
    · have c1 : decide ((k : Int) < (s.size : Int)) = false := by simpa using hlt
      have HN := Lib.hid (show k = R by have := HRR.out; rw [Rl.rowN_no _ _ _ _ (fun hk => by rw [llen] at hk; omega)] at this; omega)
      go_wp2_with fail
      go_quiet (fail)
      go_wp2
      go_ret
      exact ⟨ret_nat HN.out, below_drewN HB.out _⟩

/-- the byte at place k, if there is one: a test on two bytes -/
theorem opt_eq (s : ByteArray) (i j : Nat) (hi : i < s.size) (hj : j < s.size) : (s.data.toList[i]? = s.data.toList[j]?) ↔ s[i] = s[j] := by
  rw [List.getElem?_eq_getElem (by rw [llen]; exact hi), List.getElem?_eq_getElem (by rw [llen]; exact hj), lget s i hi, lget s j hj]
  exact Option.some_inj
set_option maxRecDepth 100000 in
set_option maxHeartbeats 800000 in
theorem four_walk (s : ByteArray) (w : World) :
    Calls Try.prog 25 #[.string s] w fun e w' => e = .returned (.bool (Rl.four s.data.toList)) ∧ Below w.heap.size w w' := by
  by_cases h4 : 4 ≤ s.size
  · have e : Rl.four s.data.toList = (decide (s[0] = s[1]) && (decide (s[1] = s[2]) && decide (s[2] = s[3]))) := by
      unfold Rl.four
      rw [Bool.eq_iff_iff]
      simp only [decide_eq_true_eq, Bool.and_eq_true, llen, opt_eq s 0 1 (by omega) (by omega), opt_eq s 1 2 (by omega) (by omega), opt_eq s 2 3 (by omega) (by omega)]
      exact ⟨fun h => h.2, fun h => ⟨h4, h⟩⟩
    rw [e]
    have c0 : decide ((4 : Int) ≤ (s.size : Int)) = true := by simp; omega
    have l0 : (0 : Int) < (s.size : Int) := by omega
    have l1 : (1 : Int) < (s.size : Int) := by omega
    have l2 : (2 : Int) < (s.size : Int) := by omega
    have l3 : (3 : Int) < (s.size : Int) := by omega
    have n0 : 0 < s.size := by omega
    have n1 : 1 < s.size := by omega
    have n2 : 2 < s.size := by omega
    have n3 : 3 < s.size := by omega
    clear e
    by_cases h01 : s[0] = s[1]
    · have c1 := u8_eq _ _ h01
      have d1 : decide (s[0] = s[1]) = true := by simpa using h01
      rw [d1]
      by_cases h12 : s[1] = s[2]
      · have c2 := u8_eq _ _ h12
        have d2 : decide (s[1] = s[2]) = true := by simpa using h12
        rw [d2]
        by_cases h23 : s[2] = s[3]
        · have c3 := u8_eq _ _ h23
          have d3 : decide (s[2] = s[3]) = true := by simpa using h23
          rw [d3]
          clear h01 h12 h23 d1 d2 d3
          go_enter Try.func25, Try.ntmps25
          go_wp2_with fail
          go_quiet (fail)
          go_wp2
          go_ret
          exact ⟨rfl, below_drewN (Below.refl _ _) _⟩
        · have c3 := u8_ne _ _ h23
          have d3 : decide (s[2] = s[3]) = false := by simpa using h23
          rw [d3]
          clear h01 h12 h23 d1 d2 d3
          go_enter Try.func25, Try.ntmps25
          go_wp2_with fail
          go_quiet (fail)
          go_wp2
          go_ret
          exact ⟨rfl, below_drewN (Below.refl _ _) _⟩
      · have c2 := u8_ne _ _ h12
        have d2 : decide (s[1] = s[2]) = false := by simpa using h12
        rw [d2]
        clear h01 h12 d1 d2
        go_enter Try.func25, Try.ntmps25
        go_wp2_with fail
        go_quiet (fail)
        go_wp2
        go_ret
        exact ⟨rfl, below_drewN (Below.refl _ _) _⟩
    · have c1 := u8_ne _ _ h01
      have d1 : decide (s[0] = s[1]) = false := by simpa using h01
      rw [d1]
      clear h01 d1
      go_enter Try.func25, Try.ntmps25
      go_wp2_with fail
      go_quiet (fail)
      go_wp2
      go_ret
      exact ⟨rfl, below_drewN (Below.refl _ _) _⟩
  · have e : Rl.four s.data.toList = false := by
      unfold Rl.four
      apply decide_eq_false
      rw [llen]
      exact fun h => h4 h.1
    rw [e]
    have c0 : decide ((4 : Int) ≤ (s.size : Int)) = false := by simp; omega
    clear e h4
    go_enter Try.func25, Try.ntmps25
    go_wp2_with fail
    go_quiet (fail)
    go_wp2
    go_ret
    exact ⟨rfl, below_drewN (Below.refl _ _) _⟩

/-! a piece as bytes -/
def pv (p : Rl.Pc) : Value := .agg #[vB p.b, .int .i64 (p.n : Int)]
/-- one byte as a string -/
def b1 (b : UInt8) : ByteArray := ⟨#[b]⟩
end Go.Proofs.Ytaldcdgafljedaa
