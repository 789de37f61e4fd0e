/- Walks of package frame and of its reference: types, numbers. -/
import Derived.Test.YtajalllecoclcaaDoorFrameMath
import Derived.Test.YtajalllecoclcaaDoorRows
import Derived.Test.YtajalllecoclcaaDoorRowAt
import Derived.Test.YtajalllecoclcaaDoorLater
import Derived.Handy
namespace Go.Proofs.YtajalllecoclcaaDoor
open Go.RowKit

/-- a frame as a value -/
def fv (f : Fr.Frm) : Value := .agg #[.int .i64 f.t, .int .i64 f.j, .string f.d]

theorem mayT_split (t : Int) : Fr.mayT t = (decide (1 ≤ t ∧ t ≤ 7) || decide (65 ≤ t ∧ t ≤ 70)) := by
  unfold Fr.mayT; rw [Bool.eq_iff_iff]; simp
theorem vB_of (m : Nat) (x : Int) (h : x = ((m % 256 : Nat) : Int)) : Value.int .u8 x = vB (UInt8.ofNat m) := by
  unfold vB; rw [h, UInt8.toNat_ofNat']
theorem rowAt_new (w : World) (l : List UInt8) (T : TypeId) (hm : l.length ≤ maxLen) : RowAt (w.alloc (.cells (l.map vB).toArray T)) (some ⟨w.heap.size, 0, none⟩) l.length l.length (l.map vB) :=
  ⟨Nat.le_refl _, hm, by simp, (fun e => nomatch e), fun x hx _ => by
    cases hx
    refine ⟨w.heap.size, 0, rfl, fun i hi => ?_⟩
    rw [Nat.zero_add, (Has.new w _ _).cell]
    simp [hi]⟩
theorem put_cells (n : Nat) (h : n < 4294967296) : #[Value.int IntKind.u8 ((n : Int) / 16777216), Value.int IntKind.u8 ((n : Int) / 65536 % 256), Value.int IntKind.u8 ((n : Int) / 256 % 256), Value.int IntKind.u8 ((n : Int) % 256)] = ((Fr.put4 n).map vB).toArray := by
  unfold Fr.put4
  rw [vB_of (n / 16777216) _ (by omega), vB_of (n / 65536) _ (by omega), vB_of (n / 256) _ (by omega), vB_of n _ (by omega)]
  rfl
/-! the number of four bytes -/
theorem getD_idx (s : ByteArray) (i : Nat) (h : i < s.size) : s.data.toList.getD i 0 = s[i] := by
  rw [List.getD_eq_getElem?_getD, List.getElem?_eq_getElem (by simpa using h)]; rfl
theorem or_low (a : Nat) (c : Nat) (ha : a < 16777216) (hc : c < 256) : bits .or .i64 ((a : Int) * 256) (c : Int) = ((a * 256 + c : Nat) : Int) := by
  have e1 : (BitVec.ofInt 64 ((a : Int) * 256)).toNat = a * 256 := by
    have := ofInt_u64 (a * 256) (by omega)
    rw [show ((a * 256 : Nat) : Int) = (a : Int) * 256 from by omega] at this
    exact this
  have e2 : (BitVec.ofInt 64 (c : Int)).toNat = c := ofInt_u64 c (by omega)
  have e3 : (a * 256) ||| c = a * 256 + c := nat_join 8 (a * 256) c (by omega) hc
  unfold bits
  show IntKind.i64.wrap ((BitVec.ofInt 64 ((a : Int) * 256) ||| BitVec.ofInt 64 (c : Int)).toNat : Int) = _
  rw [BitVec.toNat_or, e1, e2, e3]
  exact IntWalk.i64_in _ (by omega)
set_option maxRecDepth 100000 in
set_option maxHeartbeats 800000 in
theorem number_walk (s : ByteArray) (w : World) (hs : 4 ≤ s.size) :
    Calls Tryd.prog 57 #[.string s] w fun e w' => e = .returned (.int .i64 (Fr.num4 s.data.toList : Int)) ∧ w = w' := by
  have h0 := s[0].toNat_lt
  have h1 := s[1].toNat_lt
  have h2 := s[2].toNat_lt
  have h3 := s[3].toNat_lt
  have e0 := or_low 0 s[0].toNat (by omega) h0
  rw [show ((0 : Nat) : Int) * 256 = 0 from rfl, Nat.zero_mul, Nat.zero_add] at e0
  have e1 := or_low s[0].toNat s[1].toNat (by omega) h1
  obtain ⟨n1, hn1⟩ : ∃ n, n = s[0].toNat * 256 + s[1].toNat := ⟨_, rfl⟩
  have b1 : n1 < 65536 := by omega
  rw [← hn1] at e1
  have e2 := or_low n1 s[2].toNat (by omega) h2
  obtain ⟨n2, hn2⟩ : ∃ n, n = n1 * 256 + s[2].toNat := ⟨_, rfl⟩
  have b2 : n2 < 16777216 := by omega
  rw [← hn2] at e2
  have e3 := or_low n2 s[3].toNat (by omega) h3
  obtain ⟨n3, hn3⟩ : ∃ n, n = n2 * 256 + s[3].toNat := ⟨_, rfl⟩
  have b3 : n3 < 4294967296 := by omega
  rw [← hn3] at e3
  have hfin : Fr.num4 s.data.toList = n3 := by
    unfold Fr.num4
    rw [getD_idx s 0 (by omega), getD_idx s 1 (by omega), getD_idx s 2 (by omega), getD_idx s 3 (by omega), hn3, hn2, hn1]
  have Hfin := Lib.hid hfin
  clear hfin hn1 hn2 hn3
  go_enter Tryd.func57, Tryd.ntmps57
  go_wp2
  go_rounds 5
  go_ret
  exact ⟨by rw [Hfin.out]; rfl, rfl⟩
set_option maxRecDepth 100000 in
set_option maxHeartbeats 800000 in
theorem refnumber_walk (s : ByteArray) (w : World) (hs : 4 ≤ s.size) :
    Calls Tryd.prog 52 #[.string s] w fun e w' => e = .returned (.int .i64 (Fr.num4 s.data.toList : Int)) ∧ Below w.heap.size w w' := by
  have h0 := s[0].toNat_lt
  have h1 := s[1].toNat_lt
  have h2 := s[2].toNat_lt
  have h3 := s[3].toNat_lt
  have hfin : (Fr.num4 s.data.toList : Int) = (s[0].toNat : Int) * 16777216 + (s[1].toNat : Int) * 65536 + (s[2].toNat : Int) * 256 + (s[3].toNat : Int) := by
    unfold Fr.num4
    rw [getD_idx s 0 (by omega), getD_idx s 1 (by omega), getD_idx s 2 (by omega), getD_idx s 3 (by omega)]
    omega
  have Hfin := Lib.hid hfin
  clear hfin
  have j0 : 0 < s.size := by omega
  have j1 : 1 < s.size := by omega
  have j2 : 2 < s.size := by omega
  have j3 : 3 < s.size := by omega
  have i0 : (0 : Int) < (s.size : Int) := by omega
  have i1 : (1 : Int) < (s.size : Int) := by omega
  have i2 : (2 : Int) < (s.size : Int) := by omega
  have i3 : (3 : Int) < (s.size : Int) := by omega
  go_enter Tryd.func52, Tryd.ntmps52
  go_wp2_with fail
  refine region_later 19 (by kernel_rfl) (by kernel_rfl) ?_
  simp only [List.take_succ_cons, List.take_zero, List.drop_succ_cons, List.drop_zero]
  repeat (go_big_quiet_step (fail))
  refine wpQuiet_nil ?_
  rintro w' ⟨x, rfl⟩
  have hb4 := x.below
  generalize x.at = w4 at *
  go_wp2
  go_ret
  exact ⟨by rw [Hfin.out]; rfl, hb4⟩
set_option maxRecDepth 100000 in
theorem xnumber_walk (s : ByteArray) (w : World) :
    Calls Tryd.prog 43 #[.string s] w fun e w' => e = .returned (.tuple #[.int .i64 (if s.size = 4 then (Fr.num4 s.data.toList : Int) else 0), .int .i64 (if s.size = 4 then 0 else 1)]) ∧ w = w' := by
  by_cases h : s.size = 4
  · rw [if_pos h, if_pos h]
    have H := Lib.hid (number_walk s w (by omega))
    have hq : ((s.size : Int) != 4) = false := by rw [h]; rfl
    clear h
    go_enter Tryd.func43, Tryd.ntmps43
    go_wp2_with fail
    refine H.out.mono ?_
    rintro e w1 ⟨rfl, rfl⟩
    go_wp2
    go_ret2
    exact ⟨rfl, rfl⟩
  · rw [if_neg h, if_neg h]
    have hq : ((s.size : Int) != 4) = true := by rw [bne_iff_ne]; omega
    clear h
    go_enter Tryd.func43, Tryd.ntmps43
    go_wp2
    go_ret2
    exact ⟨rfl, rfl⟩
end Go.Proofs.YtajalllecoclcaaDoor
