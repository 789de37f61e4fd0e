/- The law's small case; a nil parser. -/
import Derived.Test.YtngheokngonhjaaParWalk3
namespace Go.Proofs.Ytngheokngonhjaa
open Go.RowKit

def par_a : ByteArray := ⟨#[4, 0, 0, 0, 7, 0, 0, 0]⟩
def par_b : ByteArray := ⟨#[0, 1]⟩
def par_0 : Ps := ⟨9, ⟨#[]⟩, 0⟩
def par_1 : Ps := ⟨9, ⟨#[4, 0, 0, 0, 7, 0, 0, 0]⟩, 0⟩
def par_2 : Ps := ⟨9, ⟨#[4, 0, 0, 0, 7, 0, 0, 0, 0]⟩, 0⟩
theorem par_f1 : feedN par_0 par_a = 8 ∧ feed par_0 par_a = par_1 := ⟨by kernel_rfl, by kernel_rfl⟩
theorem par_n1 : nextV par_1 = ⟨zeroF, false, 0⟩ ∧ nextP par_1 = par_1 := ⟨by kernel_rfl, by kernel_rfl⟩
theorem par_f2 : feedN par_1 par_b = 1 ∧ feed par_1 par_b = par_2 := ⟨by kernel_rfl, by kernel_rfl⟩
theorem par_n2 : nextV par_2 = ⟨⟨4, 7, ⟨#[]⟩⟩, true, 0⟩ ∧ nextP par_2 = par_0 := ⟨by kernel_rfl, by kernel_rfl⟩

set_option maxRecDepth 100000 in
set_option maxHeartbeats 1600000 in
theorem end34_walk (w : World) : Calls Try.prog 7 #[] w fun e w' => e = .returned (.bool true) ∧ Below w.heap.size w w' := by
  have C1 := Lib.hid (fun b w h => feed_walk b par_0 par_a w h (by decide) (by decide) (by decide))
  rw [par_f1.1, par_f1.2] at C1
  have C2 := Lib.hid (fun b w h => next_walk b par_1 w h (by decide) (by decide))
  rw [par_n1.1, par_n1.2] at C2
  simp only [fv, zeroF] at C2
  have C3 := Lib.hid (fun b w h => feed_walk b par_1 par_b w h (by decide) (by decide) (by decide))
  rw [par_f2.1, par_f2.2] at C3
  have C4 := Lib.hid (fun b w h => next_walk b par_2 w h (by decide) (by decide))
  rw [par_n2.1, par_n2.2] at C4
  simp only [fv] at C4
  have C0 := Lib.hid (fun w => new_ok 9 w (by decide) (by decide))
  go_enter Try.func7, Try.ntmps7
  go_wp2_with fail
  refine (C0.out _).mono ?_
  rintro e w1 ⟨rfl, hp1, hb1⟩
  have K1 := Lib.hid hb1
  go_wp2_with fail
  refine (C1.out _ _ hp1).mono ?_
  rintro e w2 ⟨rfl, hp2, hc2⟩
  have K2 := Lib.hid (K1.out.trans (hc2.below K1.out.size (by simp)))
  clear hp1 hc2 hb1
  go_wp2_with fail
  refine (C2.out _ _ hp2).mono ?_
  rintro e w3 ⟨rfl, hp3, hc3⟩
  have K3 := Lib.hid (K2.out.trans (hc3.below K2.out.size (by simp)))
  have hp3' := Has.alloc hp3 (.cells #[.int .i64 0, .int .i64 0, .string ⟨#[]⟩] 33)
  have K3' := Lib.hid (K3.out.alloc K3.out.size (.cells #[.int .i64 0, .int .i64 0, .string ⟨#[]⟩] 33))
  clear hp2 hp3 hc3
  go_wp2_with fail
  refine (C3.out _ _ hp3').mono ?_
  rintro e w4 ⟨rfl, hp4, hc4⟩
  have K4 := Lib.hid (K3'.out.trans (hc4.below K3'.out.size (by simp)))
  clear hp3' hc4
  go_wp2_with fail
  refine (C4.out _ _ hp4).mono ?_
  rintro e w5 ⟨rfl, hp5, hc5⟩
  have K5 := Lib.hid (K4.out.trans (hc5.below K4.out.size (by simp)))
  have hp5' := Has.alloc hp5 (.cells #[.int .i64 4, .int .i64 7, .string ⟨#[]⟩] 33)
  have K5' := Lib.hid (K5.out.alloc K5.out.size (.cells #[.int .i64 4, .int .i64 7, .string ⟨#[]⟩] 33))
  clear hp4 hc5 hp5
  go_wp2_with fail
  refine (held_walk _ par_0 _ hp5').mono ?_
  rintro e w6 ⟨rfl, rfl⟩
  go_wp2
  go_ret
  exact ⟨rfl, K5'.out⟩

theorem par_0z : (par_0.s.size : Int) = 0 := rfl

set_option maxRecDepth 100000 in
set_option maxHeartbeats 800000 in
theorem next_nil (w : World) : Calls Try.prog 11 #[.pointer none] w fun e w' => e = .returned (.tuple #[.agg #[.int .i64 0, .int .i64 0, .string ⟨#[]⟩], .bool false, .int .i64 7]) ∧ Below w.heap.size w w' := by
  go_enter Try.func11, Try.ntmps11
  go_wp2
  refine bodyPost_ret (v := .tuple #[.agg #[.int .i64 0, .int .i64 0, .string ⟨#[]⟩], .bool false, .int .i64 7]) (by rw [results_cell_tmp2 rfl]; go_simp) rfl ?_
  exact ⟨rfl, (Below.refl _ _).alloc (Nat.le_refl _) _⟩
set_option maxRecDepth 100000 in
set_option maxHeartbeats 800000 in
theorem feed_nil (s : ByteArray) (w : World) : Calls Try.prog 9 #[.pointer none, .string s] w fun e w' => e = .returned (.int .i64 0) ∧ w = w' := by
  go_enter Try.func9, Try.ntmps9
  go_wp2
  go_ret
  exact ⟨rfl, rfl⟩
set_option maxRecDepth 100000 in
set_option maxHeartbeats 800000 in
theorem held_nil (w : World) : Calls Try.prog 10 #[.pointer none] w fun e w' => e = .returned (.int .i64 0) ∧ w = w' := by
  go_enter Try.func10, Try.ntmps10
  go_wp2
  go_ret
  exact ⟨rfl, rfl⟩
set_option maxRecDepth 100000 in
set_option maxHeartbeats 800000 in
theorem failed_nil (w : World) : Calls Try.prog 15 #[.pointer none] w fun e w' => e = .returned (.int .i64 7) ∧ w = w' := by
  go_enter Try.func15, Try.ntmps15
  go_wp2
  go_ret
  exact ⟨rfl, rfl⟩
set_option maxRecDepth 100000 in
set_option maxHeartbeats 800000 in
theorem parserNil_walk (s : ByteArray) (w : World) (_ : s.size ≤ maxLen) :
    Calls Try.prog 5 #[.string s] w fun e w' => e = .returned (.bool true) ∧ Below w.heap.size w w' := by
  go_enter Try.func5, Try.ntmps5
  go_wp2_with fail
  refine (next_nil _).mono ?_
  rintro e w1 ⟨rfl, hb1⟩
  have K1 := Lib.hid (hb1.alloc hb1.size (.cells #[.int .i64 0, .int .i64 0, .string ⟨#[]⟩] 33))
  clear hb1
  go_wp2_with fail
  refine (feed_nil s _).mono ?_
  rintro e w2 ⟨rfl, rfl⟩
  go_wp2_with fail
  refine (held_nil _).mono ?_
  rintro e w3 ⟨rfl, rfl⟩
  go_wp2_with fail
  refine (failed_nil _).mono ?_
  rintro e w4 ⟨rfl, rfl⟩
  go_wp2_with fail
  refine (end34_walk _).mono ?_
  rintro e w5 ⟨rfl, hb5⟩
  have K5 := Lib.hid (K1.out.trans (hb5.mono K1.out.size))
  clear hb5
  go_wp2
  go_ret
  exact ⟨rfl, K5.out⟩
end Go.Proofs.Ytngheokngonhjaa
