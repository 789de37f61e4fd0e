/- The case that each statement asks; nil splitters; the first laws. -/
import Derived.Test.YtaldcdgafljedaaSplWalk8
import Derived.KernelRfl
namespace Go.Proofs.Ytaldcdgafljedaa
open Go.RowKit
set_option linter.unusedVariables false
set_option linter.unusedSimpArgs false

def aaaab : ByteArray := ⟨#[97, 97, 97, 97, 98]⟩
theorem five_blks : Sp.blks 5 [97, 97, 97, 97, 98] = [[⟨97, 4⟩], [⟨98, 1⟩]] := by kernel_rfl
theorem five_cells : ([[⟨97, 4⟩], [⟨98, 1⟩]] : List (List Rl.Pc)).flatMap bcells = [.string ⟨#[97, 97, 97, 97, 0]⟩, .int .u32 ((Crc.sumOf [97, 97, 97, 97]).toNat : Int), .int .i64 4, .string ⟨#[98]⟩, .int .u32 ((Crc.sumOf [98]).toNat : Int), .int .i64 1] := rfl
set_option maxRecDepth 100000 in
set_option maxHeartbeats 1600000 in
theorem five_walk (w : World) : Calls Try.prog 10 #[] w fun e w' => e = .returned (.bool true) ∧ Below w.heap.size w w' := by
  have hof : ∀ w : World, Calls Try.prog 11 #[.string ⟨#[97, 97, 97, 97, 98]⟩, .int .i64 5] w fun e w' => ∃ out, e = .returned (.tuple #[out, .int .i64 0]) ∧ w'.ownsRow w.heap.size 37 3 out 2 [.string ⟨#[97, 97, 97, 97, 0]⟩, .int .u32 ((Crc.sumOf [97, 97, 97, 97]).toNat : Int), .int .i64 4, .string ⟨#[98]⟩, .int .u32 ((Crc.sumOf [98]).toNat : Int), .int .i64 1] ∧ Below w.heap.size w w' := fun w => by
    have := sof_walk ⟨#[97, 97, 97, 97, 98]⟩ 5 w (by decide) (by decide)
    rw [show (⟨#[97, 97, 97, 97, 98]⟩ : ByteArray).data.toList = [97, 97, 97, 97, 98] from rfl, five_blks, five_cells] at this
    exact this
  have HOF := Lib.hid hof
  have HR := Lib.hid (fun w => sroom_walk 9 100000 w)
  rw [show roomOf 9 100000 = (899981, 0) by decide] at HR
  clear hof
  go_enter Try.func10, Try.ntmps10
  go_wp2_with fail
  (with_reducible refine (HOF.out _).mono ?_)
  rintro e w1 ⟨out, rfl, ho, hb⟩
  obtain ⟨g, cap, rfl, -, -⟩ := ho.form (by decide)
  obtain ⟨a, c, hac, hrow, -⟩ := rowS_owns ho
  obtain ⟨rfl, rfl⟩ : a = some ⟨g, 0, none⟩ ∧ c = cap := by injection hac with h1 h2 h3; exact ⟨h1.symm, h3.symm⟩
  obtain ⟨b', off, hb', -, hc0⟩ := hrow.at 0 (by decide)
  obtain ⟨rfl, rfl⟩ : b' = g ∧ off = 0 := by injection hb' with h1; injection h1 with h1 h2; exact ⟨h1.symm, h2.symm⟩
  obtain ⟨b1, off1, hb1, -, hc1⟩ := hrow.at 1 (by decide)
  obtain ⟨rfl, rfl⟩ : b1 = b' ∧ off1 = 0 := by injection hb1 with h1; injection h1 with h1 h2; exact ⟨h1.symm, h2.symm⟩
  have x0 := hc0 0 (by decide); have x2 := hc0 2 (by decide); have x3 := hc1 0 (by decide)
  simp only [List.getD_cons_zero, List.getD_cons_succ, Nat.zero_mul, Nat.one_mul, Nat.zero_add, Nat.add_zero] at x0 x2 x3
  have HB := Lib.hid hb
  clear hac hrow hb' hc0 hb1 hc1 ho hb HOF
  go_wp2_with fail
  (with_reducible refine (HR.out _).mono ?_)
  rintro e w2 ⟨rfl, rfl⟩
  go_wp2
  go_ret
  exact ⟨rfl, HB.out⟩
set_option maxRecDepth 100000 in
set_option maxHeartbeats 800000 in
theorem sput_nil (c : Int) (w : World) : Calls Try.prog 19 #[.pointer none, .int .u8 c] w fun e w' => e = .returned (.tuple #[.agg #[.string ⟨#[]⟩, .int .u32 0, .int .i64 0], .bool false]) ∧ Below w.heap.size w w' := by
  go_enter Try.func19, Try.ntmps19
  go_wp2
  refine bodyPost_ret (v := .tuple #[.agg #[.string ⟨#[]⟩, .int .u32 0, .int .i64 0], .bool false]) (by rw [results_cell_tmp (fn := Try.f19) rfl]; go_simp) rfl ?_
  refine ⟨rfl, ?_⟩
  (repeat (first | exact (Below.refl _ _).alloc (Nat.le_refl _) _ | refine Below.setCell ?_ (by first | exact Nat.le_refl _ | exact Nat.le_succ _) _))
set_option maxRecDepth 100000 in
set_option maxHeartbeats 800000 in
theorem send_nil (w : World) : Calls Try.prog 22 #[.pointer none] w fun e w' => e = .returned (.slice none 0 0) ∧ w = w' := by
  go_enter Try.func22, Try.ntmps22
  go_wp2
  go_ret
  exact ⟨rfl, rfl⟩
set_option maxRecDepth 100000 in
set_option maxHeartbeats 800000 in
theorem sheld_nil (w : World) : Calls Try.prog 21 #[.pointer none] w fun e w' => e = .returned (.int .i64 0) ∧ w = w' := by
  go_enter Try.func21, Try.ntmps21
  go_wp2
  go_ret
  exact ⟨rfl, rfl⟩
set_option maxRecDepth 100000 in
set_option maxHeartbeats 800000 in
theorem splitNil_walk (c : Int) (w : World) (_ : (Lit.int .u8 c).wf = true) : Calls Try.prog 8 #[.int .u8 c] w fun e w' => e = .returned (.bool true) ∧ Below w.heap.size w w' := by
  go_enter Try.func8, Try.ntmps8
  go_wp2_with fail
  (with_reducible refine (sput_nil c _).mono ?_)
  rintro e w1 ⟨rfl, hb1⟩
  go_upto_region 3 with (fail)
  have HX := Lib.hid (Has.new w1 #[.string ⟨#[]⟩, .int .u32 0, .int .i64 0] 37)
  have HB := Lib.hid (hb1.alloc hb1.size (.cells #[.string ⟨#[]⟩, .int .u32 0, .int .i64 0] 37))
  clear hb1
  generalize w1.heap.size = r at *
  generalize w1.alloc (.cells #[.string ⟨#[]⟩, .int .u32 0, .int .i64 0] 37) = w2 at *
  have c0 := HX.out.cell 0
  simp only [List.getElem?_toArray, List.getElem?_cons_zero] at c0
  go_wp2_with fail
  (with_reducible refine (send_nil _).mono ?_)
  rintro e w3 ⟨rfl, rfl⟩
  go_wp2_with fail
  (with_reducible refine (sheld_nil _).mono ?_)
  rintro e w3 ⟨rfl, rfl⟩
  go_wp2_with fail
  (with_reducible refine (five_walk _).mono ?_)
  rintro e w4 ⟨rfl, hb4⟩
  have HB4 := Lib.hid (HB.out.trans (hb4.mono HB.out.size))
  clear hb4
  go_wp2
  go_ret
  exact ⟨rfl, HB4.out⟩
theorem roomOf_ok (l u : Int) (h : ¬ (l < 1 ∨ 9 < l ∨ u < 24 ∨ 100000 < u)) : roomOf l u = (l * u - 19, 0) := if_neg h
theorem roomOf_bad (l u : Int) (h : l < 1 ∨ 9 < l ∨ u < 24 ∨ 100000 < u) : roomOf l u = (0, 1) := if_pos h
set_option maxRecDepth 100000 in
set_option maxHeartbeats 1600000 in
theorem splitRoom_walk (l u : Int) (w : World) (_ : (Lit.int .i64 l).wf = true) (_ : (Lit.int .i64 u).wf = true) : Calls Try.prog 3 #[.int .i64 l, .int .i64 u] w fun e w' => e = .returned (.bool true) ∧ Below w.heap.size w w' := by
  have HR := Lib.hid (fun w => sroom_walk l u w)
  by_cases hbad : l < 1 ∨ 9 < l ∨ u < 24 ∨ 100000 < u
  · rw [roomOf_bad l u hbad] at HR
    by_cases h1 : l < 1
    · have e1 : decide (l < 1) = true := by simpa using h1
      clear h1 hbad
      go_enter Try.func3, Try.ntmps3
      go_wp2_with fail
      (with_reducible refine (HR.out _).mono ?_)
      rintro e w1 ⟨rfl, rfl⟩
      go_wp2_with fail
      (with_reducible refine (five_walk _).mono ?_)
      rintro e w2 ⟨rfl, hb2⟩
      go_wp2
      go_ret
      exact ⟨rfl, hb2⟩
    · have e1 : decide (l < 1) = false := by simpa using h1
      by_cases h2 : 9 < l
      · have e2 : decide (9 < l) = true := by simpa using h2
        clear h1 h2 hbad
        go_enter Try.func3, Try.ntmps3
        go_wp2_with fail
        (with_reducible refine (HR.out _).mono ?_)
        rintro e w1 ⟨rfl, rfl⟩
        go_wp2_with fail
        (with_reducible refine (five_walk _).mono ?_)
        rintro e w2 ⟨rfl, hb2⟩
        go_wp2
        go_ret
        exact ⟨rfl, hb2⟩
      · have e2 : decide (9 < l) = false := by simpa using h2
        by_cases h3 : u < 24
        · have e3 : decide (u < 24) = true := by simpa using h3
          clear h1 h2 h3 hbad
          go_enter Try.func3, Try.ntmps3
          go_wp2_with fail
          (with_reducible refine (HR.out _).mono ?_)
          rintro e w1 ⟨rfl, rfl⟩
          go_wp2_with fail
          (with_reducible refine (five_walk _).mono ?_)
          rintro e w2 ⟨rfl, hb2⟩
          go_wp2
          go_ret
          exact ⟨rfl, hb2⟩
        · have e3 : decide (u < 24) = false := by simpa using h3
          have e4 : decide (100000 < u) = true := by simp; omega
          clear h1 h2 h3 hbad
          go_enter Try.func3, Try.ntmps3
          go_wp2_with fail
          (with_reducible refine (HR.out _).mono ?_)
          rintro e w1 ⟨rfl, rfl⟩
          go_wp2_with fail
          (with_reducible refine (five_walk _).mono ?_)
          rintro e w2 ⟨rfl, hb2⟩
          go_wp2
          go_ret
          exact ⟨rfl, hb2⟩
  · rw [roomOf_ok l u hbad] at HR
    have e1 : decide (l < 1) = false := by simp; omega
    have e2 : decide (9 < l) = false := by simp; omega
    have e3 : decide (u < 24) = false := by simp; omega
    have e4 : decide (100000 < u) = false := by simp; omega
    have hm1 : 0 ≤ l * u := Int.mul_nonneg (by omega) (by omega)
    have hm2 : l * u ≤ 9 * 100000 := Int.mul_le_mul (by omega) (by omega) (by omega) (by omega)
    clear hbad
    go_enter Try.func3, Try.ntmps3
    go_wp2_with fail
    (with_reducible refine (HR.out _).mono ?_)
    rintro e w1 ⟨rfl, rfl⟩
    go_wp2_with fail
    (with_reducible refine (five_walk _).mono ?_)
    rintro e w2 ⟨rfl, hb2⟩
    go_wp2
    go_ret
    exact ⟨rfl, hb2⟩
end Go.Proofs.Ytaldcdgafljedaa
