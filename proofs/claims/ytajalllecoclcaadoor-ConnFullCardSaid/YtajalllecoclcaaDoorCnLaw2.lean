/- A connection opens 1024 jobs at most. -/
import Derived.Test.YtajalllecoclcaaDoorCnKey
namespace Go.Proofs.YtajalllecoclcaaDoor
open Go.RowKit
set_option linter.unusedVariables false
set_option linter.unusedSimpArgs false

namespace Cn
theorem openK_t : Pr.openK ⟨#[116]⟩ = (3, 0) := by kernel_rfl
def lgn : Act := ⟨2, 0, 0, 0, 0, 0, ⟨#[]⟩, 0⟩
def fullA (k : Nat) : Act := if k < 1024 then ⟨3, k, 0, 3, 0, 0, ⟨#[]⟩, 0⟩ else ⟨1, k, 0, 0, 0, 0, ⟨#[]⟩, 5⟩
def full (k : Nat) : List Act := lgn :: (List.range k).map fullA
theorem full_succ (k : Nat) : full (k + 1) = full k ++ [fullA k] := by simp [full, List.range_succ]
theorem full_tenant (k : Nat) : tenant (full k) = 0 := by simp [full, tenant, lgn]
theorem fullA_job (k : Nat) : (fullA k).job = k := by unfold fullA; split <;> rfl
theorem full_had (k j : Nat) (h : k ≤ j) : had (full k) 3 j = false := by
  induction k with
  | zero => simp [full, had, lgn]
  | succ k ih => rw [full_succ, had_no _ _ _ _ (.inr (by rw [fullA_job]; omega))]; exact ih (by omega)
theorem full_opened (k : Nat) : opened (full k) = min k 1024 := by
  induction k with
  | zero => simp [full, opened, lgn]
  | succ k ih =>
    rw [full_succ, opened_app, ih]
    unfold fullA
    by_cases c : k < 1024
    · rw [if_pos c]; simp only [if_true]; omega
    · rw [if_neg c]; simp only [if_false, show ¬ ((1 : Int) = 3) by decide]; omega
theorem full_rd (k : Nat) (h : k < 1100) : Pr.rd ⟨2, k, ⟨#[116]⟩⟩ = some ⟨2, k, Pr.e0, Pr.e0, 3, 0, 0⟩ := by
  rw [rd_2 _ _ (decide_eq_true ⟨by show (0 : Int) ≤ k; omega, by show (k : Int) ≤ 4294967295; omega, Nat.le_trans (show (⟨#[116]⟩ : ByteArray).size ≤ 1 from Nat.le_refl _) (by decide)⟩), openK_t]
  rfl
theorem full_step (k : Nat) (h : k < 1100) : step [annT] (full k) ⟨2, k, ⟨#[116]⟩⟩ = fullA k := by
  unfold step
  rw [full_tenant, if_neg (by decide), full_rd k h]
  show act (full k) _ = _
  unfold act
  rw [if_neg (by simp only; decide), if_pos rfl]
  unfold opn
  simp only
  rw [if_neg (by rw [full_had k k (Nat.le_refl _)]; decide), full_opened]
  unfold fullA
  by_cases c : k < 1024
  · rw [if_neg (by omega), if_pos c]; rfl
  · rw [if_pos (by omega), if_neg c]; rfl
theorem full_wrap (k q : Nat) (h : q < 1100) (hk : k < q) : wrap64 ((k : Int) + 1) = (k : Int) + 1 := by unfold wrap64; omega
theorem full_min (q : Nat) : min (q : Int) 1024 = ((min q 1024 : Nat) : Int) := by omega
theorem full_mod (n : Nat) : (n : Int) % 1100 = ((n % 1100 : Nat) : Int) := by omega
theorem full_zero : full 0 = [] ++ [⟨2, 0, 0, 0, 0, 0, ⟨#[]⟩, 0⟩] := rfl
theorem full_ge (k : Nat) (h : ¬ k < 1024) : (1024 : Int) ≤ (k : Int) := by omega
theorem full_lt (k : Nat) (h : k < 1024) : ¬ (1024 : Int) ≤ (k : Int) := by omega
theorem fullA_lt (k : Nat) (h : k < 1024) : fullA k = ⟨3, k, 0, 3, 0, 0, ⟨#[]⟩, 0⟩ := if_pos h
theorem fullA_ge (k : Nat) (h : ¬ k < 1024) : fullA k = ⟨1, k, 0, 0, 0, 0, ⟨#[]⟩, 5⟩ := if_neg h
end Cn
theorem full_meas (k q : Nat) (h : k < q) : q - (intOf (Value.int .i64 ((k : Int) + 1))).toNat < q - (intOf (Value.int .i64 (k : Int))).toNat := by simp [intOf]; omega
set_option maxRecDepth 100000 in
set_option maxHeartbeats 1600000 in
theorem connFull_walk (n : Int) (w : World) (hn : (Lit.int .u16 n).wf = true) (hT : Tabs w) :
    Calls Tryd.prog 5 #[.int .u16 n] w fun r w' => r = .returned (.bool true) ∧ Below w.heap.size w w' := by
  have HT := Lib.hid hT
  clear hT
  have hn1 : 0 ≤ n ∧ n ≤ 65535 := by simpa [Lit.wf, IntKind.min, IntKind.max, IntKind.signed, IntKind.bits] using hn
  obtain ⟨n, rfl⟩ := Int.eq_ofNat_of_zero_le hn1.1
  have hq := Cn.full_mod n
  have hq2 : n % 1100 < 1100 := Nat.mod_lt _ (by decide)
  go_enter Tryd.func5, Tryd.ntmps5
  go_upto_region 2 with (fail)
  rw [hq]
  clear hq hn1 hn
  generalize n % 1100 = q at *
  have HQ := Lib.hid hq2
  clear hq2
  go_wp2_with fail
  (with_reducible refine (little_walk _).mono ?_)
  rintro r1 w1 ⟨a1, cap1, rfl, hr1, hb1⟩
  have HR1 := Lib.hid hr1
  have HB1 := Lib.hid hb1
  clear hr1 hb1
  go_wp2_with fail
  (with_reducible refine (new_on w _ _ _ HB1.out HR1.out HT.out).mono ?_)
  rintro r2 w2 ⟨b, m, a, cap, rfl, ho, -, -⟩
  have HO := Lib.hid ho
  clear ho HB1 HR1
  go_wp2_with fail
  with_reducible refine (step_on 1 0 ⟨#[107, 101, 121]⟩ HO.out (by decide) ann_small HT.out _ Cn.key4).mono ?_
  rintro r3 w3 ⟨rfl, ho, hc⟩
  have HO3 := Lib.hid ho
  have HC3 := Lib.hid hc
  clear ho hc
  clear HO HC3
  have HO := HO3
  rw [← Cn.full_zero] at HO
  clear HO3
  go_wp2_with fail
  go_loopw [22] (fun vi wr => ∃ (k : Nat), k ≤ q ∧ vi = .int .i64 k ∧ On w wr b m a cap [Cn.annT] (Cn.full k)) (fun i _ => q - (intOf i).toNat)
  case atStart => exact ⟨0, Nat.zero_le _, rfl, HO.out⟩
  case round =>
    obtain ⟨k, hk, rfl, ho⟩ := hrel
    clear HO
    have HO := Lib.hid ho
    clear ho
    by_cases hlt : k < q
    · have hlt' : (k : Int) < (q : Int) := by omega
      have hst := Cn.full_step k (Nat.lt_trans hlt HQ.out)
      by_cases c : k < 1024
      · have c' := Cn.full_lt k c
        rw [Cn.fullA_lt k c] at hst
        have HN := Lib.hid (show Cn.full (k + 1) = Cn.full k ++ [⟨3, k, 0, 3, 0, 0, ⟨#[]⟩, 0⟩] by rw [Cn.full_succ, Cn.fullA_lt k c])
        have HS := Lib.hid hst
        clear hst c
        go_wp2_with fail
        with_reducible refine (step_on 2 _ ⟨#[116]⟩ HO.out (by decide) ann_small HT.out _ HS.out).mono ?_
        rintro r4 w4 ⟨rfl, ho, hc⟩
        have HO4 := Lib.hid ho
        have HC4 := Lib.hid hc
        clear ho hc
        rw [← HN.out] at HO4
        clear HO HC4 HS HN
        go_upto_region 11 with (fail)
        have HU := Lib.hid (U2.new w4 [] #[.int .i64 3, .int .i64 (k : Int), .int .i64 0, .int .i64 3, .int .i64 0, .int .i64 0, .string ⟨#[]⟩, .int .i64 0] #[.int .i64 3, .int .i64 (k : Int), .int .i64 0, .int .i64 3, .int .i64 0, .int .i64 0, .string ⟨#[]⟩, .int .i64 0] 38 38)
        have HB := Lib.hid (two_below w4 (.cells #[.int .i64 3, .int .i64 (k : Int), .int .i64 0, .int .i64 3, .int .i64 0, .int .i64 0, .string ⟨#[]⟩, .int .i64 0] 38) (.cells #[.int .i64 3, .int .i64 (k : Int), .int .i64 0, .int .i64 3, .int .i64 0, .int .i64 0, .string ⟨#[]⟩, .int .i64 0] 38))
        generalize (w4.alloc (.cells #[.int .i64 3, .int .i64 (k : Int), .int .i64 0, .int .i64 3, .int .i64 0, .int .i64 0, .string ⟨#[]⟩, .int .i64 0] 38)).alloc (.cells #[.int .i64 3, .int .i64 (k : Int), .int .i64 0, .int .i64 3, .int .i64 0, .int .i64 0, .string ⟨#[]⟩, .int .i64 0] 38) = w5 at *
        have x0 := HU.out.hp.cell 0; have x1 := HU.out.hp.cell 1; have x2 := HU.out.hp.cell 2; have x3 := HU.out.hp.cell 3; have x4 := HU.out.hp.cell 4; have x5 := HU.out.hp.cell 5; have x6 := HU.out.hp.cell 6; have x7 := HU.out.hp.cell 7
        have z0 := HU.out.hr.cell 0; have z1 := HU.out.hr.cell 1; have z2 := HU.out.hr.cell 2; have z3 := HU.out.hr.cell 3; have z4 := HU.out.hr.cell 4; have z5 := HU.out.hr.cell 5; have z6 := HU.out.hr.cell 6; have z7 := HU.out.hr.cell 7
        simp only [List.getElem?_toArray, List.getElem?_cons_zero, List.getElem?_cons_succ] at x0 x1 x2 x3 x4 x5 x6 x7 z0 z1 z2 z3 z4 z5 z6 z7
        go_wp2_with fail
        go_roundw
        case rel => exact ⟨k + 1, hlt, by go_num, HO4.out.keep HB.out⟩
        case measure => simp [intOf]; omega
      · have c' := Cn.full_ge k c
        rw [Cn.fullA_ge k c] at hst
        have HN := Lib.hid (show Cn.full (k + 1) = Cn.full k ++ [⟨1, k, 0, 0, 0, 0, ⟨#[]⟩, 5⟩] by rw [Cn.full_succ, Cn.fullA_ge k c])
        have HS := Lib.hid hst
        clear hst c
        go_wp2_with fail
        with_reducible refine (step_on 2 _ ⟨#[116]⟩ HO.out (by decide) ann_small HT.out _ HS.out).mono ?_
        rintro r4 w4 ⟨rfl, ho, hc⟩
        have HO4 := Lib.hid ho
        have HC4 := Lib.hid hc
        clear ho hc
        rw [← HN.out] at HO4
        clear HO HC4 HS HN
        go_upto_region 10 with (fail)
        have HU := Lib.hid (U2.new w4 [] #[.int .i64 1, .int .i64 (k : Int), .int .i64 0, .int .i64 0, .int .i64 0, .int .i64 0, .string ⟨#[]⟩, .int .i64 5] #[.int .i64 3, .int .i64 (k : Int), .int .i64 0, .int .i64 3, .int .i64 0, .int .i64 0, .string ⟨#[]⟩, .int .i64 0] 38 38)
        have HB := Lib.hid (two_below w4 (.cells #[.int .i64 1, .int .i64 (k : Int), .int .i64 0, .int .i64 0, .int .i64 0, .int .i64 0, .string ⟨#[]⟩, .int .i64 5] 38) (.cells #[.int .i64 3, .int .i64 (k : Int), .int .i64 0, .int .i64 3, .int .i64 0, .int .i64 0, .string ⟨#[]⟩, .int .i64 0] 38))
        generalize (w4.alloc (.cells #[.int .i64 1, .int .i64 (k : Int), .int .i64 0, .int .i64 0, .int .i64 0, .int .i64 0, .string ⟨#[]⟩, .int .i64 5] 38)).alloc (.cells #[.int .i64 3, .int .i64 (k : Int), .int .i64 0, .int .i64 3, .int .i64 0, .int .i64 0, .string ⟨#[]⟩, .int .i64 0] 38) = w5 at *
        have x0 := HU.out.hp.cell 0; have x1 := HU.out.hp.cell 1; have x2 := HU.out.hp.cell 2; have x3 := HU.out.hp.cell 3; have x4 := HU.out.hp.cell 4; have x5 := HU.out.hp.cell 5; have x6 := HU.out.hp.cell 6; have x7 := HU.out.hp.cell 7
        have z0 := HU.out.hr.cell 0; have z1 := HU.out.hr.cell 1; have z2 := HU.out.hr.cell 2; have z3 := HU.out.hr.cell 3; have z4 := HU.out.hr.cell 4; have z5 := HU.out.hr.cell 5; have z6 := HU.out.hr.cell 6; have z7 := HU.out.hr.cell 7
        simp only [List.getElem?_toArray, List.getElem?_cons_zero, List.getElem?_cons_succ] at x0 x1 x2 x3 x4 x5 x6 x7 z0 z1 z2 z3 z4 z5 z6 z7
        have hw : wrap64 ((k : Int) + 1) = (k : Int) + 1 := Cn.full_wrap k q HQ.out hlt
        have g0 := HU.out.hr.free 0; have g1 := HU.out.hr.free 1; have g2 := HU.out.hr.free 2; have g3 := HU.out.hr.free 3; have g4 := HU.out.hr.free 4; have g5 := HU.out.hr.free 5; have g6 := HU.out.hr.free 6; have g7 := HU.out.hr.free 7
        go_wp2_with fail
        go_roundw
        case rel =>
          refine ⟨k + 1, hlt, by go_num, HO4.out.keep ?_⟩
          (repeat (first | (with_reducible exact HB.out) | refine Below.setCell ?_ (by first | exact Nat.le_refl _ | exact Nat.le_succ _) _))
        case measure => rw [hw]; exact full_meas k q hlt
    · have hlt' : ¬ (k : Int) < (q : Int) := by omega
      have hkq : k = q := by omega
      subst hkq
      have hmin := Cn.full_min k
      go_wp2_with fail
      with_reducible refine (opened_walk _ _ _ _ _ _ _ HO.out.is).mono ?_
      rintro r5 w5 ⟨rfl, hb5⟩
      have HO5 := Lib.hid (HO.out.keep hb5)
      clear hb5 HO
      rw [Cn.full_opened]
      go_wp2_with fail
      with_reducible refine (key_walk _ (HT.out.keep HO5.out.below)).mono ?_
      rintro r6 w6 ⟨rfl, hb6⟩
      have HB6 := Lib.hid (HO5.out.below.trans (hb6.mono HO5.out.below.size))
      clear hb6
      go_wp2
      go_ret
      exact ⟨rfl, HB6.out⟩
end Go.Proofs.YtajalllecoclcaaDoor
