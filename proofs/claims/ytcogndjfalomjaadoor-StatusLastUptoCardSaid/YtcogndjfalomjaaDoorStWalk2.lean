/- A status's list, and whether it may be. -/
import Derived.Test.YtcogndjfalomjaaDoorStWalk1
import Derived.Deep.CutRange
import Derived.Test.YtcogndjfalomjaaDoorRet
namespace Go.Proofs.YtcogndjfalomjaaDoor
open Go.RowKit
set_option linter.unusedVariables false

set_option maxRecDepth 100000 in
set_option maxHeartbeats 800000 in
theorem list_walk (a b c d e : Int) (w : World) : Calls Tryd.prog 23 #[.agg #[.int .i64 a, .int .i64 b, .int .i64 c, .int .i64 d, .int .i64 e]] w fun r w' => r = .returned (.agg #[.int .i64 a, .int .i64 b, .int .i64 c, .int .i64 d, .int .i64 e]) ∧ Below w.heap.size w w' := by
  go_enter Tryd.func23, Tryd.ntmps23
  go_upto_region 1 with (fail)
  have hp := (Has.new w #[.int .i64 a, .int .i64 b, .int .i64 c, .int .i64 d, .int .i64 e] 23).alloc (.cells #[.int .i64 0, .int .i64 0, .int .i64 0, .int .i64 0, .int .i64 0] 28)
  have hr := Has.new (w.alloc (.cells #[.int .i64 a, .int .i64 b, .int .i64 c, .int .i64 d, .int .i64 e] 23)) #[.int .i64 0, .int .i64 0, .int .i64 0, .int .i64 0, .int .i64 0] 28
  rw [World.size_alloc] at hr
  have HB := Lib.hid (((Below.refl w.heap.size w).alloc (Nat.le_refl _) (.cells #[.int .i64 a, .int .i64 b, .int .i64 c, .int .i64 d, .int .i64 e] 23)).alloc (by rw [World.size_alloc]; exact Nat.le_succ _) (.cells #[.int .i64 0, .int .i64 0, .int .i64 0, .int .i64 0, .int .i64 0] 28))
  generalize (w.alloc (.cells #[.int .i64 a, .int .i64 b, .int .i64 c, .int .i64 d, .int .i64 e] 23)).alloc (.cells #[.int .i64 0, .int .i64 0, .int .i64 0, .int .i64 0, .int .i64 0] 28) = w2 at *
  have p0 := hp.cell 0; have p1 := hp.cell 1; have p2 := hp.cell 2; have p3 := hp.cell 3; have p4 := hp.cell 4
  have r0 := hr.cell 0; have r1 := hr.cell 1; have r2 := hr.cell 2; have r3 := hr.cell 3; have r4 := hr.cell 4
  have f0 := hr.free 0; have f1 := hr.free 1; have f2 := hr.free 2; have f3 := hr.free 3; have f4 := hr.free 4
  have hlt := hr.lt
  simp only [List.getElem?_toArray, List.getElem?_cons_zero, List.getElem?_cons_succ] at p0 p1 p2 p3 p4 r0 r1 r2 r3 r4
  clear hp hr
  go_wp2
  ((try simp only [Exit.inBlock, Exit.then]); refine bodyPost_ret (v := (.agg #[.int .i64 a, .int .i64 b, .int .i64 c, .int .i64 d, .int .i64 e])) ?_ rfl ⟨?_, ?_⟩; (rw [results_cell1 rfl]; go_simp))
  · rfl
  · (repeat (first | (with_reducible exact HB.out) | refine Below.setCell ?_ (by first | exact Nat.le_refl _ | exact Nat.le_succ _) _))

namespace St
def mayL : List Int → Bool → Bool
  | [], r => r
  | x :: l, r => okI x && mayL l r
theorem mayL_ok (x : Int) (l : List Int) (r : Bool) (h : okI x = true) : mayL (x :: l) r = mayL l r := by show (okI x && mayL l r) = _; rw [h, Bool.true_and]
theorem mayL_no (x : Int) (l : List Int) (r : Bool) (h : ¬ okI x = true) : mayL (x :: l) r = false := by
  have h2 : okI x = false := by simpa using h
  show (okI x && mayL l r) = _; rw [h2, Bool.false_and]
end St
set_option maxRecDepth 100000 in
set_option maxHeartbeats 1600000 in
theorem may_walk41 (a b c d e : Int) (w : World) : Calls Tryd.prog 11 #[.agg #[.int .i64 a, .int .i64 b, .int .i64 c, .int .i64 d, .int .i64 e]] w fun r w' => r = .returned (.bool (St.mayL [a, b, c, d, e] (decide (c ≤ d)))) ∧ Below w.heap.size w w' := by
  have hix0 : ∀ w : World, (Instr.index 28 (.agg #[.int .i64 a, .int .i64 b, .int .i64 c, .int .i64 d, .int .i64 e]) (.int .i64 0)).run Tryd.prog w = .ok (.int .i64 a) w := fun _ => by kernel_rfl
  have hix1 : ∀ w : World, (Instr.index 28 (.agg #[.int .i64 a, .int .i64 b, .int .i64 c, .int .i64 d, .int .i64 e]) (.int .i64 1)).run Tryd.prog w = .ok (.int .i64 b) w := fun _ => by kernel_rfl
  have hix2 : ∀ w : World, (Instr.index 28 (.agg #[.int .i64 a, .int .i64 b, .int .i64 c, .int .i64 d, .int .i64 e]) (.int .i64 2)).run Tryd.prog w = .ok (.int .i64 c) w := fun _ => by kernel_rfl
  have hix3 : ∀ w : World, (Instr.index 28 (.agg #[.int .i64 a, .int .i64 b, .int .i64 c, .int .i64 d, .int .i64 e]) (.int .i64 3)).run Tryd.prog w = .ok (.int .i64 d) w := fun _ => by kernel_rfl
  have hix4 : ∀ w : World, (Instr.index 28 (.agg #[.int .i64 a, .int .i64 b, .int .i64 c, .int .i64 d, .int .i64 e]) (.int .i64 4)).run Tryd.prog w = .ok (.int .i64 e) w := fun _ => by kernel_rfl
  have HL := Lib.hid (fun w => list_walk a b c d e w)
  generalize hR : St.mayL [a, b, c, d, e] (decide (c ≤ d)) = R
  have HR := Lib.hid hR
  clear hR
  go_enter Tryd.func11, Tryd.ntmps11
  go_upto_region 1 with (fail)
  have HP := Lib.hid (Has.new w #[.int .i64 a, .int .i64 b, .int .i64 c, .int .i64 d, .int .i64 e] 23)
  have HB0 := Lib.hid ((Below.refl w.heap.size w).alloc (Nat.le_refl _) (.cells #[.int .i64 a, .int .i64 b, .int .i64 c, .int .i64 d, .int .i64 e] 23))
  obtain ⟨q, hq⟩ : ∃ q, q = w.heap.size := ⟨_, rfl⟩
  rw [← hq] at HP
  rw [← hq]
  clear hq
  generalize w.alloc (.cells #[.int .i64 a, .int .i64 b, .int .i64 c, .int .i64 d, .int .i64 e] 23) = w1 at *
  have p0 := HP.out.cell 0; have p1 := HP.out.cell 1; have p2 := HP.out.cell 2; have p3 := HP.out.cell 3; have p4 := HP.out.cell 4
  simp only [List.getElem?_toArray, List.getElem?_cons_zero, List.getElem?_cons_succ] at p0 p1 p2 p3 p4
  go_wp2_with fail
  (with_reducible refine (HL.out _).mono ?_)
  rintro e2 w2 ⟨rfl, hb⟩
  have HP2 := Lib.hid (HP.out.below hb HP.out.lt)
  have HB2 := Lib.hid (HB0.out.trans (hb.mono HB0.out.size))
  clear p0 p1 p2 p3 p4 hb
  go_wp2_with fail
  go_loopw [7] (fun i wr => ((i = .int .i64 0 ∧ St.mayL [a, b, c, d, e] (decide (c ≤ d)) = R) ∨ (i = .int .i64 1 ∧ St.mayL [b, c, d, e] (decide (c ≤ d)) = R) ∨ (i = .int .i64 2 ∧ St.mayL [c, d, e] (decide (c ≤ d)) = R) ∨ (i = .int .i64 3 ∧ St.mayL [d, e] (decide (c ≤ d)) = R) ∨ (i = .int .i64 4 ∧ St.mayL [e] (decide (c ≤ d)) = R) ∨ (i = .int .i64 5 ∧ St.mayL [] (decide (c ≤ d)) = R)) ∧ Has wr q #[.int .i64 a, .int .i64 b, .int .i64 c, .int .i64 d, .int .i64 e] 23 ∧ Below w.heap.size w wr) (fun i _ => 5 - (intOf i).toNat)
  case atStart => exact ⟨.inl ⟨rfl, HR.out⟩, HP2.out, HB2.out⟩
  case round =>
    obtain ⟨hrel, hh, hb⟩ := hrel
    have HH := Lib.hid hh
    have HB := Lib.hid hb
    clear hh hb
    rcases hrel with ⟨rfl, hsc⟩ | ⟨rfl, hsc⟩ | ⟨rfl, hsc⟩ | ⟨rfl, hsc⟩ | ⟨rfl, hsc⟩ | ⟨rfl, hsc⟩
    · by_cases hx : St.okI a = true
      · have h2 : 0 ≤ a ∧ a ≤ 1099511627776 := of_decide_eq_true hx
        have c1 : ¬ a < 0 := by omega
        have c2 : ¬ 1099511627776 < a := by omega
        have HS := Lib.hid ((St.mayL_ok a [b, c, d, e] _ hx).symm.trans hsc)
        clear hsc hx h2
        go_wp2_with fail
        go_roundw
        case rel => exact ⟨.inr (.inl ⟨rfl, HS.out⟩), HH.out, HB.out⟩
        case measure => decide
      · have h2 : a < 0 ∨ 1099511627776 < a := by
          apply Classical.byContradiction
          intro h
          exact hx (decide_eq_true (by omega))
        have HS := Lib.hid ((St.mayL_no a [b, c, d, e] _ hx).symm.trans hsc)
        clear hsc hx
        by_cases c1 : a < 0
        · clear h2
          go_wp2
          (try simp only [Exit.inBlock, Exit.then])
          go_ret
          exact ⟨by rw [← HS.out]; rfl, HB.out⟩
        · have c2 : 1099511627776 < a := by omega
          clear h2
          go_wp2
          (try simp only [Exit.inBlock, Exit.then])
          go_ret
          exact ⟨by rw [← HS.out]; rfl, HB.out⟩
    · by_cases hx : St.okI b = true
      · have h2 : 0 ≤ b ∧ b ≤ 1099511627776 := of_decide_eq_true hx
        have c1 : ¬ b < 0 := by omega
        have c2 : ¬ 1099511627776 < b := by omega
        have HS := Lib.hid ((St.mayL_ok b [c, d, e] _ hx).symm.trans hsc)
        clear hsc hx h2
        go_wp2_with fail
        go_roundw
        case rel => exact ⟨.inr (.inr (.inl ⟨rfl, HS.out⟩)), HH.out, HB.out⟩
        case measure => decide
      · have h2 : b < 0 ∨ 1099511627776 < b := by
          apply Classical.byContradiction
          intro h
          exact hx (decide_eq_true (by omega))
        have HS := Lib.hid ((St.mayL_no b [c, d, e] _ hx).symm.trans hsc)
        clear hsc hx
        by_cases c1 : b < 0
        · clear h2
          go_wp2
          (try simp only [Exit.inBlock, Exit.then])
          go_ret
          exact ⟨by rw [← HS.out]; rfl, HB.out⟩
        · have c2 : 1099511627776 < b := by omega
          clear h2
          go_wp2
          (try simp only [Exit.inBlock, Exit.then])
          go_ret
          exact ⟨by rw [← HS.out]; rfl, HB.out⟩
    · by_cases hx : St.okI c = true
      · have h2 : 0 ≤ c ∧ c ≤ 1099511627776 := of_decide_eq_true hx
        have c1 : ¬ c < 0 := by omega
        have c2 : ¬ 1099511627776 < c := by omega
        have HS := Lib.hid ((St.mayL_ok c [d, e] _ hx).symm.trans hsc)
        clear hsc hx h2
        go_wp2_with fail
        go_roundw
        case rel => exact ⟨.inr (.inr (.inr (.inl ⟨rfl, HS.out⟩))), HH.out, HB.out⟩
        case measure => decide
      · have h2 : c < 0 ∨ 1099511627776 < c := by
          apply Classical.byContradiction
          intro h
          exact hx (decide_eq_true (by omega))
        have HS := Lib.hid ((St.mayL_no c [d, e] _ hx).symm.trans hsc)
        clear hsc hx
        by_cases c1 : c < 0
        · clear h2
          go_wp2
          (try simp only [Exit.inBlock, Exit.then])
          go_ret
          exact ⟨by rw [← HS.out]; rfl, HB.out⟩
        · have c2 : 1099511627776 < c := by omega
          clear h2
          go_wp2
          (try simp only [Exit.inBlock, Exit.then])
          go_ret
          exact ⟨by rw [← HS.out]; rfl, HB.out⟩
    · by_cases hx : St.okI d = true
      · have h2 : 0 ≤ d ∧ d ≤ 1099511627776 := of_decide_eq_true hx
        have c1 : ¬ d < 0 := by omega
        have c2 : ¬ 1099511627776 < d := by omega
        have HS := Lib.hid ((St.mayL_ok d [e] _ hx).symm.trans hsc)
        clear hsc hx h2
        go_wp2_with fail
        go_roundw
        case rel => exact ⟨.inr (.inr (.inr (.inr (.inl ⟨rfl, HS.out⟩)))), HH.out, HB.out⟩
        case measure => decide
      · have h2 : d < 0 ∨ 1099511627776 < d := by
          apply Classical.byContradiction
          intro h
          exact hx (decide_eq_true (by omega))
        have HS := Lib.hid ((St.mayL_no d [e] _ hx).symm.trans hsc)
        clear hsc hx
        by_cases c1 : d < 0
        · clear h2
          go_wp2
          (try simp only [Exit.inBlock, Exit.then])
          go_ret
          exact ⟨by rw [← HS.out]; rfl, HB.out⟩
        · have c2 : 1099511627776 < d := by omega
          clear h2
          go_wp2
          (try simp only [Exit.inBlock, Exit.then])
          go_ret
          exact ⟨by rw [← HS.out]; rfl, HB.out⟩
    · by_cases hx : St.okI e = true
      · have h2 : 0 ≤ e ∧ e ≤ 1099511627776 := of_decide_eq_true hx
        have c1 : ¬ e < 0 := by omega
        have c2 : ¬ 1099511627776 < e := by omega
        have HS := Lib.hid ((St.mayL_ok e [] _ hx).symm.trans hsc)
        clear hsc hx h2
        go_wp2_with fail
        go_roundw
        case rel => exact ⟨.inr (.inr (.inr (.inr (.inr (⟨rfl, HS.out⟩))))), HH.out, HB.out⟩
        case measure => decide
      · have h2 : e < 0 ∨ 1099511627776 < e := by
          apply Classical.byContradiction
          intro h
          exact hx (decide_eq_true (by omega))
        have HS := Lib.hid ((St.mayL_no e [] _ hx).symm.trans hsc)
        clear hsc hx
        by_cases c1 : e < 0
        · clear h2
          go_wp2
          (try simp only [Exit.inBlock, Exit.then])
          go_ret
          exact ⟨by rw [← HS.out]; rfl, HB.out⟩
        · have c2 : 1099511627776 < e := by omega
          clear h2
          go_wp2
          (try simp only [Exit.inBlock, Exit.then])
          go_ret
          exact ⟨by rw [← HS.out]; rfl, HB.out⟩
    · have HS := Lib.hid hsc
      clear hsc
      have p2 := HH.out.cell 2; have p3 := HH.out.cell 3
      simp only [List.getElem?_toArray, List.getElem?_cons_zero, List.getElem?_cons_succ] at p2 p3
      go_wp2
      go_ret
      exact ⟨by rw [← HS.out]; rfl, HB.out⟩
end Go.Proofs.YtcogndjfalomjaaDoor
