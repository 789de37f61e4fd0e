/- The reference's text. -/
import Derived.Test.YtcogndjfalomjaaDoorStWalk6
namespace Go.Proofs.YtcogndjfalomjaaDoor
open Go.RowKit
set_option linter.unusedVariables false
set_option linter.unusedSimpArgs false

set_option maxRecDepth 100000 in
set_option maxHeartbeats 3200000 in
theorem reftext_walk (n : St.Nums) (hm : St.may n = true) (w : World) : Calls Tryd.prog 14 #[.agg #[.int .i64 n.at', .int .i64 n.jobs, .int .i64 n.used, .int .i64 n.limit, .int .i64 n.left]] w fun r w' => r = .returned (.string (Fr.bs (St.textL n))) ∧ Below w.heap.size w w' := by
  obtain ⟨a, b, c, d, e⟩ := n
  have hok : St.okI a = true ∧ St.okI b = true ∧ St.okI c = true ∧ St.okI d = true ∧ St.okI e = true := by
    unfold St.may at hm
    simp only [Bool.and_eq_true] at hm
    exact ⟨hm.1.1.1.1.1, hm.1.1.1.1.2, hm.1.1.1.2, hm.1.1.2, hm.1.2⟩
  have hdig : ∀ x : Int, St.okI x = true → (∀ w, Calls Tryd.prog 26 #[.int .i64 x] w fun r w' => r = .returned (.string (Fr.bs (St.dg x))) ∧ Below w.heap.size w w') ∧ (Fr.bs (St.dg x)).size ≤ 13 := by
    intro x hx
    have h2 : 0 ≤ x ∧ x ≤ 1099511627776 := of_decide_eq_true hx
    have e : x = ((x.toNat : Nat) : Int) := by omega
    refine ⟨fun w => ?_, by rw [← Fr.size_list, Fr.list_bs]; exact St.digs_13 _ (by omega)⟩
    have := refdigits_pos x.toNat (by omega) w
    rw [← e] at this
    exact this
  obtain ⟨o1, o2, o3, o4, o5⟩ := hok
  obtain ⟨d1, l1⟩ := hdig a o1
  obtain ⟨d2, l2⟩ := hdig b o2
  obtain ⟨d3, l3⟩ := hdig c o3
  obtain ⟨d4, l4⟩ := hdig d o4
  obtain ⟨d5, l5⟩ := hdig e o5
  have HT := Lib.hid (show (⟨#[]⟩ : ByteArray) ++ Fr.bs (St.dg a) ++ ⟨#[32]⟩ ++ Fr.bs (St.dg b) ++ ⟨#[32]⟩ ++ Fr.bs (St.dg c) ++ ⟨#[32]⟩ ++ Fr.bs (St.dg d) ++ ⟨#[32]⟩ ++ Fr.bs (St.dg e) = Fr.bs (St.textL ⟨a, b, c, d, e⟩) by
    rw [show (⟨#[]⟩ : ByteArray) = Fr.bs [] from rfl, show (⟨#[32]⟩ : ByteArray) = Fr.bs [32] from rfl]
    simp only [bs_app]
    rfl)
  generalize Fr.bs (St.textL ⟨a, b, c, d, e⟩) = R at *
  simp only at *
  clear hdig o1 o2 o3 o4 o5 hm
  generalize Fr.bs (St.dg a) = A at *
  generalize Fr.bs (St.dg b) = B at *
  generalize Fr.bs (St.dg c) = C at *
  generalize Fr.bs (St.dg d) = D at *
  generalize Fr.bs (St.dg e) = E at *
  have HD1 := Lib.hid d1; have HD2 := Lib.hid d2; have HD3 := Lib.hid d3; have HD4 := Lib.hid d4; have HD5 := Lib.hid d5
  clear d1 d2 d3 d4 d5
  have s0 : (⟨#[]⟩ : ByteArray).size = 0 := rfl
  have s1 : (⟨#[32]⟩ : ByteArray).size = 1 := rfl
  -- what each sum's length is
  have k1 : ¬ 9223372036854775807 < (⟨#[]⟩ : ByteArray).size + A.size := by omega
  generalize hX1 : (⟨#[]⟩ : ByteArray) ++ A = X1 at *
  have z1 : X1.size ≤ 13 := by rw [← hX1, ByteArray.size_append]; omega
  have k2 : ¬ 9223372036854775807 < X1.size + (⟨#[32]⟩ : ByteArray).size := by omega
  generalize hX2 : X1 ++ (⟨#[32]⟩ : ByteArray) = X2 at *
  have z2 : X2.size ≤ 14 := by rw [← hX2, ByteArray.size_append]; omega
  have k3 : ¬ 9223372036854775807 < X2.size + B.size := by omega
  generalize hX3 : X2 ++ B = X3 at *
  have z3 : X3.size ≤ 27 := by rw [← hX3, ByteArray.size_append]; omega
  have k4 : ¬ 9223372036854775807 < X3.size + (⟨#[32]⟩ : ByteArray).size := by omega
  generalize hX4 : X3 ++ (⟨#[32]⟩ : ByteArray) = X4 at *
  have z4 : X4.size ≤ 28 := by rw [← hX4, ByteArray.size_append]; omega
  have k5 : ¬ 9223372036854775807 < X4.size + C.size := by omega
  generalize hX5 : X4 ++ C = X5 at *
  have z5 : X5.size ≤ 41 := by rw [← hX5, ByteArray.size_append]; omega
  have k6 : ¬ 9223372036854775807 < X5.size + (⟨#[32]⟩ : ByteArray).size := by omega
  generalize hX6 : X5 ++ (⟨#[32]⟩ : ByteArray) = X6 at *
  have z6 : X6.size ≤ 42 := by rw [← hX6, ByteArray.size_append]; omega
  have k7 : ¬ 9223372036854775807 < X6.size + D.size := by omega
  generalize hX7 : X6 ++ D = X7 at *
  have z7 : X7.size ≤ 55 := by rw [← hX7, ByteArray.size_append]; omega
  have k8 : ¬ 9223372036854775807 < X7.size + (⟨#[32]⟩ : ByteArray).size := by omega
  generalize hX8 : X7 ++ (⟨#[32]⟩ : ByteArray) = X8 at *
  have z8 : X8.size ≤ 56 := by rw [← hX8, ByteArray.size_append]; omega
  have k9 : ¬ 9223372036854775807 < X8.size + E.size := by omega
  have H1 := Lib.hid hX1; have H2 := Lib.hid hX2; have H3 := Lib.hid hX3; have H4 := Lib.hid hX4; have H5 := Lib.hid hX5; have H6 := Lib.hid hX6; have H7 := Lib.hid hX7; have H8 := Lib.hid hX8
  clear hX1 hX3 hX5 hX7 s0 s1 z1 z2 z3 z4 z5 z6 z7 z8 l1 l2 l3 l4 l5
  have hix0 : ∀ w : World, (Instr.index 28 (.agg #[.int .i64 a, .int .i64 b, .int .i64 c, .int .i64 d, .int .i64 e]) (.int .i64 0)).run Tryd.prog w = .ok (.int .i64 a) w := fun _ => by kernel_rfl
  have hix1 : ∀ w : World, (Instr.index 28 (.agg #[.int .i64 a, .int .i64 b, .int .i64 c, .int .i64 d, .int .i64 e]) (.int .i64 1)).run Tryd.prog w = .ok (.int .i64 b) w := fun _ => by kernel_rfl
  have hix2 : ∀ w : World, (Instr.index 28 (.agg #[.int .i64 a, .int .i64 b, .int .i64 c, .int .i64 d, .int .i64 e]) (.int .i64 2)).run Tryd.prog w = .ok (.int .i64 c) w := fun _ => by kernel_rfl
  have hix3 : ∀ w : World, (Instr.index 28 (.agg #[.int .i64 a, .int .i64 b, .int .i64 c, .int .i64 d, .int .i64 e]) (.int .i64 3)).run Tryd.prog w = .ok (.int .i64 d) w := fun _ => by kernel_rfl
  have hix4 : ∀ w : World, (Instr.index 28 (.agg #[.int .i64 a, .int .i64 b, .int .i64 c, .int .i64 d, .int .i64 e]) (.int .i64 4)).run Tryd.prog w = .ok (.int .i64 e) w := fun _ => by kernel_rfl
  go_enter Tryd.func14, Tryd.ntmps14
  go_upto_region 1 with (fail)
  have HP := Lib.hid (Has.new w #[.int .i64 a, .int .i64 b, .int .i64 c, .int .i64 d, .int .i64 e] 28)
  have HB0 := Lib.hid ((Below.refl w.heap.size w).alloc (Nat.le_refl _) (.cells #[.int .i64 a, .int .i64 b, .int .i64 c, .int .i64 d, .int .i64 e] 28))
  obtain ⟨q, hq⟩ : ∃ q, q = w.heap.size := ⟨_, rfl⟩
  rw [← hq] at HP
  rw [← hq]
  clear hq
  generalize w.alloc (.cells #[.int .i64 a, .int .i64 b, .int .i64 c, .int .i64 d, .int .i64 e] 28) = w1 at *
  have p0 := HP.out.cell 0; have p1 := HP.out.cell 1; have p2 := HP.out.cell 2; have p3 := HP.out.cell 3; have p4 := HP.out.cell 4
  simp only [List.getElem?_toArray, List.getElem?_cons_zero, List.getElem?_cons_succ] at p0 p1 p2 p3 p4
  go_wp2_with fail
  clear p0 p1 p2 p3 p4
  go_loopw [3, 7] (fun v i wr => ((i = .int .i64 0 ∧ v = .string ⟨#[]⟩) ∨ (i = .int .i64 1 ∧ v = .string X1) ∨ (i = .int .i64 2 ∧ v = .string X3) ∨ (i = .int .i64 3 ∧ v = .string X5) ∨ (i = .int .i64 4 ∧ v = .string X7) ∨ (i = .int .i64 5 ∧ v = .string R)) ∧ Below w.heap.size w wr) (fun _ i _ => 5 - (intOf i).toNat)
  case atStart => exact ⟨.inl ⟨rfl, rfl⟩, HB0.out⟩
  case round =>
    obtain ⟨hrel, hb⟩ := hrel
    have HB := Lib.hid hb
    clear hb HB0
    rcases hrel with ⟨rfl, rfl⟩ | ⟨rfl, rfl⟩ | ⟨rfl, rfl⟩ | ⟨rfl, rfl⟩ | ⟨rfl, rfl⟩ | ⟨rfl, rfl⟩
    · go_wp2_with fail
      refine (HD1.out _).mono ?_
      rintro r w3 ⟨rfl, hb3⟩
      have HB1 := Lib.hid (HB.out.trans (hb3.mono HB.out.size))
      clear hb3 HB
      go_wp2
      go_roundw
      case rel => exact ⟨.inr (.inl ⟨rfl, by rw [H1.out]⟩), HB1.out⟩
      case measure => decide
    · go_wp2_with fail
      refine (HD2.out _).mono ?_
      rintro r w3 ⟨rfl, hb3⟩
      have HB1 := Lib.hid (HB.out.trans (hb3.mono HB.out.size))
      clear hb3 HB
      go_wp2
      go_roundw
      case rel => exact ⟨.inr (.inr (.inl ⟨rfl, by first | rw [H3.out] | rw [H2.out, H3.out]⟩)), HB1.out⟩
      case measure => decide
    · go_wp2_with fail
      refine (HD3.out _).mono ?_
      rintro r w3 ⟨rfl, hb3⟩
      have HB1 := Lib.hid (HB.out.trans (hb3.mono HB.out.size))
      clear hb3 HB
      go_wp2
      go_roundw
      case rel => exact ⟨.inr (.inr (.inr (.inl ⟨rfl, by first | rw [H5.out] | rw [H4.out, H5.out]⟩))), HB1.out⟩
      case measure => decide
    · go_wp2_with fail
      refine (HD4.out _).mono ?_
      rintro r w3 ⟨rfl, hb3⟩
      have HB1 := Lib.hid (HB.out.trans (hb3.mono HB.out.size))
      clear hb3 HB
      go_wp2
      go_roundw
      case rel => exact ⟨.inr (.inr (.inr (.inr (.inl ⟨rfl, by first | rw [H7.out] | rw [H6.out, H7.out]⟩)))), HB1.out⟩
      case measure => decide
    · go_wp2_with fail
      refine (HD5.out _).mono ?_
      rintro r w3 ⟨rfl, hb3⟩
      have HB1 := Lib.hid (HB.out.trans (hb3.mono HB.out.size))
      clear hb3 HB
      go_wp2
      go_roundw
      case rel => exact ⟨.inr (.inr (.inr (.inr (.inr ⟨rfl, by first | rw [HT.out] | rw [H8.out, HT.out]⟩)))), HB1.out⟩
      case measure => decide
    · go_wp2
      go_ret
      exact ⟨rfl, HB.out⟩
end Go.Proofs.YtcogndjfalomjaaDoor
