/- A number's digits: the program's, by recursion. -/
import Derived.Test.YtimlmjabdakojaaDoorStWalk3
import Derived.Test.YtimlmjabdakojaaDoorHide
import Derived.Test.YtimlmjabdakojaaDoorRleRef2
import Derived.Test.YtimlmjabdakojaaDoorLater
namespace Go.Proofs.YtimlmjabdakojaaDoor
open Go.RowKit
set_option linter.unusedVariables false

theorem dig_toNat (m : Nat) (h : m < 10) : ((St.dig m).toNat : Int) = 48 + (m : Int) := by unfold St.dig; rw [St.dig_nat m h]; omega
set_option maxRecDepth 100000 in
set_option maxHeartbeats 1600000 in
theorem digits_pos (N : Nat) (hN : N ≤ 1000000000000000) (w : World) : Calls Tryd.prog 43 #[.int .i64 (N : Int)] w fun e w' => e = .returned (.string (Fr.bs (St.digs N))) ∧ Below w.heap.size w w' := by
  induction N using Nat.strongRecOn generalizing w with
  | ind N ih =>
    by_cases h10 : N < 10
    · have h10' : (N : Int) < 10 := by omega
      have hmx : max (N : Int) 0 = (N : Int) := by omega
      have HR := Lib.hid (show Fr.bs (St.digs N) = Fr.bs [St.dig N] by rw [St.digs_lt N h10]; rfl)
      have hcv : ∀ (w : World) (x : Nat), w.cell? ⟨x, 0, none⟩ = some (.int .u8 (48 + (N : Int))) → (convert 57 9 (.slice (some ⟨x, 0, none⟩) 1 1)).run Tryd.prog w = .ok (.string (Fr.bs [St.dig N])) w := fun w x h => conv_u8 w x _ _ (dig_toNat N h10).symm h
      have hcv1 := hcv (w.alloc (.cells #[.int .u8 (48 + (N : Int))] 5)) w.heap.size ((Has.new w _ _).cell 0)
      have hn0 : (0 : Int) ≤ (N : Int) := by omega
      clear h10 ih hcv
      go_enter Tryd.func43, Tryd.ntmps43
      go_wp2
      go_ret
      exact ⟨ret_str HR.out.symm, (Below.refl _ _).alloc (Nat.le_refl _) _⟩
    · have h10' : ¬ (N : Int) < 10 := by omega
      have HR := Lib.hid (show Fr.bs (St.digs N) = Fr.bs (St.digs (N / 10)) ++ Fr.bs [St.dig (N % 10)] by rw [St.digs_ge N h10]; rfl)
      have HI := Lib.hid (fun w => ih (N / 10) (by omega) (by omega) w)
      have hq := tdiv_nat N
      have hr := tmod_nat N
      have hm : N % 10 < 10 := Nat.mod_lt _ (by decide)
      have hlen := St.digs_len 16 (N / 10) (by omega) (by decide)
      have hsz : (Fr.bs (St.digs (N / 10))).size ≤ 16 := by rw [← Fr.size_list, Fr.list_bs]; exact hlen
      have hs1 : (Fr.bs [St.dig (N % 10)]).size = 1 := rfl
      have HCV := Lib.hid (fun (w : World) (x : Nat) (h : w.cell? ⟨x, 0, none⟩ = some (.int .u8 (48 + ((N % 10 : Nat) : Int)))) => (conv_u8 w x _ _ (dig_toNat (N % 10) hm).symm h : (convert 57 9 (.slice (some ⟨x, 0, none⟩) 1 1)).run Tryd.prog w = .ok (.string (Fr.bs [St.dig (N % 10)])) w))
      generalize Fr.bs (St.digs N) = R at *
      generalize Fr.bs (St.digs (N / 10)) = A at *
      generalize Fr.bs [St.dig (N % 10)] = D at *
      have hcat : ¬ 9223372036854775807 < A.size + D.size := by omega
      have hNp : N / 10 ≤ N := Nat.div_le_self N 10
      generalize N % 10 = m at *
      generalize N / 10 = p at *
      have hm2 : (m : Int) < 10 := by omega
      have hm0 : (0 : Int) ≤ (m : Int) := by omega
      have hpb : p ≤ 1000000000000000 := by omega
      clear hlen ih h10 hsz hs1
      go_enter Tryd.func43, Tryd.ntmps43
      go_wp2_with fail
      apply Quiet.region_hide 7 18 19 (y := .string D) (Psi := fun x w' => ∃ b, x = .slice (some ⟨b, 0, none⟩) 1 1 ∧ b < w'.heap.size ∧ w.heap.size ≤ b ∧ w'.cell? ⟨b, 0, none⟩ = some (.int .u8 (48 + (m : Int)))) (by kernel_rfl) (by kernel_rfl) (by kernel_rfl)
      case H1 =>
        intro wb hwb
        have hwp : wrap64 (p : Int) = (p : Int) := by unfold wrap64; omega
        have H1 := Lib.hid (fun x : Later wb => later_call (x := x) (HI.out x.at))
        show wpQuiet _ _ (fun w' => ∃ x : Later wb, w' = x.at) _ _ _
        simp only [List.take_succ_cons, List.take_zero]
        repeat (go_big_quiet_step (with_reducible exact H1.out _))
        exact rfl
      case make =>
        intro o ho wa hwa
        obtain rfl := Option.some.inj ho
        refine ⟨.slice (some ⟨wa.heap.size, 0, none⟩) 1 1, wa.alloc (.cells #[.int .u8 (48 + (m : Int))] 5), ?_, ?_, ⟨wa.heap.size, rfl, ?_, ?_, ?_⟩⟩
        · kernel_rfl
        · exact (Below.refl _ _).alloc (Nat.le_refl _) _
        · simp
        · exact hwa.size
        · exact (Has.new wa _ _).cell 0
      case use =>
        intro o ho x wa hwa ⟨b, hx, _, _, hc⟩
        obtain rfl := Option.some.inj ho
        subst hx
        have hcv' := HCV.out wa b hc
        show ((convert 57 9 (.slice (some ⟨b, 0, none⟩) 1 1) >>= fun z => pure (Next.value z)) : Sem Next).run _ _ = _
        rw [Sem.run_bind, hcv']
        rfl
      case mono =>
        rintro x wa wb ⟨b, hx, hb, hb', hc⟩ hwb
        exact ⟨b, hx, Nat.lt_of_lt_of_le hb hwb.size, hb', by rw [hwb.cell (p := ⟨b, 0, none⟩) hb]; exact hc⟩
      case H2 =>
        intro wb hwb
        show wpQuiet _ _ (fun w' => ∃ x : Later wb, w' = x.at) _ _ _
        simp only [List.drop_succ_cons, List.drop_zero, Act.put, List.setIfInBounds_toArray, List.set_cons_succ, List.set_cons_zero]
        repeat (go_big_quiet_step (fail))
        exact rfl
      case hend =>
        intro x wa hwa
        simp only [Act.put, List.setIfInBounds_toArray, List.set_cons_succ, List.set_cons_zero]
        go_wp2
        go_ret
        exact ⟨ret_str HR.out.symm, hwa⟩
end Go.Proofs.YtimlmjabdakojaaDoor
