/- Walks of Encode, of the program and of the reference. -/
import Derived.Test.YtckdbkbecelgcaaDoorFrameWalk1
import Derived.Test.YtckdbkbecelgcaaDoorHide
import Derived.Deep.RegionHeld3
import Derived.Deep.DrawnRows
namespace Go.Proofs.YtckdbkbecelgcaaDoor
open Go.RowKit
attribute [local go_sem ↓] Go.wp_at_zero Go.wp_at_succ

theorem conv1 (w : World) (b : Nat) (t : Nat) (c : Int) (hc : c = ((t % 256 : Nat) : Int)) (h : w.cell? ⟨b, 0, none⟩ = some (.int .u8 c)) :
    (convert 75 9 (.slice (some ⟨b, 0, none⟩) 1 1)).run Tryd.prog w = .ok (.string (Fr.bs [UInt8.ofNat t])) w := by
  refine convert_row (bs := [UInt8.ofNat t]) Tryd.underlying75 Tryd.underlying5 Tryd.underlying9 ⟨Nat.le_refl _, by unfold maxLen; omega, rfl, (fun e => nomatch e), fun x hx _ => ?_⟩
  cases hx
  refine ⟨b, 0, rfl, fun i hi => ?_⟩
  obtain rfl : i = 0 := by omega
  rw [h, hc]
  simp [vB]

set_option maxRecDepth 100000 in
set_option maxHeartbeats 2000000 in
theorem refenc_walk (t j : Nat) (d : ByteArray) (w : World) (ht : t < 256) (hj : j < 4294967296) (hd : d.size ≤ 65536) :
    Calls Tryd.prog 21 #[.agg #[.int .i64 (t : Int), .int .i64 (j : Int), .string d]] w fun e w' => e = .returned (.string (Fr.bs [UInt8.ofNat t] ++ Fr.bs (Fr.put4 j) ++ Fr.bs (Fr.put4 d.size) ++ d)) ∧ Below w.heap.size w w' := by
  have hs1 : (Fr.bs [UInt8.ofNat t]).size = 1 := rfl
  have hs2 : (Fr.bs (Fr.put4 j)).size = 4 := rfl
  have hs3 : (Fr.bs (Fr.put4 d.size)).size = 4 := rfl
  have hcv : ∀ (w : World) (b : Nat), w.cell? ⟨b, 0, none⟩ = some (.int .u8 (t : Int)) → (convert 75 9 (.slice (some ⟨b, 0, none⟩) 1 1)).run Tryd.prog w = .ok (.string (Fr.bs [UInt8.ofNat t])) w := fun w b h => conv1 w b t _ (by omega) h
  have h1 := Lib.hid (fun w => reffour_walk j w hj)
  have h2 := Lib.hid (fun w => reffour_walk d.size w (by omega))
  generalize Fr.bs [UInt8.ofNat t] = s1 at *
  generalize Fr.bs (Fr.put4 j) = s2 at *
  generalize Fr.bs (Fr.put4 d.size) = s3 at *
  go_enter Tryd.func21, Tryd.ntmps21
  go_wp2_with fail
  generalize hw1 : w.alloc (.cells #[Value.int .i64 (t : Int), Value.int .i64 (j : Int), Value.string d] 23) = w1
  have c0 : w1.cell? ⟨w.heap.size, 0, none⟩ = some (.int .i64 (t : Int)) := by rw [← hw1]; exact ((Has.new w _ _).cell 0)
  have c1 : w1.cell? ⟨w.heap.size, 1, none⟩ = some (.int .i64 (j : Int)) := by rw [← hw1]; exact ((Has.new w _ _).cell 1)
  have c2 : w1.cell? ⟨w.heap.size, 2, none⟩ = some (.string d) := by rw [← hw1]; exact ((Has.new w _ _).cell 2)
  have hB : w.heap.size < w1.heap.size := by rw [← hw1]; simp
  have hbw := Lib.hid (show Below w.heap.size w w1 from by rw [← hw1]; exact (Below.refl _ _).alloc (Nat.le_refl _) _)
  clear hw1
  generalize hbb : w.heap.size = B at *
  have Hbb := Lib.hid hbb
  clear hbb
  apply Quiet.region_hide 3 6 7 (y := .string s1) (Psi := fun x w' => ∃ b, x = .slice (some ⟨b, 0, none⟩) 1 1 ∧ b < w'.heap.size ∧ w1.heap.size ≤ b ∧ w'.cell? ⟨b, 0, none⟩ = some (.int .u8 (t : Int))) (by kernel_rfl) (by kernel_rfl) (by kernel_rfl)
  case H1 =>
    intro wb hwb
    have f0 : ∀ x : Later wb, x.at.cell? ⟨B, 0, none⟩ = some (.int .i64 (t : Int)) := fun x => x.cell ((Later.mk hwb).cell c0)
    have ht0 : (0 : Int) ≤ (t : Int) := by omega
    have ht1 : (t : Int) < 256 := by omega
    show wpQuiet _ _ (fun w' => ∃ x : Later wb, w' = x.at) _ _ _
    simp only [List.take_succ_cons, List.take_zero]
    repeat (go_big_quiet_step (fail))
    exact rfl
  case make =>
    intro o ho wa hwa
    obtain rfl := Option.some.inj ho
    refine ⟨.slice (some ⟨wa.heap.size, 0, none⟩) 1 1, wa.alloc (.cells #[.int .u8 (t : Int)] 5), ?_, ?_, ⟨wa.heap.size, rfl, ?_, ?_, ?_⟩⟩
    · kernel_rfl
    · exact (Below.refl _ _).alloc (Nat.le_refl _) _
    · simp
    · exact hwa.size
    · exact (Has.new wa _ _).cell 0
  case use =>
    intro o ho x wa hwa ⟨b, hx, _, _, hc⟩
    obtain rfl := Option.some.inj ho
    subst hx
    have hcv' := hcv wa b hc
    show ((convert 75 9 (.slice (some ⟨b, 0, none⟩) 1 1) >>= fun z => pure (Next.value z)) : Sem Next).run _ _ = _
    rw [Sem.run_bind, hcv']
    rfl
  case mono =>
    rintro x wa wb ⟨b, hx, hb, hb', hc⟩ hwb
    exact ⟨b, hx, Nat.lt_of_lt_of_le hb hwb.size, hb', by rw [hwb.cell (p := ⟨b, 0, none⟩) hb]; exact hc⟩
  case H2 =>
    intro wb hwb
    have f1 : ∀ x : Later wb, x.at.cell? ⟨B, 1, none⟩ = some (.int .i64 (j : Int)) := fun x => x.cell ((Later.mk hwb).cell c1)
    have f2 : ∀ x : Later wb, x.at.cell? ⟨B, 2, none⟩ = some (.string d) := fun x => x.cell ((Later.mk hwb).cell c2)
    have H1 := Lib.hid (fun x : Later wb => later_call (x := x) (h1.out x.at))
    have H2 := Lib.hid (fun x : Later wb => later_call (x := x) (h2.out x.at))
    show wpQuiet _ _ (fun w' => ∃ x : Later wb, w' = x.at) _ _ _
    simp only [List.drop_succ_cons, List.drop_zero, Act.put, List.setIfInBounds_toArray, List.set_cons_succ, List.set_cons_zero]
    repeat (go_big_quiet_step (first | (with_reducible exact H1.out _) | (with_reducible exact H2.out _)))
    exact rfl
  case hend =>
    intro x wa hwa
    simp only [Act.put, List.setIfInBounds_toArray, List.set_cons_succ, List.set_cons_zero]
    go_wp2
    go_ret
    rw [Hbb.out]
    exact ⟨rfl, hbw.out.trans (hwa.mono (Nat.le_of_lt hB))⟩
end Go.Proofs.YtckdbkbecelgcaaDoor
