/- Walks of Encode, of the program and of the reference. -/
import Derived.Test.YtckdbkbecelgcaaDoorFrameWalk2
import Derived.Test.YtckdbkbecelgcaaDoorHide
import Derived.Deep.RegionHeld3
import Derived.Deep.DrawnRows
namespace Go.Proofs.YtckdbkbecelgcaaDoor
open Go.RowKit
attribute [local go_sem ↓] Go.wp_at_zero Go.wp_at_succ
set_option maxRecDepth 100000 in
set_option maxHeartbeats 2000000 in
theorem xenc_ok (t j : Nat) (d : ByteArray) (w : World) (hm : Fr.mayT (t : Int) = true) (hj : j < 4294967296) (hd : d.size ≤ 65536) :
    Calls Tryd.prog 35 #[.agg #[.int .i64 (t : Int), .int .i64 (j : Int), .string d]] w fun e w' => e = .returned (.tuple #[.string (Fr.bs [UInt8.ofNat t] ++ Fr.bs (Fr.put4 j) ++ Fr.bs (Fr.put4 d.size) ++ d), .int .i64 0]) ∧ Below w.heap.size w w' := by
  have ht : t < 256 := by have := Fr.mayT_bd hm; omega
  have Hm := Lib.hid hm
  clear hm
  have hs1 : (Fr.bs [UInt8.ofNat t]).size = 1 := rfl
  have hs2 : (Fr.bs (Fr.put4 j)).size = 4 := rfl
  have hs3 : (Fr.bs (Fr.put4 d.size)).size = 4 := rfl
  have hcv : ∀ (w : World) (b : Nat), w.cell? ⟨b, 0, none⟩ = some (.int .u8 (t : Int)) → (convert 75 9 (.slice (some ⟨b, 0, none⟩) 1 1)).run Tryd.prog w = .ok (.string (Fr.bs [UInt8.ofNat t])) w := fun w b h => conv1 w b t _ (by omega) h
  have h1 := Lib.hid (fun w => put_walk j w hj)
  have h2 := Lib.hid (fun w => put_walk d.size w (by omega))
  generalize Fr.bs [UInt8.ofNat t] = s1 at *
  generalize Fr.bs (Fr.put4 j) = s2 at *
  generalize Fr.bs (Fr.put4 d.size) = s3 at *
  go_enter Tryd.func35, Tryd.ntmps35
  go_wp2_with fail
  refine (may_walk t j d _).mono ?_
  rw [Hm.out]
  rintro e w1 ⟨rfl, hb1⟩
  generalize hw1 : w.alloc (.cells #[Value.int .i64 (t : Int), Value.int .i64 (j : Int), Value.string d] 23) = w0
  rw [hw1] at hb1
  have c0 : w0.cell? ⟨w.heap.size, 0, none⟩ = some (.int .i64 (t : Int)) := by rw [← hw1]; exact ((Has.new w _ _).cell 0)
  have c1 : w0.cell? ⟨w.heap.size, 1, none⟩ = some (.int .i64 (j : Int)) := by rw [← hw1]; exact ((Has.new w _ _).cell 1)
  have c2 : w0.cell? ⟨w.heap.size, 2, none⟩ = some (.string d) := by rw [← hw1]; exact ((Has.new w _ _).cell 2)
  have hB0 : w.heap.size < w0.heap.size := by rw [← hw1]; simp
  have hbw0 : Below w.heap.size w w0 := by rw [← hw1]; exact (Below.refl _ _).alloc (Nat.le_refl _) _
  replace c0 : w1.cell? ⟨w.heap.size, 0, none⟩ = some (.int .i64 (t : Int)) := by rw [hb1.cell (p := ⟨w.heap.size, 0, none⟩) hB0]; exact c0
  replace c1 : w1.cell? ⟨w.heap.size, 1, none⟩ = some (.int .i64 (j : Int)) := by rw [hb1.cell (p := ⟨w.heap.size, 1, none⟩) hB0]; exact c1
  replace c2 : w1.cell? ⟨w.heap.size, 2, none⟩ = some (.string d) := by rw [hb1.cell (p := ⟨w.heap.size, 2, none⟩) hB0]; exact c2
  have hB : w.heap.size < w1.heap.size := Nat.lt_of_lt_of_le hB0 hb1.size
  have hbw := Lib.hid (hbw0.trans (hb1.mono (Nat.le_of_lt hB0)))
  clear hw1 hbw0 hB0 hb1
  generalize hbb : w.heap.size = B at *
  have Hbb := Lib.hid hbb
  clear hbb
  have hj1 : ¬ ((j : Int) < 0) := by omega
  have hj2 : ¬ ((4294967295 : Int) < (j : Int)) := by omega
  have hd1 : ¬ ((65536 : Int) < (d.size : Int)) := by omega
  go_wp2_with fail
  apply Quiet.region_hide 3 25 26 (y := .string s1) (Psi := fun x w' => ∃ b, x = .slice (some ⟨b, 0, none⟩) 1 1 ∧ b < w'.heap.size ∧ w1.heap.size ≤ b ∧ w'.cell? ⟨b, 0, none⟩ = some (.int .u8 (t : Int))) (by kernel_rfl) (by kernel_rfl) (by kernel_rfl)
  case H1 =>
    intro wb hwb
    have f0 : ∀ x : Later wb, x.at.cell? ⟨B, 0, none⟩ = some (.int .i64 (t : Int)) := fun x => x.cell ((Later.mk hwb).cell c0)
    have ht0 : (0 : Int) ≤ (t : Int) := by omega
    have ht1 : (t : Int) < 256 := by omega
    show wpQuiet _ _ (fun w' => ∃ x : Later wb, w' = x.at) _ _ _
    simp only [List.take_succ_cons, List.take_zero]
    repeat (go_big_quiet_step (fail))
    exact rfl
  case make =>
    intro o ho wa hwa
    obtain rfl := Option.some.inj ho
    refine ⟨.slice (some ⟨wa.heap.size, 0, none⟩) 1 1, wa.alloc (.cells #[.int .u8 (t : Int)] 5), ?_, ?_, ⟨wa.heap.size, rfl, ?_, ?_, ?_⟩⟩
    · kernel_rfl
    · exact (Below.refl _ _).alloc (Nat.le_refl _) _
    · simp
    · exact hwa.size
    · exact (Has.new wa _ _).cell 0
  case use =>
    intro o ho x wa hwa ⟨b, hx, _, _, hc⟩
    obtain rfl := Option.some.inj ho
    subst hx
    have hcv' := hcv wa b hc
    show ((convert 75 9 (.slice (some ⟨b, 0, none⟩) 1 1) >>= fun z => pure (Next.value z)) : Sem Next).run _ _ = _
    rw [Sem.run_bind, hcv']
    rfl
  case mono =>
    rintro x wa wb ⟨b, hx, hb, hb', hc⟩ hwb
    exact ⟨b, hx, Nat.lt_of_lt_of_le hb hwb.size, hb', by rw [hwb.cell (p := ⟨b, 0, none⟩) hb]; exact hc⟩
  case H2 =>
    intro wb hwb
    have f1 : ∀ x : Later wb, x.at.cell? ⟨B, 1, none⟩ = some (.int .i64 (j : Int)) := fun x => x.cell ((Later.mk hwb).cell c1)
    have f2 : ∀ x : Later wb, x.at.cell? ⟨B, 2, none⟩ = some (.string d) := fun x => x.cell ((Later.mk hwb).cell c2)
    have H1 := Lib.hid (fun x : Later wb => later_call (x := x) (h1.out x.at))
    have H2 := Lib.hid (fun x : Later wb => later_call (x := x) (h2.out x.at))
    show wpQuiet _ _ (fun w' => ∃ x : Later wb, w' = x.at) _ _ _
    simp only [List.drop_succ_cons, List.drop_zero, Act.put, List.setIfInBounds_toArray, List.set_cons_succ, List.set_cons_zero]
    repeat (go_big_quiet_step (first | (with_reducible exact H1.out _) | (with_reducible exact H2.out _)))
    exact rfl
  case hend =>
    intro x wa hwa
    simp only [Act.put, List.setIfInBounds_toArray, List.set_cons_succ, List.set_cons_zero]
    go_wp2
    go_ret2
    rw [Hbb.out]
    exact ⟨rfl, hbw.out.trans (hwa.mono (Nat.le_of_lt hB))⟩
end Go.Proofs.YtckdbkbecelgcaaDoor
