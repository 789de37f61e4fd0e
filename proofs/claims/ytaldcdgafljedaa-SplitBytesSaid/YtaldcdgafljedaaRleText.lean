/- A piece as bytes. -/
import Derived.Test.YtaldcdgafljedaaRleRef2
import Derived.Test.YtaldcdgafljedaaShelf
import Derived.Test.YtaldcdgafljedaaHide
namespace Go.Proofs.Ytaldcdgafljedaa
open Go.RowKit
set_option linter.unusedVariables false
set_option linter.unusedSimpArgs false

theorem repeat_one (b : UInt8) : ∀ n, Lib.repeatL [b] n = List.replicate n b
  | 0 => rfl
  | n + 1 => by
    show [b] ++ Lib.repeatL [b] n = _
    rw [repeat_one b n]; rfl
theorem repeat_walk (b : UInt8) (n : Nat) (w : World) (hn : n ≤ 100000) :
    Calls Try.prog 46 #[.string (Fr.bs [b]), .int .i64 (n : Int)] w fun e w' => e = .returned (.string (Fr.bs (List.replicate n b))) ∧ Below w.heap.size w w' := by
  have h := Try.strings_Repeat (Fr.bs [b]) n w (by omega) (by rw [bs_size]; simp; omega)
  rw [Fr.list_bs, repeat_one] at h
  exact h

set_option maxRecDepth 100000 in
set_option maxHeartbeats 1600000 in
theorem xtext_walk (b : UInt8) (n : Nat) (w : World) (hn : n ≤ 255) :
    Calls Try.prog 44 #[.agg #[.int .u8 (b.toNat : Int), .int .i64 (n : Int)]] w fun e w' => e = .returned (.string (Fr.bs (Rl.text ⟨b, n⟩))) ∧ Below w.heap.size w w' := by
  have hcv : ∀ (w : World) (x : Nat), w.cell? ⟨x, 0, none⟩ = some (.int .u8 (b.toNat : Int)) → (convert 59 9 (.slice (some ⟨x, 0, none⟩) 1 1)).run Try.prog w = .ok (.string (Fr.bs [b])) w := fun w x h => conv_u8 w x b _ rfl h
  have HT := Lib.hid (show Fr.bs (Rl.text ⟨b, n⟩) = if n < 4 then Fr.bs (List.replicate n b) else Fr.bs (List.replicate 4 b) ++ Fr.bs [UInt8.ofNat (n - 4)] by
    unfold Rl.text
    split
    · rfl
    · rw [bs_app]; rfl)
  have HRn := Lib.hid (fun w => repeat_walk b n w (by omega))
  have HR4 := Lib.hid (fun w => repeat_walk b 4 w (by omega))
  have hz4 : (Fr.bs (List.replicate 4 b)).size = 4 := by rw [bs_size]; simp
  have hz1 : (Fr.bs [UInt8.ofNat (n - 4)]).size = 1 := rfl
  have hcv2 : 4 ≤ n → ∀ (w : World) (x : Nat), w.cell? ⟨x, 0, none⟩ = some (.int .u8 ((n : Int) - 4)) → (convert 59 9 (.slice (some ⟨x, 0, none⟩) 1 1)).run Try.prog w = .ok (.string (Fr.bs [UInt8.ofNat (n - 4)])) w := fun h4 w x h => conv_u8 w x _ _ (by rw [UInt8.toNat_ofNat']; omega) h
  generalize Fr.bs (Rl.text ⟨b, n⟩) = X at *
  generalize Fr.bs [b] = B1 at *
  generalize Fr.bs (List.replicate 4 b) = B4 at *
  generalize Fr.bs [UInt8.ofNat (n - 4)] = BN at *
  have HCV2 := Lib.hid hcv2
  clear hcv2
  go_enter Try.func44, Try.ntmps44
  go_upto_region 2 with (fail)
  have HX := Lib.hid ((Has.new w #[.int .u8 (b.toNat : Int), .int .i64 (n : Int)] 50).alloc (.cells #[.int .u8 (b.toNat : Int)] 5))
  have HB := Lib.hid (below_alloc2 w (.cells #[.int .u8 (b.toNat : Int), .int .i64 (n : Int)] 50) (.cells #[.int .u8 (b.toNat : Int)] 5))
  generalize (w.alloc (.cells #[.int .u8 (b.toNat : Int), .int .i64 (n : Int)] 50)).alloc (.cells #[.int .u8 (b.toNat : Int)] 5) = w1 at *
  have x0 := HX.out.cell 0; have x1 := HX.out.cell 1
  simp only [List.getElem?_toArray, List.getElem?_cons_zero, List.getElem?_cons_succ] at x0 x1
  by_cases h4 : n < 4
  · have h4' : (n : Int) < 4 := by omega
    have hT := HT.out
    rw [if_pos h4] at hT
    have HT2 := Lib.hid hT
    generalize Fr.bs (List.replicate n b) = S at *
    clear hT
    go_wp2_with fail
    (with_reducible refine (HRn.out _).mono ?_)
    rintro e w2 ⟨rfl, hb2⟩
    have HB2 := Lib.hid (HB.out.trans (hb2.mono HB.out.size))
    clear hb2
    go_wp2
    go_ret
    exact ⟨ret_str HT2.out.symm, HB2.out⟩
  · have h4' : ¬ (n : Int) < 4 := by omega
    have hT := HT.out
    rw [if_neg h4] at hT
    have HT2 := Lib.hid hT
    clear hT
    have hcv2 := HCV2.out (by omega)
    have hcat : B4.size + BN.size ≤ 100 := by omega
    go_wp2_with fail
    apply Quiet.region_hide 6 21 22 (y := .string BN) (Psi := fun x w' => ∃ b, x = .slice (some ⟨b, 0, none⟩) 1 1 ∧ b < w'.heap.size ∧ w1.heap.size ≤ b ∧ w'.cell? ⟨b, 0, none⟩ = some (.int .u8 ((n : Int) - 4))) (by kernel_rfl) (by kernel_rfl) (by kernel_rfl)
    case H1 =>
      intro wb hwb
      have f1 : ∀ x : Later wb, x.at.cell? ⟨w.heap.size, 1, none⟩ = some (.int .i64 (n : Int)) := fun x => x.cell ((Later.mk hwb).cell x1)
      have hn0 : (4 : Int) ≤ (n : Int) := by omega
      have hn1 : (n : Int) ≤ 255 := by omega
      have hww : wrap64 ((n : Int) - 4) = (n : Int) - 4 := by unfold wrap64; omega
      have H1 := Lib.hid (fun x : Later wb => later_call (x := x) (HR4.out x.at))
      show wpQuiet _ _ (fun w' => ∃ x : Later wb, w' = x.at) _ _ _
      simp only [List.take_succ_cons, List.take_zero]
      repeat (go_big_quiet_step (exact H1.out _))
      exact rfl
    case make =>
      intro o ho wa hwa
      obtain rfl := Option.some.inj ho
      refine ⟨.slice (some ⟨wa.heap.size, 0, none⟩) 1 1, wa.alloc (.cells #[.int .u8 ((n : Int) - 4)] 5), ?_, ?_, ⟨wa.heap.size, rfl, ?_, ?_, ?_⟩⟩
      · kernel_rfl
      · exact (Below.refl _ _).alloc (Nat.le_refl _) _
      · simp
      · exact hwa.size
      · exact (Has.new wa _ _).cell 0
    case use =>
      intro o ho x wa hwa ⟨b, hx, _, _, hc⟩
      obtain rfl := Option.some.inj ho
      subst hx
      have hcv' := hcv2 wa b hc
      show ((convert 59 9 (.slice (some ⟨b, 0, none⟩) 1 1) >>= fun z => pure (Next.value z)) : Sem Next).run _ _ = _
      rw [Sem.run_bind, hcv']
      rfl
    case mono =>
      rintro x wa wb ⟨b, hx, hb, hb', hc⟩ hwb
      exact ⟨b, hx, Nat.lt_of_lt_of_le hb hwb.size, hb', by rw [hwb.cell (p := ⟨b, 0, none⟩) hb]; exact hc⟩
    case H2 =>
      intro wb hwb
      show wpQuiet _ _ (fun w' => ∃ x : Later wb, w' = x.at) _ _ _
      simp only [List.drop_succ_cons, List.drop_zero, Act.put, List.setIfInBounds_toArray, List.set_cons_succ, List.set_cons_zero]
      repeat (go_big_quiet_step (fail))
      exact rfl
    case hend =>
      intro x wa hwa
      simp only [Act.put, List.setIfInBounds_toArray, List.set_cons_succ, List.set_cons_zero]
      go_wp2
      go_ret
      exact ⟨ret_str HT2.out.symm, HB.out.trans (hwa.mono HB.out.size)⟩

set_option maxRecDepth 100000 in
set_option maxHeartbeats 800000 in
theorem piece_walk (b : UInt8) (n : Nat) (w : World) (h1 : 1 ≤ n) (hn : n ≤ 255) :
    Calls Try.prog 42 #[.agg #[.int .u8 (b.toNat : Int), .int .i64 (n : Int)]] w fun e w' => e = .returned (.tuple #[.string (Fr.bs (Rl.text ⟨b, n⟩)), .int .i64 0]) ∧ Below w.heap.size w w' := by
  have HT := Lib.hid (fun w => xtext_walk b n w hn)
  have e1 : decide ((n : Int) < 1) = false := by simp; omega
  have e2 : decide ((255 : Int) < (n : Int)) = false := by simp; omega
  have e1' : ¬ (n : Int) < 1 := by omega
  have e2' : ¬ (255 : Int) < (n : Int) := by omega
  go_enter Try.func42, Try.ntmps42
  go_wp2_with fail
  (with_reducible refine (HT.out _).mono ?_)
  rintro e w1 ⟨rfl, hb⟩
  have HB := Lib.hid (((Below.refl w.heap.size w).alloc (Nat.le_refl _) (.cells #[.int .u8 (b.toNat : Int), .int .i64 (n : Int)] 50)).trans (hb.mono (by simp)))
  clear hb
  go_wp2
  go_ret2
  exact ⟨rfl, HB.out⟩
set_option maxRecDepth 100000 in
set_option maxHeartbeats 800000 in
theorem piece_bad (b : UInt8) (n : Int) (w : World) (h : n < 1 ∨ 255 < n) :
    Calls Try.prog 42 #[.agg #[.int .u8 (b.toNat : Int), .int .i64 n]] w fun e w' => e = .returned (.tuple #[.string ⟨#[]⟩, .int .i64 1]) ∧ Below w.heap.size w w' := by
  by_cases h1 : n < 1
  · have e1 : decide (n < 1) = true := by simpa using h1
    clear h
    go_enter Try.func42, Try.ntmps42
    go_wp2
    go_ret2
    exact ⟨rfl, (Below.refl _ _).alloc (Nat.le_refl _) _⟩
  · have e1 : decide (n < 1) = false := by simpa using h1
    have h2 : 255 < n := by omega
    have e2 : decide (255 < n) = true := by simpa using h2
    clear h
    go_enter Try.func42, Try.ntmps42
    go_wp2
    go_ret2
    exact ⟨rfl, (Below.refl _ _).alloc (Nat.le_refl _) _⟩
end Go.Proofs.Ytaldcdgafljedaa
