/- The reference of runes: more, wide, First. -/
import Derived.Test.YtajalllecoclcaaDoorTokMath
import Derived.Test.YtajalllecoclcaaDoorRleRef1
import Derived.Test.YtajalllecoclcaaDoorRet
import Derived.Deep.CutRange
namespace Go.Proofs.YtajalllecoclcaaDoor
open Go.RowKit
set_option linter.unusedVariables false
set_option linter.unusedSimpArgs false

theorem tk_at (s : ByteArray) (i : Nat) (h : i < s.size) : Tk.at_ s.data.toList i = s[i].toNat := by rw [Tk.at_get _ _ (by rw [llen]; exact h), lget s i h]
set_option maxRecDepth 100000 in
set_option maxHeartbeats 400000 in
theorem more_walk (s : ByteArray) (i : Nat) (w : World) (hi : i ≤ 10) : Calls Tryd.prog 66 #[.string s, .int .i64 (i : Int)] w fun e w' => e = .returned (.bool (Tk.contB s.data.toList i)) ∧ w = w' := by
  have e : Tk.contB s.data.toList i = decide (i < s.size ∧ 128 ≤ Tk.at_ s.data.toList i ∧ Tk.at_ s.data.toList i < 192) := by unfold Tk.contB; rw [llen]
  rw [e]
  clear e
  by_cases h : i < s.size
  · rw [tk_at s i h]
    have h' : (i : Int) < (s.size : Int) := by omega
    by_cases h1 : 128 ≤ s[i].toNat
    · have h1' : decide ((128 : Int) ≤ (s[i].toNat : Int)) = true := by simp; omega
      by_cases h2 : s[i].toNat < 192
      · have h2' : decide ((s[i].toNat : Int) < (192 : Int)) = true := by simp; omega
        rw [decide_eq_true (show i < s.size ∧ 128 ≤ s[i].toNat ∧ s[i].toNat < 192 from ⟨h, h1, h2⟩)]
        clear h1 h2
        go_enter Tryd.func66, Tryd.ntmps66
        go_wp2
        go_ret
        exact ⟨rfl, rfl⟩
      · have h2' : decide ((s[i].toNat : Int) < (192 : Int)) = false := by simp; omega
        rw [decide_eq_false (show ¬ (i < s.size ∧ 128 ≤ s[i].toNat ∧ s[i].toNat < 192) from fun x => h2 x.2.2)]
        clear h1 h2
        go_enter Tryd.func66, Tryd.ntmps66
        go_wp2
        go_ret
        exact ⟨rfl, rfl⟩
    · have h1' : decide ((128 : Int) ≤ (s[i].toNat : Int)) = false := by simp; omega
      rw [decide_eq_false (show ¬ (i < s.size ∧ 128 ≤ s[i].toNat ∧ s[i].toNat < 192) from fun x => h1 x.2.1)]
      clear h1
      go_enter Tryd.func66, Tryd.ntmps66
      go_wp2
      go_ret
      exact ⟨rfl, rfl⟩
  · rw [decide_eq_false (show ¬ (i < s.size ∧ _) from fun x => h x.1)]
    have h' : ¬ (i : Int) < (s.size : Int) := by omega
    clear h
    go_enter Tryd.func66, Tryd.ntmps66
    go_wp2
    go_ret
    exact ⟨rfl, rfl⟩
theorem cont_lt {l : List UInt8} {i : Nat} (h : Tk.contB l i = true) : i < l.length := (of_decide_eq_true h).1
set_option maxRecDepth 100000 in
set_option maxHeartbeats 800000 in
theorem wide2_walk (s : ByteArray) (w : World) (h0 : 0 < s.size) (hlo : 192 ≤ Tk.at_ s.data.toList 0) (hhi : Tk.at_ s.data.toList 0 < 224) : Calls Tryd.prog 64 #[.string s, .int .i64 2] w fun e w' => e = .returned (.agg #[.int .i64 (Tk.wide ((Tk.at_ s.data.toList 0 : Int) - 192) 128 s.data.toList 1).1, .int .i64 ((Tk.wide ((Tk.at_ s.data.toList 0 : Int) - 192) 128 s.data.toList 1).2 : Int)]) ∧ Below w.heap.size w w' := by
  have hb := fun j hj => Tk.cv_bd ((Tk.at_ s.data.toList 0 : Int) - 192) s.data.toList (by omega) (by omega) j hj
  have hwd : Tk.wide ((Tk.at_ s.data.toList 0 : Int) - 192) 128 s.data.toList 1 = if ∀ j, j < 1 → Tk.contB s.data.toList (j + 1) = true then Tk.wfin (Tk.cv ((Tk.at_ s.data.toList 0 : Int) - 192) s.data.toList 1) 128 (1 + 1) else (0, 0) := rfl
  have HW := Lib.hid hwd
  have HCS := Lib.hid (Tk.cv_succ ((Tk.at_ s.data.toList 0 : Int) - 192) s.data.toList)
  have HC0 := Lib.hid (show Tk.cv ((Tk.at_ s.data.toList 0 : Int) - 192) s.data.toList 0 = (Tk.at_ s.data.toList 0 : Int) - 192 from rfl)
  have HBD := Lib.hid hb
  clear hwd hb
  generalize Tk.wide ((Tk.at_ s.data.toList 0 : Int) - 192) 128 s.data.toList 1 = R at *
  obtain ⟨R1, R2⟩ := R
  rw [tk_at s 0 h0] at *
  generalize Tk.cv ((s[0].toNat : Int) - 192) s.data.toList = cv at *
  have hlo' : (192 : Int) ≤ (s[0].toNat : Int) := by omega
  have hhi' : (s[0].toNat : Int) < (224 : Int) := by omega
  have h0' : (0 : Int) < (s.size : Int) := by omega
  have HM := Lib.hid (fun i w hi => more_walk s i w hi)
  clear hlo hhi
  go_enter Tryd.func64, Tryd.ntmps64
  go_upto_region 12 with (fail)
  have HB0 := Lib.hid ((Below.refl w.heap.size w).alloc (Nat.le_refl _) (.cells #[.int .i64 0, .int .i64 0] 101))
  have HR0 := Lib.hid (Has.new w #[.int .i64 0, .int .i64 0] 101)
  generalize w.alloc (.cells #[.int .i64 0, .int .i64 0] 101) = w1 at *
  have r0 := HR0.out.cell 0; have r1 := HR0.out.cell 1
  have f0 := HR0.out.free 0; have f1 := HR0.out.free 1
  simp only [List.getElem?_toArray, List.getElem?_cons_zero, List.getElem?_cons_succ] at r0 r1
  go_wp2_with fail
  go_loopw [5, 7] (fun x i wr => ∃ n j : Nat, i = .int .i64 (n : Int) ∧ n = j + 1 ∧ j ≤ 1 ∧ x = .int .i64 (cv j) ∧ (∀ k, k < j → Tk.contB s.data.toList (k + 1) = true) ∧ wr = w1) (fun _ i _ => (1 + 1) - (intOf i).toNat)
  case atStart => exact ⟨1, 0, rfl, rfl, Nat.zero_le _, by rw [HC0.out], fun k hk => by omega, rfl⟩
  case round =>
    obtain ⟨n, j, rfl, hnj, hj, rfl, hcs, rfl⟩ := hrel
    have HNJ := Lib.hid hnj
    have HCC := Lib.hid hcs
    have hbd := HBD.out j hcs
    have hp3 : (64 : Int) ^ j ≤ 262144 := by
      rcases (by omega : j = 0 ∨ j = 1 ∨ j = 2 ∨ j = 3) with rfl | rfl | rfl | rfl <;> decide
    have hb0 := hbd.1
    have hb1 : cv j ≤ 10000000 := by omega
    have hjb : (n : Int) ≤ 4 := by omega
    have hC1 := HCS.out j
    rw [← hnj] at hC1
    clear hbd hp3 hcs
    by_cases hlt : j < 1
    · have hlt' : (n : Int) < 1 + 1 := by omega
      have HM1 := Lib.hid (fun w => HM.out n w (by omega))
      cases hct : Tk.contB s.data.toList n with
      | true =>
        rw [hct] at HM1
        have hsz := cont_lt hct
        rw [llen] at hsz
        rw [tk_at s n hsz] at hC1
        have hsz' : (n : Int) < (s.size : Int) := by omega
        have HCX := Lib.hid (show ∀ k, k < j + 1 → Tk.contB s.data.toList (k + 1) = true from fun k hk => by
          by_cases h : k = j
          · rw [h, ← hnj]; exact hct
          · exact HCC.out k (by omega))
        have HC2 := Lib.hid hC1
        clear hct hC1 hnj
        generalize cv j = c at *
        have hv0 : (0 : Int) ≤ (s[n].toNat : Int) := by omega
        have hv1 : (s[n].toNat : Int) ≤ 255 := by have := s[n].toNat_lt; omega
        have hv2 : (0 : Int) ≤ 64 * c + (s[n].toNat : Int) := by omega
        have hv3 : 64 * c + (s[n].toNat : Int) ≤ 1000000000 := by omega
        go_wp2_with fail
        (with_reducible refine (HM1.out _).mono ?_)
        rintro e w2 ⟨rfl, rfl⟩
        go_wp2
        go_roundw
        case rel => exact ⟨n + 1, j + 1, by go_num, by rw [HNJ.out], hlt, by rw [← HNJ.out, HC2.out], HCX.out, trivial⟩
        case measure => simp [intOf]; omega
      | false =>
        rw [hct] at HM1
        have HN := Lib.hid (show R1 = 0 ∧ R2 = 0 from by
          have h := HW.out
          rw [if_neg (fun x => by have := x j hlt; rw [← hnj, hct] at this; cases this)] at h
          exact ⟨congrArg Prod.fst h, congrArg Prod.snd h⟩)
        clear hct hC1 hnj
        generalize cv j = c at *
        go_wp2_with fail
        (with_reducible refine (HM1.out _).mono ?_)
        rintro e w2 ⟨rfl, rfl⟩
        go_wp2
        ((try simp only [Exit.inBlock, Exit.then]); refine bodyPost_ret (v := (.agg #[.int .i64 0, .int .i64 0])) ?_ rfl ⟨?_, ?_⟩; (rw [results_cell1 rfl]; go_simp))
        · rw [HN.out.1, HN.out.2]; rfl
        · (repeat (first | (with_reducible exact HB0.out) | refine Below.setCell ?_ (by first | exact Nat.le_refl _ | exact Nat.le_succ _) _))
    · have hje : j = 1 := by omega
      subst hje
      have hlt' : ¬ (n : Int) < 1 + 1 := by omega
      have h := HW.out
      rw [if_pos HCC.out] at h
      have HN := Lib.hid h
      clear h hC1 hnj
      generalize cv 1 = c at *
      by_cases g1 : c < 128
      · have e1 : decide (c < 128) = true := by simpa using g1
        have HZ := Lib.hid (show R1 = 0 ∧ R2 = 0 from by
          have h := HN.out
          unfold Tk.wfin at h
          rw [if_pos (.inl g1)] at h
          exact ⟨congrArg Prod.fst h, congrArg Prod.snd h⟩)
        clear g1
        go_wp2
        ((try simp only [Exit.inBlock, Exit.then]); refine bodyPost_ret (v := (.agg #[.int .i64 0, .int .i64 0])) ?_ rfl ⟨?_, ?_⟩; (rw [results_cell1 rfl]; go_simp))
        · rw [HZ.out.1, HZ.out.2]; rfl
        · (repeat (first | (with_reducible exact HB0.out) | refine Below.setCell ?_ (by first | exact Nat.le_refl _ | exact Nat.le_succ _) _))
      · have e1 : decide (c < 128) = false := by simpa using g1
        by_cases g2 : 1114111 < c
        · have e2 : decide (1114111 < c) = true := by simpa using g2
          have HZ := Lib.hid (show R1 = 0 ∧ R2 = 0 from by
            have h := HN.out
            unfold Tk.wfin at h
            rw [if_pos (.inr (.inl g2))] at h
            exact ⟨congrArg Prod.fst h, congrArg Prod.snd h⟩)
          clear g1 g2
          go_wp2
          ((try simp only [Exit.inBlock, Exit.then]); refine bodyPost_ret (v := (.agg #[.int .i64 0, .int .i64 0])) ?_ rfl ⟨?_, ?_⟩; (rw [results_cell1 rfl]; go_simp))
          · rw [HZ.out.1, HZ.out.2]; rfl
          · (repeat (first | (with_reducible exact HB0.out) | refine Below.setCell ?_ (by first | exact Nat.le_refl _ | exact Nat.le_succ _) _))
        · have e2 : decide (1114111 < c) = false := by simpa using g2
          by_cases g3 : 55296 ≤ c
          · have e3 : decide (55296 ≤ c) = true := by simpa using g3
            by_cases g4 : c ≤ 57343
            · have e4 : decide (c ≤ 57343) = true := by simpa using g4
              have HZ := Lib.hid (show R1 = 0 ∧ R2 = 0 from by
                have h := HN.out
                unfold Tk.wfin at h
                rw [if_pos (.inr (.inr ⟨g3, g4⟩))] at h
                exact ⟨congrArg Prod.fst h, congrArg Prod.snd h⟩)
              clear g1 g2 g3 g4
              go_wp2
              ((try simp only [Exit.inBlock, Exit.then]); refine bodyPost_ret (v := (.agg #[.int .i64 0, .int .i64 0])) ?_ rfl ⟨?_, ?_⟩; (rw [results_cell1 rfl]; go_simp))
              · rw [HZ.out.1, HZ.out.2]; rfl
              · (repeat (first | (with_reducible exact HB0.out) | refine Below.setCell ?_ (by first | exact Nat.le_refl _ | exact Nat.le_succ _) _))
            · have e4 : decide (c ≤ 57343) = false := by simpa using g4
              have HZ := Lib.hid (show R1 = c ∧ R2 = 1 + 1 from by
                have h := HN.out
                unfold Tk.wfin at h
                rw [if_neg (by omega)] at h
                exact ⟨congrArg Prod.fst h, congrArg Prod.snd h⟩)
              clear g1 g2 g3 g4
              go_wp2
              ((try simp only [Exit.inBlock, Exit.then]); refine bodyPost_ret (v := (.agg #[.int .i64 c, .int .i64 (1 + 1)])) ?_ rfl ⟨?_, ?_⟩; (rw [results_cell1 rfl]; go_simp))
              · rw [HZ.out.1, HZ.out.2]; rfl
              · (repeat (first | (with_reducible exact HB0.out) | refine Below.setCell ?_ (by first | exact Nat.le_refl _ | exact Nat.le_succ _) _))
          · have e3 : decide (55296 ≤ c) = false := by simpa using g3
            have HZ := Lib.hid (show R1 = c ∧ R2 = 1 + 1 from by
              have h := HN.out
              unfold Tk.wfin at h
              rw [if_neg (by omega)] at h
              exact ⟨congrArg Prod.fst h, congrArg Prod.snd h⟩)
            clear g1 g2 g3
            go_wp2
            ((try simp only [Exit.inBlock, Exit.then]); refine bodyPost_ret (v := (.agg #[.int .i64 c, .int .i64 (1 + 1)])) ?_ rfl ⟨?_, ?_⟩; (rw [results_cell1 rfl]; go_simp))
            · rw [HZ.out.1, HZ.out.2]; rfl
            · (repeat (first | (with_reducible exact HB0.out) | refine Below.setCell ?_ (by first | exact Nat.le_refl _ | exact Nat.le_succ _) _))
set_option maxRecDepth 100000 in
set_option maxHeartbeats 800000 in
theorem wide3_walk (s : ByteArray) (w : World) (h0 : 0 < s.size) (hlo : 224 ≤ Tk.at_ s.data.toList 0) (hhi : Tk.at_ s.data.toList 0 < 240) : Calls Tryd.prog 64 #[.string s, .int .i64 3] w fun e w' => e = .returned (.agg #[.int .i64 (Tk.wide ((Tk.at_ s.data.toList 0 : Int) - 224) 2048 s.data.toList 2).1, .int .i64 ((Tk.wide ((Tk.at_ s.data.toList 0 : Int) - 224) 2048 s.data.toList 2).2 : Int)]) ∧ Below w.heap.size w w' := by
  have hb := fun j hj => Tk.cv_bd ((Tk.at_ s.data.toList 0 : Int) - 224) s.data.toList (by omega) (by omega) j hj
  have hwd : Tk.wide ((Tk.at_ s.data.toList 0 : Int) - 224) 2048 s.data.toList 2 = if ∀ j, j < 2 → Tk.contB s.data.toList (j + 1) = true then Tk.wfin (Tk.cv ((Tk.at_ s.data.toList 0 : Int) - 224) s.data.toList 2) 2048 (2 + 1) else (0, 0) := rfl
  have HW := Lib.hid hwd
  have HCS := Lib.hid (Tk.cv_succ ((Tk.at_ s.data.toList 0 : Int) - 224) s.data.toList)
  have HC0 := Lib.hid (show Tk.cv ((Tk.at_ s.data.toList 0 : Int) - 224) s.data.toList 0 = (Tk.at_ s.data.toList 0 : Int) - 224 from rfl)
  have HBD := Lib.hid hb
  clear hwd hb
  generalize Tk.wide ((Tk.at_ s.data.toList 0 : Int) - 224) 2048 s.data.toList 2 = R at *
  obtain ⟨R1, R2⟩ := R
  rw [tk_at s 0 h0] at *
  generalize Tk.cv ((s[0].toNat : Int) - 224) s.data.toList = cv at *
  have hlo' : (224 : Int) ≤ (s[0].toNat : Int) := by omega
  have hhi' : (s[0].toNat : Int) < (240 : Int) := by omega
  have h0' : (0 : Int) < (s.size : Int) := by omega
  have HM := Lib.hid (fun i w hi => more_walk s i w hi)
  clear hlo hhi
  go_enter Tryd.func64, Tryd.ntmps64
  go_upto_region 12 with (fail)
  have HB0 := Lib.hid ((Below.refl w.heap.size w).alloc (Nat.le_refl _) (.cells #[.int .i64 0, .int .i64 0] 101))
  have HR0 := Lib.hid (Has.new w #[.int .i64 0, .int .i64 0] 101)
  generalize w.alloc (.cells #[.int .i64 0, .int .i64 0] 101) = w1 at *
  have r0 := HR0.out.cell 0; have r1 := HR0.out.cell 1
  have f0 := HR0.out.free 0; have f1 := HR0.out.free 1
  simp only [List.getElem?_toArray, List.getElem?_cons_zero, List.getElem?_cons_succ] at r0 r1
  go_wp2_with fail
  go_loopw [5, 7] (fun x i wr => ∃ n j : Nat, i = .int .i64 (n : Int) ∧ n = j + 1 ∧ j ≤ 2 ∧ x = .int .i64 (cv j) ∧ (∀ k, k < j → Tk.contB s.data.toList (k + 1) = true) ∧ wr = w1) (fun _ i _ => (2 + 1) - (intOf i).toNat)
  case atStart => exact ⟨1, 0, rfl, rfl, Nat.zero_le _, by rw [HC0.out], fun k hk => by omega, rfl⟩
  case round =>
    obtain ⟨n, j, rfl, hnj, hj, rfl, hcs, rfl⟩ := hrel
    have HNJ := Lib.hid hnj
    have HCC := Lib.hid hcs
    have hbd := HBD.out j hcs
    have hp3 : (64 : Int) ^ j ≤ 262144 := by
      rcases (by omega : j = 0 ∨ j = 1 ∨ j = 2 ∨ j = 3) with rfl | rfl | rfl | rfl <;> decide
    have hb0 := hbd.1
    have hb1 : cv j ≤ 10000000 := by omega
    have hjb : (n : Int) ≤ 4 := by omega
    have hC1 := HCS.out j
    rw [← hnj] at hC1
    clear hbd hp3 hcs
    by_cases hlt : j < 2
    · have hlt' : (n : Int) < 2 + 1 := by omega
      have HM1 := Lib.hid (fun w => HM.out n w (by omega))
      cases hct : Tk.contB s.data.toList n with
      | true =>
        rw [hct] at HM1
        have hsz := cont_lt hct
        rw [llen] at hsz
        rw [tk_at s n hsz] at hC1
        have hsz' : (n : Int) < (s.size : Int) := by omega
        have HCX := Lib.hid (show ∀ k, k < j + 1 → Tk.contB s.data.toList (k + 1) = true from fun k hk => by
          by_cases h : k = j
          · rw [h, ← hnj]; exact hct
          · exact HCC.out k (by omega))
        have HC2 := Lib.hid hC1
        clear hct hC1 hnj
        generalize cv j = c at *
        have hv0 : (0 : Int) ≤ (s[n].toNat : Int) := by omega
        have hv1 : (s[n].toNat : Int) ≤ 255 := by have := s[n].toNat_lt; omega
        have hv2 : (0 : Int) ≤ 64 * c + (s[n].toNat : Int) := by omega
        have hv3 : 64 * c + (s[n].toNat : Int) ≤ 1000000000 := by omega
        go_wp2_with fail
        (with_reducible refine (HM1.out _).mono ?_)
        rintro e w2 ⟨rfl, rfl⟩
        go_wp2
        go_roundw
        case rel => exact ⟨n + 1, j + 1, by go_num, by rw [HNJ.out], hlt, by rw [← HNJ.out, HC2.out], HCX.out, trivial⟩
        case measure => simp [intOf]; omega
      | false =>
        rw [hct] at HM1
        have HN := Lib.hid (show R1 = 0 ∧ R2 = 0 from by
          have h := HW.out
          rw [if_neg (fun x => by have := x j hlt; rw [← hnj, hct] at this; cases this)] at h
          exact ⟨congrArg Prod.fst h, congrArg Prod.snd h⟩)
        clear hct hC1 hnj
        generalize cv j = c at *
        go_wp2_with fail
        (with_reducible refine (HM1.out _).mono ?_)
        rintro e w2 ⟨rfl, rfl⟩
        go_wp2
        ((try simp only [Exit.inBlock, Exit.then]); refine bodyPost_ret (v := (.agg #[.int .i64 0, .int .i64 0])) ?_ rfl ⟨?_, ?_⟩; (rw [results_cell1 rfl]; go_simp))
        · rw [HN.out.1, HN.out.2]; rfl
        · (repeat (first | (with_reducible exact HB0.out) | refine Below.setCell ?_ (by first | exact Nat.le_refl _ | exact Nat.le_succ _) _))
    · have hje : j = 2 := by omega
      subst hje
      have hlt' : ¬ (n : Int) < 2 + 1 := by omega
      have h := HW.out
      rw [if_pos HCC.out] at h
      have HN := Lib.hid h
      clear h hC1 hnj
      generalize cv 2 = c at *
      by_cases g1 : c < 2048
      · have e1 : decide (c < 2048) = true := by simpa using g1
        have HZ := Lib.hid (show R1 = 0 ∧ R2 = 0 from by
          have h := HN.out
          unfold Tk.wfin at h
          rw [if_pos (.inl g1)] at h
          exact ⟨congrArg Prod.fst h, congrArg Prod.snd h⟩)
        clear g1
        go_wp2
        ((try simp only [Exit.inBlock, Exit.then]); refine bodyPost_ret (v := (.agg #[.int .i64 0, .int .i64 0])) ?_ rfl ⟨?_, ?_⟩; (rw [results_cell1 rfl]; go_simp))
        · rw [HZ.out.1, HZ.out.2]; rfl
        · (repeat (first | (with_reducible exact HB0.out) | refine Below.setCell ?_ (by first | exact Nat.le_refl _ | exact Nat.le_succ _) _))
      · have e1 : decide (c < 2048) = false := by simpa using g1
        by_cases g2 : 1114111 < c
        · have e2 : decide (1114111 < c) = true := by simpa using g2
          have HZ := Lib.hid (show R1 = 0 ∧ R2 = 0 from by
            have h := HN.out
            unfold Tk.wfin at h
            rw [if_pos (.inr (.inl g2))] at h
            exact ⟨congrArg Prod.fst h, congrArg Prod.snd h⟩)
          clear g1 g2
          go_wp2
          ((try simp only [Exit.inBlock, Exit.then]); refine bodyPost_ret (v := (.agg #[.int .i64 0, .int .i64 0])) ?_ rfl ⟨?_, ?_⟩; (rw [results_cell1 rfl]; go_simp))
          · rw [HZ.out.1, HZ.out.2]; rfl
          · (repeat (first | (with_reducible exact HB0.out) | refine Below.setCell ?_ (by first | exact Nat.le_refl _ | exact Nat.le_succ _) _))
        · have e2 : decide (1114111 < c) = false := by simpa using g2
          by_cases g3 : 55296 ≤ c
          · have e3 : decide (55296 ≤ c) = true := by simpa using g3
            by_cases g4 : c ≤ 57343
            · have e4 : decide (c ≤ 57343) = true := by simpa using g4
              have HZ := Lib.hid (show R1 = 0 ∧ R2 = 0 from by
                have h := HN.out
                unfold Tk.wfin at h
                rw [if_pos (.inr (.inr ⟨g3, g4⟩))] at h
                exact ⟨congrArg Prod.fst h, congrArg Prod.snd h⟩)
              clear g1 g2 g3 g4
              go_wp2
              ((try simp only [Exit.inBlock, Exit.then]); refine bodyPost_ret (v := (.agg #[.int .i64 0, .int .i64 0])) ?_ rfl ⟨?_, ?_⟩; (rw [results_cell1 rfl]; go_simp))
              · rw [HZ.out.1, HZ.out.2]; rfl
              · (repeat (first | (with_reducible exact HB0.out) | refine Below.setCell ?_ (by first | exact Nat.le_refl _ | exact Nat.le_succ _) _))
            · have e4 : decide (c ≤ 57343) = false := by simpa using g4
              have HZ := Lib.hid (show R1 = c ∧ R2 = 2 + 1 from by
                have h := HN.out
                unfold Tk.wfin at h
                rw [if_neg (by omega)] at h
                exact ⟨congrArg Prod.fst h, congrArg Prod.snd h⟩)
              clear g1 g2 g3 g4
              go_wp2
              ((try simp only [Exit.inBlock, Exit.then]); refine bodyPost_ret (v := (.agg #[.int .i64 c, .int .i64 (2 + 1)])) ?_ rfl ⟨?_, ?_⟩; (rw [results_cell1 rfl]; go_simp))
              · rw [HZ.out.1, HZ.out.2]; rfl
              · (repeat (first | (with_reducible exact HB0.out) | refine Below.setCell ?_ (by first | exact Nat.le_refl _ | exact Nat.le_succ _) _))
          · have e3 : decide (55296 ≤ c) = false := by simpa using g3
            have HZ := Lib.hid (show R1 = c ∧ R2 = 2 + 1 from by
              have h := HN.out
              unfold Tk.wfin at h
              rw [if_neg (by omega)] at h
              exact ⟨congrArg Prod.fst h, congrArg Prod.snd h⟩)
            clear g1 g2 g3
            go_wp2
            ((try simp only [Exit.inBlock, Exit.then]); refine bodyPost_ret (v := (.agg #[.int .i64 c, .int .i64 (2 + 1)])) ?_ rfl ⟨?_, ?_⟩; (rw [results_cell1 rfl]; go_simp))
            · rw [HZ.out.1, HZ.out.2]; rfl
            · (repeat (first | (with_reducible exact HB0.out) | refine Below.setCell ?_ (by first | exact Nat.le_refl _ | exact Nat.le_succ _) _))
set_option maxRecDepth 100000 in
set_option maxHeartbeats 800000 in
theorem wide4_walk (s : ByteArray) (w : World) (h0 : 0 < s.size) (hlo : 240 ≤ Tk.at_ s.data.toList 0) (hhi : Tk.at_ s.data.toList 0 < 248) : Calls Tryd.prog 64 #[.string s, .int .i64 4] w fun e w' => e = .returned (.agg #[.int .i64 (Tk.wide ((Tk.at_ s.data.toList 0 : Int) - 240) 65536 s.data.toList 3).1, .int .i64 ((Tk.wide ((Tk.at_ s.data.toList 0 : Int) - 240) 65536 s.data.toList 3).2 : Int)]) ∧ Below w.heap.size w w' := by
  have hb := fun j hj => Tk.cv_bd ((Tk.at_ s.data.toList 0 : Int) - 240) s.data.toList (by omega) (by omega) j hj
  have hwd : Tk.wide ((Tk.at_ s.data.toList 0 : Int) - 240) 65536 s.data.toList 3 = if ∀ j, j < 3 → Tk.contB s.data.toList (j + 1) = true then Tk.wfin (Tk.cv ((Tk.at_ s.data.toList 0 : Int) - 240) s.data.toList 3) 65536 (3 + 1) else (0, 0) := rfl
  have HW := Lib.hid hwd
  have HCS := Lib.hid (Tk.cv_succ ((Tk.at_ s.data.toList 0 : Int) - 240) s.data.toList)
  have HC0 := Lib.hid (show Tk.cv ((Tk.at_ s.data.toList 0 : Int) - 240) s.data.toList 0 = (Tk.at_ s.data.toList 0 : Int) - 240 from rfl)
  have HBD := Lib.hid hb
  clear hwd hb
  generalize Tk.wide ((Tk.at_ s.data.toList 0 : Int) - 240) 65536 s.data.toList 3 = R at *
  obtain ⟨R1, R2⟩ := R
  rw [tk_at s 0 h0] at *
  generalize Tk.cv ((s[0].toNat : Int) - 240) s.data.toList = cv at *
  have hlo' : (240 : Int) ≤ (s[0].toNat : Int) := by omega
  have hhi' : (s[0].toNat : Int) < (248 : Int) := by omega
  have h0' : (0 : Int) < (s.size : Int) := by omega
  have HM := Lib.hid (fun i w hi => more_walk s i w hi)
  clear hlo hhi
  go_enter Tryd.func64, Tryd.ntmps64
  go_upto_region 12 with (fail)
  have HB0 := Lib.hid ((Below.refl w.heap.size w).alloc (Nat.le_refl _) (.cells #[.int .i64 0, .int .i64 0] 101))
  have HR0 := Lib.hid (Has.new w #[.int .i64 0, .int .i64 0] 101)
  generalize w.alloc (.cells #[.int .i64 0, .int .i64 0] 101) = w1 at *
  have r0 := HR0.out.cell 0; have r1 := HR0.out.cell 1
  have f0 := HR0.out.free 0; have f1 := HR0.out.free 1
  simp only [List.getElem?_toArray, List.getElem?_cons_zero, List.getElem?_cons_succ] at r0 r1
  go_wp2_with fail
  go_loopw [5, 7] (fun x i wr => ∃ n j : Nat, i = .int .i64 (n : Int) ∧ n = j + 1 ∧ j ≤ 3 ∧ x = .int .i64 (cv j) ∧ (∀ k, k < j → Tk.contB s.data.toList (k + 1) = true) ∧ wr = w1) (fun _ i _ => (3 + 1) - (intOf i).toNat)
  case atStart => exact ⟨1, 0, rfl, rfl, Nat.zero_le _, by rw [HC0.out], fun k hk => by omega, rfl⟩
  case round =>
    obtain ⟨n, j, rfl, hnj, hj, rfl, hcs, rfl⟩ := hrel
    have HNJ := Lib.hid hnj
    have HCC := Lib.hid hcs
    have hbd := HBD.out j hcs
    have hp3 : (64 : Int) ^ j ≤ 262144 := by
      rcases (by omega : j = 0 ∨ j = 1 ∨ j = 2 ∨ j = 3) with rfl | rfl | rfl | rfl <;> decide
    have hb0 := hbd.1
    have hb1 : cv j ≤ 10000000 := by omega
    have hjb : (n : Int) ≤ 4 := by omega
    have hC1 := HCS.out j
    rw [← hnj] at hC1
    clear hbd hp3 hcs
    by_cases hlt : j < 3
    · have hlt' : (n : Int) < 3 + 1 := by omega
      have HM1 := Lib.hid (fun w => HM.out n w (by omega))
      cases hct : Tk.contB s.data.toList n with
      | true =>
        rw [hct] at HM1
        have hsz := cont_lt hct
        rw [llen] at hsz
        rw [tk_at s n hsz] at hC1
        have hsz' : (n : Int) < (s.size : Int) := by omega
        have HCX := Lib.hid (show ∀ k, k < j + 1 → Tk.contB s.data.toList (k + 1) = true from fun k hk => by
          by_cases h : k = j
          · rw [h, ← hnj]; exact hct
          · exact HCC.out k (by omega))
        have HC2 := Lib.hid hC1
        clear hct hC1 hnj
        generalize cv j = c at *
        have hv0 : (0 : Int) ≤ (s[n].toNat : Int) := by omega
        have hv1 : (s[n].toNat : Int) ≤ 255 := by have := s[n].toNat_lt; omega
        have hv2 : (0 : Int) ≤ 64 * c + (s[n].toNat : Int) := by omega
        have hv3 : 64 * c + (s[n].toNat : Int) ≤ 1000000000 := by omega
        go_wp2_with fail
        (with_reducible refine (HM1.out _).mono ?_)
        rintro e w2 ⟨rfl, rfl⟩
        go_wp2
        go_roundw
        case rel => exact ⟨n + 1, j + 1, by go_num, by rw [HNJ.out], hlt, by rw [← HNJ.out, HC2.out], HCX.out, trivial⟩
        case measure => simp [intOf]; omega
      | false =>
        rw [hct] at HM1
        have HN := Lib.hid (show R1 = 0 ∧ R2 = 0 from by
          have h := HW.out
          rw [if_neg (fun x => by have := x j hlt; rw [← hnj, hct] at this; cases this)] at h
          exact ⟨congrArg Prod.fst h, congrArg Prod.snd h⟩)
        clear hct hC1 hnj
        generalize cv j = c at *
        go_wp2_with fail
        (with_reducible refine (HM1.out _).mono ?_)
        rintro e w2 ⟨rfl, rfl⟩
        go_wp2
        ((try simp only [Exit.inBlock, Exit.then]); refine bodyPost_ret (v := (.agg #[.int .i64 0, .int .i64 0])) ?_ rfl ⟨?_, ?_⟩; (rw [results_cell1 rfl]; go_simp))
        · rw [HN.out.1, HN.out.2]; rfl
        · (repeat (first | (with_reducible exact HB0.out) | refine Below.setCell ?_ (by first | exact Nat.le_refl _ | exact Nat.le_succ _) _))
    · have hje : j = 3 := by omega
      subst hje
      have hlt' : ¬ (n : Int) < 3 + 1 := by omega
      have h := HW.out
      rw [if_pos HCC.out] at h
      have HN := Lib.hid h
      clear h hC1 hnj
      generalize cv 3 = c at *
      by_cases g1 : c < 65536
      · have e1 : decide (c < 65536) = true := by simpa using g1
        have HZ := Lib.hid (show R1 = 0 ∧ R2 = 0 from by
          have h := HN.out
          unfold Tk.wfin at h
          rw [if_pos (.inl g1)] at h
          exact ⟨congrArg Prod.fst h, congrArg Prod.snd h⟩)
        clear g1
        go_wp2
        ((try simp only [Exit.inBlock, Exit.then]); refine bodyPost_ret (v := (.agg #[.int .i64 0, .int .i64 0])) ?_ rfl ⟨?_, ?_⟩; (rw [results_cell1 rfl]; go_simp))
        · rw [HZ.out.1, HZ.out.2]; rfl
        · (repeat (first | (with_reducible exact HB0.out) | refine Below.setCell ?_ (by first | exact Nat.le_refl _ | exact Nat.le_succ _) _))
      · have e1 : decide (c < 65536) = false := by simpa using g1
        by_cases g2 : 1114111 < c
        · have e2 : decide (1114111 < c) = true := by simpa using g2
          have HZ := Lib.hid (show R1 = 0 ∧ R2 = 0 from by
            have h := HN.out
            unfold Tk.wfin at h
            rw [if_pos (.inr (.inl g2))] at h
            exact ⟨congrArg Prod.fst h, congrArg Prod.snd h⟩)
          clear g1 g2
          go_wp2
          ((try simp only [Exit.inBlock, Exit.then]); refine bodyPost_ret (v := (.agg #[.int .i64 0, .int .i64 0])) ?_ rfl ⟨?_, ?_⟩; (rw [results_cell1 rfl]; go_simp))
          · rw [HZ.out.1, HZ.out.2]; rfl
          · (repeat (first | (with_reducible exact HB0.out) | refine Below.setCell ?_ (by first | exact Nat.le_refl _ | exact Nat.le_succ _) _))
        · have e2 : decide (1114111 < c) = false := by simpa using g2
          by_cases g3 : 55296 ≤ c
          · have e3 : decide (55296 ≤ c) = true := by simpa using g3
            by_cases g4 : c ≤ 57343
            · have e4 : decide (c ≤ 57343) = true := by simpa using g4
              have HZ := Lib.hid (show R1 = 0 ∧ R2 = 0 from by
                have h := HN.out
                unfold Tk.wfin at h
                rw [if_pos (.inr (.inr ⟨g3, g4⟩))] at h
                exact ⟨congrArg Prod.fst h, congrArg Prod.snd h⟩)
              clear g1 g2 g3 g4
              go_wp2
              ((try simp only [Exit.inBlock, Exit.then]); refine bodyPost_ret (v := (.agg #[.int .i64 0, .int .i64 0])) ?_ rfl ⟨?_, ?_⟩; (rw [results_cell1 rfl]; go_simp))
              · rw [HZ.out.1, HZ.out.2]; rfl
              · (repeat (first | (with_reducible exact HB0.out) | refine Below.setCell ?_ (by first | exact Nat.le_refl _ | exact Nat.le_succ _) _))
            · have e4 : decide (c ≤ 57343) = false := by simpa using g4
              have HZ := Lib.hid (show R1 = c ∧ R2 = 3 + 1 from by
                have h := HN.out
                unfold Tk.wfin at h
                rw [if_neg (by omega)] at h
                exact ⟨congrArg Prod.fst h, congrArg Prod.snd h⟩)
              clear g1 g2 g3 g4
              go_wp2
              ((try simp only [Exit.inBlock, Exit.then]); refine bodyPost_ret (v := (.agg #[.int .i64 c, .int .i64 (3 + 1)])) ?_ rfl ⟨?_, ?_⟩; (rw [results_cell1 rfl]; go_simp))
              · rw [HZ.out.1, HZ.out.2]; rfl
              · (repeat (first | (with_reducible exact HB0.out) | refine Below.setCell ?_ (by first | exact Nat.le_refl _ | exact Nat.le_succ _) _))
          · have e3 : decide (55296 ≤ c) = false := by simpa using g3
            have HZ := Lib.hid (show R1 = c ∧ R2 = 3 + 1 from by
              have h := HN.out
              unfold Tk.wfin at h
              rw [if_neg (by omega)] at h
              exact ⟨congrArg Prod.fst h, congrArg Prod.snd h⟩)
            clear g1 g2 g3
            go_wp2
            ((try simp only [Exit.inBlock, Exit.then]); refine bodyPost_ret (v := (.agg #[.int .i64 c, .int .i64 (3 + 1)])) ?_ rfl ⟨?_, ?_⟩; (rw [results_cell1 rfl]; go_simp))
            · rw [HZ.out.1, HZ.out.2]; rfl
            · (repeat (first | (with_reducible exact HB0.out) | refine Below.setCell ?_ (by first | exact Nat.le_refl _ | exact Nat.le_succ _) _))
end Go.Proofs.YtajalllecoclcaaDoor
