/- Requests and answers: what stands in their frames; the laws' two turns. -/
import Derived.Test.YtckdbkbecelgcaaDoorPrReadR
import Derived.Test.YtckdbkbecelgcaaDoorPrHearR
import Derived.Test.YtckdbkbecelgcaaDoorFrameWalk1
namespace Go.Proofs.YtckdbkbecelgcaaDoor
open Go.RowKit
set_option linter.unusedVariables false
set_option linter.unusedSimpArgs false

theorem one_cv (w : World) (b : UInt8) (c : Int) (hc : c = (b.toNat : Int)) : (convert 75 9 (.slice (some ⟨w.heap.size, 0, none⟩) 1 1)).run Tryd.prog (w.alloc (.cells #[.int .u8 c] 5)) = .ok (.string (Fr.bs [b])) (w.alloc (.cells #[.int .u8 c] 5)) := by
  subst hc
  have hr : RowAt (w.alloc (.cells #[.int .u8 (b.toNat : Int)] 5)) (some ⟨w.heap.size, 0, none⟩) 1 1 ([b].map vB) :=
    ⟨Nat.le_refl _, by unfold maxLen; omega, rfl, (fun e => nomatch e), fun x hx _ => by
      cases hx
      refine ⟨w.heap.size, 0, rfl, fun i hi => ?_⟩
      obtain rfl : i = 0 := by omega
      rw [(Has.new w _ _).cell]; rfl⟩
  exact convert_row (bs := [b]) Tryd.underlying75 Tryd.underlying5 Tryd.underlying9 hr
set_option maxRecDepth 100000 in
set_option maxHeartbeats 800000 in
theorem data_walk (t j : Int) (tok txt : ByteArray) (k lv n : Int) (w : World) : Calls Tryd.prog 32 #[.agg #[.int .i64 t, .int .i64 j, .string tok, .string txt, .int .i64 k, .int .i64 lv, .int .i64 n]] w fun e w' => e = .returned (.string (Pr.pd ⟨t, j, tok, txt, k, lv, n⟩)) ∧ Below w.heap.size w w' := by
  by_cases h1 : t = 1
  · subst h1
    go_enter Tryd.func32, Tryd.ntmps32
    go_upto_region 1 with (fail)
    have HB := Lib.hid ((Below.refl w.heap.size w).alloc (Nat.le_refl _) (.cells #[.int .i64 1, .int .i64 j, .string tok, .string txt, .int .i64 k, .int .i64 lv, .int .i64 n] 27))
    have HX := Lib.hid (Has.new w #[.int .i64 1, .int .i64 j, .string tok, .string txt, .int .i64 k, .int .i64 lv, .int .i64 n] 27)
    generalize w.alloc (.cells #[.int .i64 1, .int .i64 j, .string tok, .string txt, .int .i64 k, .int .i64 lv, .int .i64 n] 27) = w2 at *
    have c0 := HX.out.cell 0; have c1 := HX.out.cell 1; have c2 := HX.out.cell 2; have c3 := HX.out.cell 3; have c4 := HX.out.cell 4; have c5 := HX.out.cell 5; have c6 := HX.out.cell 6
    simp only [List.getElem?_toArray, List.getElem?_cons_zero, List.getElem?_cons_succ] at c0 c1 c2 c3 c4 c5 c6
    go_wp2
    go_ret
    exact ⟨rfl, HB.out⟩
  by_cases h2 : t = 2
  · subst h2
    by_cases k1 : k = 1
    · subst k1
      have hs : ∀ w, (Instr.slice 9 (.string ⟨#[63, 99, 120, 116]⟩) (some (.int .i64 1)) (some (.int .i64 2)) none).run Tryd.prog w = .ok (.string ⟨#[99]⟩) w := fun w => run_slice_str Tryd.underlying9 ⟨#[63, 99, 120, 116]⟩ 1 2 1 2 rfl rfl (by decide) (by decide) w
      by_cases hlv : 0 ≤ lv ∧ lv ≤ 9
      · have e1 : decide (0 ≤ lv) = true := by simpa using hlv.1
        have e2 : decide (lv ≤ 9) = true := by simpa using hlv.2
        have hp : Pr.pd ⟨2, j, tok, txt, 1, lv, n⟩ = ⟨#[99]⟩ ++ Fr.bs [UInt8.ofNat (48 + lv.toNat)] := by
          unfold Pr.pd
          rw [if_neg (by simp only; decide), if_pos rfl, if_pos rfl, if_pos hlv]
          apply Fr.bs_inj
          rw [Fr.list_append]; rfl
        have hb : 48 + lv = ((UInt8.ofNat (48 + lv.toNat)).toNat : Int) := by rw [UInt8.toNat_ofNat']; omega
        obtain ⟨g1, g2⟩ := hlv
        rw [hp]
        have HCV := Lib.hid (fun w => one_cv w _ _ hb)
        have hz := bs_size [UInt8.ofNat (48 + lv.toNat)]
        generalize Fr.bs [UInt8.ofNat (48 + lv.toNat)] = DG at *
        have hz1 : DG.size = 1 := hz
        clear hp hb hz
        go_enter Tryd.func32, Tryd.ntmps32
        go_upto_region 1 with (fail)
        have HB := Lib.hid ((Below.refl w.heap.size w).alloc (Nat.le_refl _) (.cells #[.int .i64 2, .int .i64 j, .string tok, .string txt, .int .i64 1, .int .i64 lv, .int .i64 n] 27))
        have HX := Lib.hid (Has.new w #[.int .i64 2, .int .i64 j, .string tok, .string txt, .int .i64 1, .int .i64 lv, .int .i64 n] 27)
        generalize w.alloc (.cells #[.int .i64 2, .int .i64 j, .string tok, .string txt, .int .i64 1, .int .i64 lv, .int .i64 n] 27) = w2 at *
        have c0 := HX.out.cell 0; have c1 := HX.out.cell 1; have c2 := HX.out.cell 2; have c3 := HX.out.cell 3; have c4 := HX.out.cell 4; have c5 := HX.out.cell 5; have c6 := HX.out.cell 6
        simp only [List.getElem?_toArray, List.getElem?_cons_zero, List.getElem?_cons_succ] at c0 c1 c2 c3 c4 c5 c6
        have hcv := HCV.out w2
        go_wp2
        go_ret
        exact ⟨rfl, HB.out.alloc HB.out.size _⟩
      · have hp : Pr.pd ⟨2, j, tok, txt, 1, lv, n⟩ = ⟨#[99]⟩ := by
          unfold Pr.pd
          rw [if_neg (by simp only; decide), if_pos rfl, if_pos rfl, if_neg hlv]
        rw [hp]
        have hd : decide (0 ≤ lv) = false ∨ (decide (0 ≤ lv) = true ∧ decide (lv ≤ 9) = false) := by
          by_cases g : 0 ≤ lv
          · exact .inr ⟨decide_eq_true g, decide_eq_false (fun x => hlv ⟨g, x⟩)⟩
          · exact .inl (decide_eq_false g)
        clear hp hlv
        rcases hd with e1 | ⟨e1, e2⟩
        · go_enter Tryd.func32, Tryd.ntmps32
          go_upto_region 1 with (fail)
          have HB := Lib.hid ((Below.refl w.heap.size w).alloc (Nat.le_refl _) (.cells #[.int .i64 2, .int .i64 j, .string tok, .string txt, .int .i64 1, .int .i64 lv, .int .i64 n] 27))
          have HX := Lib.hid (Has.new w #[.int .i64 2, .int .i64 j, .string tok, .string txt, .int .i64 1, .int .i64 lv, .int .i64 n] 27)
          generalize w.alloc (.cells #[.int .i64 2, .int .i64 j, .string tok, .string txt, .int .i64 1, .int .i64 lv, .int .i64 n] 27) = w2 at *
          have c0 := HX.out.cell 0; have c1 := HX.out.cell 1; have c2 := HX.out.cell 2; have c3 := HX.out.cell 3; have c4 := HX.out.cell 4; have c5 := HX.out.cell 5; have c6 := HX.out.cell 6
          simp only [List.getElem?_toArray, List.getElem?_cons_zero, List.getElem?_cons_succ] at c0 c1 c2 c3 c4 c5 c6
          go_wp2
          go_ret
          exact ⟨rfl, HB.out⟩
        · go_enter Tryd.func32, Tryd.ntmps32
          go_upto_region 1 with (fail)
          have HB := Lib.hid ((Below.refl w.heap.size w).alloc (Nat.le_refl _) (.cells #[.int .i64 2, .int .i64 j, .string tok, .string txt, .int .i64 1, .int .i64 lv, .int .i64 n] 27))
          have HX := Lib.hid (Has.new w #[.int .i64 2, .int .i64 j, .string tok, .string txt, .int .i64 1, .int .i64 lv, .int .i64 n] 27)
          generalize w.alloc (.cells #[.int .i64 2, .int .i64 j, .string tok, .string txt, .int .i64 1, .int .i64 lv, .int .i64 n] 27) = w2 at *
          have c0 := HX.out.cell 0; have c1 := HX.out.cell 1; have c2 := HX.out.cell 2; have c3 := HX.out.cell 3; have c4 := HX.out.cell 4; have c5 := HX.out.cell 5; have c6 := HX.out.cell 6
          simp only [List.getElem?_toArray, List.getElem?_cons_zero, List.getElem?_cons_succ] at c0 c1 c2 c3 c4 c5 c6
          go_wp2
          go_ret
          exact ⟨rfl, HB.out⟩
    by_cases k2 : k = 2
    · subst k2
      have hs : ∀ w, (Instr.slice 9 (.string ⟨#[63, 99, 120, 116]⟩) (some (.int .i64 2)) (some (.int .i64 3)) none).run Tryd.prog w = .ok (.string ⟨#[120]⟩) w := fun w => run_slice_str Tryd.underlying9 ⟨#[63, 99, 120, 116]⟩ 2 3 2 3 rfl rfl (by decide) (by decide) w
      have hp : Pr.pd ⟨2, j, tok, txt, 2, lv, n⟩ = ⟨#[120]⟩ := by
        unfold Pr.pd
        rw [if_neg (by simp only; decide), if_pos rfl, if_neg (by simp only; decide), if_pos rfl]
      rw [hp]
      clear hp k1
      go_enter Tryd.func32, Tryd.ntmps32
      go_upto_region 1 with (fail)
      have HB := Lib.hid ((Below.refl w.heap.size w).alloc (Nat.le_refl _) (.cells #[.int .i64 2, .int .i64 j, .string tok, .string txt, .int .i64 2, .int .i64 lv, .int .i64 n] 27))
      have HX := Lib.hid (Has.new w #[.int .i64 2, .int .i64 j, .string tok, .string txt, .int .i64 2, .int .i64 lv, .int .i64 n] 27)
      generalize w.alloc (.cells #[.int .i64 2, .int .i64 j, .string tok, .string txt, .int .i64 2, .int .i64 lv, .int .i64 n] 27) = w2 at *
      have c0 := HX.out.cell 0; have c1 := HX.out.cell 1; have c2 := HX.out.cell 2; have c3 := HX.out.cell 3; have c4 := HX.out.cell 4; have c5 := HX.out.cell 5; have c6 := HX.out.cell 6
      simp only [List.getElem?_toArray, List.getElem?_cons_zero, List.getElem?_cons_succ] at c0 c1 c2 c3 c4 c5 c6
      go_wp2
      go_ret
      exact ⟨rfl, HB.out⟩
    by_cases k3 : k = 3
    · subst k3
      have hs : ∀ w, (Instr.slice 9 (.string ⟨#[63, 99, 120, 116]⟩) (some (.int .i64 3)) (some (.int .i64 4)) none).run Tryd.prog w = .ok (.string ⟨#[116]⟩) w := fun w => run_slice_str Tryd.underlying9 ⟨#[63, 99, 120, 116]⟩ 3 4 3 4 rfl rfl (by decide) (by decide) w
      have hp : Pr.pd ⟨2, j, tok, txt, 3, lv, n⟩ = ⟨#[116]⟩ := by
        unfold Pr.pd
        rw [if_neg (by simp only; decide), if_pos rfl, if_neg (by simp only; decide), if_neg (by simp only; decide), if_pos rfl]
      rw [hp]
      clear hp k1 k2
      go_enter Tryd.func32, Tryd.ntmps32
      go_upto_region 1 with (fail)
      have HB := Lib.hid ((Below.refl w.heap.size w).alloc (Nat.le_refl _) (.cells #[.int .i64 2, .int .i64 j, .string tok, .string txt, .int .i64 3, .int .i64 lv, .int .i64 n] 27))
      have HX := Lib.hid (Has.new w #[.int .i64 2, .int .i64 j, .string tok, .string txt, .int .i64 3, .int .i64 lv, .int .i64 n] 27)
      generalize w.alloc (.cells #[.int .i64 2, .int .i64 j, .string tok, .string txt, .int .i64 3, .int .i64 lv, .int .i64 n] 27) = w2 at *
      have c0 := HX.out.cell 0; have c1 := HX.out.cell 1; have c2 := HX.out.cell 2; have c3 := HX.out.cell 3; have c4 := HX.out.cell 4; have c5 := HX.out.cell 5; have c6 := HX.out.cell 6
      simp only [List.getElem?_toArray, List.getElem?_cons_zero, List.getElem?_cons_succ] at c0 c1 c2 c3 c4 c5 c6
      go_wp2
      go_ret
      exact ⟨rfl, HB.out⟩
    have hp : Pr.pd ⟨2, j, tok, txt, k, lv, n⟩ = ⟨#[]⟩ := by
      unfold Pr.pd
      rw [if_neg (by simp only; decide), if_pos rfl, if_neg k1, if_neg k2, if_neg k3]; rfl
    rw [hp]
    have hd : decide (k < 1) = true ∨ (decide (k < 1) = false ∧ decide (3 < k) = true) := by
      by_cases g : k < 1
      · exact .inl (decide_eq_true g)
      · exact .inr ⟨decide_eq_false g, decide_eq_true (by omega)⟩
    clear hp k1 k2 k3
    rcases hd with e1 | ⟨e1, e2⟩
    · go_enter Tryd.func32, Tryd.ntmps32
      go_upto_region 1 with (fail)
      have HB := Lib.hid ((Below.refl w.heap.size w).alloc (Nat.le_refl _) (.cells #[.int .i64 2, .int .i64 j, .string tok, .string txt, .int .i64 k, .int .i64 lv, .int .i64 n] 27))
      have HX := Lib.hid (Has.new w #[.int .i64 2, .int .i64 j, .string tok, .string txt, .int .i64 k, .int .i64 lv, .int .i64 n] 27)
      generalize w.alloc (.cells #[.int .i64 2, .int .i64 j, .string tok, .string txt, .int .i64 k, .int .i64 lv, .int .i64 n] 27) = w2 at *
      have c0 := HX.out.cell 0; have c1 := HX.out.cell 1; have c2 := HX.out.cell 2; have c3 := HX.out.cell 3; have c4 := HX.out.cell 4; have c5 := HX.out.cell 5; have c6 := HX.out.cell 6
      simp only [List.getElem?_toArray, List.getElem?_cons_zero, List.getElem?_cons_succ] at c0 c1 c2 c3 c4 c5 c6
      go_wp2
      go_ret
      exact ⟨rfl, HB.out⟩
    · go_enter Tryd.func32, Tryd.ntmps32
      go_upto_region 1 with (fail)
      have HB := Lib.hid ((Below.refl w.heap.size w).alloc (Nat.le_refl _) (.cells #[.int .i64 2, .int .i64 j, .string tok, .string txt, .int .i64 k, .int .i64 lv, .int .i64 n] 27))
      have HX := Lib.hid (Has.new w #[.int .i64 2, .int .i64 j, .string tok, .string txt, .int .i64 k, .int .i64 lv, .int .i64 n] 27)
      generalize w.alloc (.cells #[.int .i64 2, .int .i64 j, .string tok, .string txt, .int .i64 k, .int .i64 lv, .int .i64 n] 27) = w2 at *
      have c0 := HX.out.cell 0; have c1 := HX.out.cell 1; have c2 := HX.out.cell 2; have c3 := HX.out.cell 3; have c4 := HX.out.cell 4; have c5 := HX.out.cell 5; have c6 := HX.out.cell 6
      simp only [List.getElem?_toArray, List.getElem?_cons_zero, List.getElem?_cons_succ] at c0 c1 c2 c3 c4 c5 c6
      go_wp2
      go_ret
      exact ⟨rfl, HB.out⟩
  by_cases h3 : t = 3
  · subst h3
    clear h1 h2
    go_enter Tryd.func32, Tryd.ntmps32
    go_upto_region 1 with (fail)
    have HB := Lib.hid ((Below.refl w.heap.size w).alloc (Nat.le_refl _) (.cells #[.int .i64 3, .int .i64 j, .string tok, .string txt, .int .i64 k, .int .i64 lv, .int .i64 n] 27))
    have HX := Lib.hid (Has.new w #[.int .i64 3, .int .i64 j, .string tok, .string txt, .int .i64 k, .int .i64 lv, .int .i64 n] 27)
    generalize w.alloc (.cells #[.int .i64 3, .int .i64 j, .string tok, .string txt, .int .i64 k, .int .i64 lv, .int .i64 n] 27) = w2 at *
    have c0 := HX.out.cell 0; have c1 := HX.out.cell 1; have c2 := HX.out.cell 2; have c3 := HX.out.cell 3; have c4 := HX.out.cell 4; have c5 := HX.out.cell 5; have c6 := HX.out.cell 6
    simp only [List.getElem?_toArray, List.getElem?_cons_zero, List.getElem?_cons_succ] at c0 c1 c2 c3 c4 c5 c6
    go_wp2
    go_ret
    exact ⟨rfl, HB.out⟩
  by_cases h6 : t = 6
  · subst h6
    have hp : Pr.pd ⟨6, j, tok, txt, k, lv, n⟩ = if n < 0 ∨ 4294967295 < n then ⟨#[]⟩ else Fr.bs (Fr.put4 n.toNat) := by
      unfold Pr.pd
      rw [if_neg (by simp only; decide), if_neg (by simp only; decide), if_neg (by simp only; decide), if_pos rfl]; rfl
    rw [hp]
    have HFR := Lib.hid (fun w => xfour_walk n w)
    generalize (if n < 0 ∨ 4294967295 < n then (⟨#[]⟩ : ByteArray) else Fr.bs (Fr.put4 n.toNat)) = S at *
    generalize (if n < 0 ∨ 4294967295 < n then (1 : Int) else 0) = m at *
    clear hp h1 h2 h3
    go_enter Tryd.func32, Tryd.ntmps32
    go_upto_region 1 with (fail)
    have HB := Lib.hid ((Below.refl w.heap.size w).alloc (Nat.le_refl _) (.cells #[.int .i64 6, .int .i64 j, .string tok, .string txt, .int .i64 k, .int .i64 lv, .int .i64 n] 27))
    have HX := Lib.hid (Has.new w #[.int .i64 6, .int .i64 j, .string tok, .string txt, .int .i64 k, .int .i64 lv, .int .i64 n] 27)
    generalize w.alloc (.cells #[.int .i64 6, .int .i64 j, .string tok, .string txt, .int .i64 k, .int .i64 lv, .int .i64 n] 27) = w2 at *
    have c0 := HX.out.cell 0; have c1 := HX.out.cell 1; have c2 := HX.out.cell 2; have c3 := HX.out.cell 3; have c4 := HX.out.cell 4; have c5 := HX.out.cell 5; have c6 := HX.out.cell 6
    simp only [List.getElem?_toArray, List.getElem?_cons_zero, List.getElem?_cons_succ] at c0 c1 c2 c3 c4 c5 c6
    go_wp2_with fail
    (with_reducible refine (HFR.out _).mono ?_)
    rintro e w3 ⟨rfl, hb⟩
    have HB3 := Lib.hid (HB.out.trans (hb.mono HB.out.size))
    clear hb
    go_wp2
    go_ret
    exact ⟨rfl, HB3.out⟩
  have hp : Pr.pd ⟨t, j, tok, txt, k, lv, n⟩ = ⟨#[]⟩ := by
    unfold Pr.pd
    rw [if_neg h1, if_neg h2, if_neg h3, if_neg h6]; rfl
  rw [hp]
  have e1 : (t == 1) = false := by simpa using h1
  have e2 : (t == 2) = false := by simpa using h2
  have e3 : (t == 3) = false := by simpa using h3
  have e6 : (t == 6) = false := by simpa using h6
  clear hp h1 h2 h3 h6
  go_enter Tryd.func32, Tryd.ntmps32
  go_upto_region 1 with (fail)
  have HB := Lib.hid ((Below.refl w.heap.size w).alloc (Nat.le_refl _) (.cells #[.int .i64 t, .int .i64 j, .string tok, .string txt, .int .i64 k, .int .i64 lv, .int .i64 n] 27))
  have HX := Lib.hid (Has.new w #[.int .i64 t, .int .i64 j, .string tok, .string txt, .int .i64 k, .int .i64 lv, .int .i64 n] 27)
  generalize w.alloc (.cells #[.int .i64 t, .int .i64 j, .string tok, .string txt, .int .i64 k, .int .i64 lv, .int .i64 n] 27) = w2 at *
  have c0 := HX.out.cell 0; have c1 := HX.out.cell 1; have c2 := HX.out.cell 2; have c3 := HX.out.cell 3; have c4 := HX.out.cell 4; have c5 := HX.out.cell 5; have c6 := HX.out.cell 6
  simp only [List.getElem?_toArray, List.getElem?_cons_zero, List.getElem?_cons_succ] at c0 c1 c2 c3 c4 c5 c6
  go_wp2
  go_ret
  exact ⟨rfl, HB.out⟩
theorem digit_at (i : Nat) (h : i ≤ 9) : (⟨#[48, 49, 50, 51, 52, 53, 54, 55, 56, 57]⟩ : ByteArray).extract i (i + 1) = Fr.bs [UInt8.ofNat (48 + i)] := by
  rcases (by omega : i = 0 ∨ i = 1 ∨ i = 2 ∨ i = 3 ∨ i = 4 ∨ i = 5 ∨ i = 6 ∨ i = 7 ∨ i = 8 ∨ i = 9) with rfl | rfl | rfl | rfl | rfl | rfl | rfl | rfl | rfl | rfl <;> rfl
set_option maxRecDepth 100000 in
set_option maxHeartbeats 800000 in
theorem rdata_walk (t j : Int) (tok txt : ByteArray) (k lv n : Int) (w : World) : Calls Tryd.prog 14 #[.agg #[.int .i64 t, .int .i64 j, .string tok, .string txt, .int .i64 k, .int .i64 lv, .int .i64 n]] w fun e w' => e = .returned (.string (Pr.rdt ⟨t, j, tok, txt, k, lv, n⟩)) ∧ Below w.heap.size w w' := by
  by_cases h1 : t = 1
  · subst h1
    go_enter Tryd.func14, Tryd.ntmps14
    go_upto_region 1 with (fail)
    have HB := Lib.hid ((Below.refl w.heap.size w).alloc (Nat.le_refl _) (.cells #[.int .i64 1, .int .i64 j, .string tok, .string txt, .int .i64 k, .int .i64 lv, .int .i64 n] 31))
    have HX := Lib.hid (Has.new w #[.int .i64 1, .int .i64 j, .string tok, .string txt, .int .i64 k, .int .i64 lv, .int .i64 n] 31)
    generalize w.alloc (.cells #[.int .i64 1, .int .i64 j, .string tok, .string txt, .int .i64 k, .int .i64 lv, .int .i64 n] 31) = w2 at *
    have c0 := HX.out.cell 0; have c1 := HX.out.cell 1; have c2 := HX.out.cell 2; have c3 := HX.out.cell 3; have c4 := HX.out.cell 4; have c5 := HX.out.cell 5; have c6 := HX.out.cell 6
    simp only [List.getElem?_toArray, List.getElem?_cons_zero, List.getElem?_cons_succ] at c0 c1 c2 c3 c4 c5 c6
    go_wp2
    go_ret
    exact ⟨rfl, HB.out⟩
  by_cases h2 : t = 2
  · subst h2
    by_cases k1 : k = 1
    · subst k1
      by_cases hlv : 1 ≤ lv ∧ lv ≤ 9
      · have e1 : decide (1 ≤ lv) = true := by simpa using hlv.1
        have e2 : decide (lv ≤ 9) = true := by simpa using hlv.2
        have hp : Pr.rdt ⟨2, j, tok, txt, 1, lv, n⟩ = ⟨#[99]⟩ ++ Fr.bs [UInt8.ofNat (48 + lv.toNat)] := by
          unfold Pr.rdt
          rw [if_neg (by simp only; decide), if_pos ⟨rfl, rfl, hlv.1, hlv.2⟩]
          apply Fr.bs_inj
          rw [Fr.list_append]; rfl
        have hs : ∀ w, (Instr.slice 9 (.string ⟨#[48, 49, 50, 51, 52, 53, 54, 55, 56, 57]⟩) (some (.int .i64 lv)) (some (.int .i64 (lv + 1))) none).run Tryd.prog w = .ok (.string (Fr.bs [UInt8.ofNat (48 + lv.toNat)])) w := fun w => by
          rw [run_slice_str Tryd.underlying9 ⟨#[48, 49, 50, 51, 52, 53, 54, 55, 56, 57]⟩ lv.toNat (lv.toNat + 1) lv (lv + 1) (by omega) (by omega) (by omega) (by show lv.toNat + 1 ≤ 10; omega) w, digit_at lv.toNat (by omega)]
        obtain ⟨g1, g2⟩ := hlv
        rw [hp]
        have hz := bs_size [UInt8.ofNat (48 + lv.toNat)]
        generalize Fr.bs [UInt8.ofNat (48 + lv.toNat)] = DG at *
        have hz1 : DG.size = 1 := hz
        clear hp hz h1
        go_enter Tryd.func14, Tryd.ntmps14
        go_upto_region 1 with (fail)
        have HB := Lib.hid ((Below.refl w.heap.size w).alloc (Nat.le_refl _) (.cells #[.int .i64 2, .int .i64 j, .string tok, .string txt, .int .i64 1, .int .i64 lv, .int .i64 n] 31))
        have HX := Lib.hid (Has.new w #[.int .i64 2, .int .i64 j, .string tok, .string txt, .int .i64 1, .int .i64 lv, .int .i64 n] 31)
        generalize w.alloc (.cells #[.int .i64 2, .int .i64 j, .string tok, .string txt, .int .i64 1, .int .i64 lv, .int .i64 n] 31) = w2 at *
        have c0 := HX.out.cell 0; have c1 := HX.out.cell 1; have c2 := HX.out.cell 2; have c3 := HX.out.cell 3; have c4 := HX.out.cell 4; have c5 := HX.out.cell 5; have c6 := HX.out.cell 6
        simp only [List.getElem?_toArray, List.getElem?_cons_zero, List.getElem?_cons_succ] at c0 c1 c2 c3 c4 c5 c6
        go_wp2
        go_ret
        exact ⟨rfl, HB.out⟩
      · have hp : Pr.rdt ⟨2, j, tok, txt, 1, lv, n⟩ = ⟨#[]⟩ := by
          unfold Pr.rdt
          rw [if_neg (by simp only; decide), if_neg (fun x => hlv ⟨x.2.2.1, x.2.2.2⟩), if_neg (by simp), if_neg (by simp), if_neg (by simp only; decide), if_neg (by simp)]; rfl
        rw [hp]
        have hd : decide (1 ≤ lv) = false ∨ (decide (1 ≤ lv) = true ∧ decide (lv ≤ 9) = false) := by
          by_cases g : 1 ≤ lv
          · exact .inr ⟨decide_eq_true g, decide_eq_false (fun x => hlv ⟨g, x⟩)⟩
          · exact .inl (decide_eq_false g)
        clear hp hlv h1
        rcases hd with e1 | ⟨e1, e2⟩
        · go_enter Tryd.func14, Tryd.ntmps14
          go_upto_region 1 with (fail)
          have HB := Lib.hid ((Below.refl w.heap.size w).alloc (Nat.le_refl _) (.cells #[.int .i64 2, .int .i64 j, .string tok, .string txt, .int .i64 1, .int .i64 lv, .int .i64 n] 31))
          have HX := Lib.hid (Has.new w #[.int .i64 2, .int .i64 j, .string tok, .string txt, .int .i64 1, .int .i64 lv, .int .i64 n] 31)
          generalize w.alloc (.cells #[.int .i64 2, .int .i64 j, .string tok, .string txt, .int .i64 1, .int .i64 lv, .int .i64 n] 31) = w2 at *
          have c0 := HX.out.cell 0; have c1 := HX.out.cell 1; have c2 := HX.out.cell 2; have c3 := HX.out.cell 3; have c4 := HX.out.cell 4; have c5 := HX.out.cell 5; have c6 := HX.out.cell 6
          simp only [List.getElem?_toArray, List.getElem?_cons_zero, List.getElem?_cons_succ] at c0 c1 c2 c3 c4 c5 c6
          go_wp2
          go_ret
          exact ⟨rfl, HB.out⟩
        · go_enter Tryd.func14, Tryd.ntmps14
          go_upto_region 1 with (fail)
          have HB := Lib.hid ((Below.refl w.heap.size w).alloc (Nat.le_refl _) (.cells #[.int .i64 2, .int .i64 j, .string tok, .string txt, .int .i64 1, .int .i64 lv, .int .i64 n] 31))
          have HX := Lib.hid (Has.new w #[.int .i64 2, .int .i64 j, .string tok, .string txt, .int .i64 1, .int .i64 lv, .int .i64 n] 31)
          generalize w.alloc (.cells #[.int .i64 2, .int .i64 j, .string tok, .string txt, .int .i64 1, .int .i64 lv, .int .i64 n] 31) = w2 at *
          have c0 := HX.out.cell 0; have c1 := HX.out.cell 1; have c2 := HX.out.cell 2; have c3 := HX.out.cell 3; have c4 := HX.out.cell 4; have c5 := HX.out.cell 5; have c6 := HX.out.cell 6
          simp only [List.getElem?_toArray, List.getElem?_cons_zero, List.getElem?_cons_succ] at c0 c1 c2 c3 c4 c5 c6
          go_wp2
          go_ret
          exact ⟨rfl, HB.out⟩
    have f1 : (k == 1) = false := by simpa using k1
    by_cases k2 : k = 2
    · subst k2
      have hp : Pr.rdt ⟨2, j, tok, txt, 2, lv, n⟩ = ⟨#[120]⟩ := by
        unfold Pr.rdt
        rw [if_neg (by simp only; decide), if_neg (by simp), if_pos ⟨rfl, rfl⟩]
      rw [hp]
      clear hp k1 f1 h1
      go_enter Tryd.func14, Tryd.ntmps14
      go_upto_region 1 with (fail)
      have HB := Lib.hid ((Below.refl w.heap.size w).alloc (Nat.le_refl _) (.cells #[.int .i64 2, .int .i64 j, .string tok, .string txt, .int .i64 2, .int .i64 lv, .int .i64 n] 31))
      have HX := Lib.hid (Has.new w #[.int .i64 2, .int .i64 j, .string tok, .string txt, .int .i64 2, .int .i64 lv, .int .i64 n] 31)
      generalize w.alloc (.cells #[.int .i64 2, .int .i64 j, .string tok, .string txt, .int .i64 2, .int .i64 lv, .int .i64 n] 31) = w2 at *
      have c0 := HX.out.cell 0; have c1 := HX.out.cell 1; have c2 := HX.out.cell 2; have c3 := HX.out.cell 3; have c4 := HX.out.cell 4; have c5 := HX.out.cell 5; have c6 := HX.out.cell 6
      simp only [List.getElem?_toArray, List.getElem?_cons_zero, List.getElem?_cons_succ] at c0 c1 c2 c3 c4 c5 c6
      go_wp2
      go_ret
      exact ⟨rfl, HB.out⟩
    have f2 : (k == 2) = false := by simpa using k2
    by_cases k3 : k = 3
    · subst k3
      have hp : Pr.rdt ⟨2, j, tok, txt, 3, lv, n⟩ = ⟨#[116]⟩ := by
        unfold Pr.rdt
        rw [if_neg (by simp only; decide), if_neg (by simp), if_neg (by simp), if_pos ⟨rfl, rfl⟩]
      rw [hp]
      clear hp k1 k2 f1 f2 h1
      go_enter Tryd.func14, Tryd.ntmps14
      go_upto_region 1 with (fail)
      have HB := Lib.hid ((Below.refl w.heap.size w).alloc (Nat.le_refl _) (.cells #[.int .i64 2, .int .i64 j, .string tok, .string txt, .int .i64 3, .int .i64 lv, .int .i64 n] 31))
      have HX := Lib.hid (Has.new w #[.int .i64 2, .int .i64 j, .string tok, .string txt, .int .i64 3, .int .i64 lv, .int .i64 n] 31)
      generalize w.alloc (.cells #[.int .i64 2, .int .i64 j, .string tok, .string txt, .int .i64 3, .int .i64 lv, .int .i64 n] 31) = w2 at *
      have c0 := HX.out.cell 0; have c1 := HX.out.cell 1; have c2 := HX.out.cell 2; have c3 := HX.out.cell 3; have c4 := HX.out.cell 4; have c5 := HX.out.cell 5; have c6 := HX.out.cell 6
      simp only [List.getElem?_toArray, List.getElem?_cons_zero, List.getElem?_cons_succ] at c0 c1 c2 c3 c4 c5 c6
      go_wp2
      go_ret
      exact ⟨rfl, HB.out⟩
    have f3 : (k == 3) = false := by simpa using k3
    have hp : Pr.rdt ⟨2, j, tok, txt, k, lv, n⟩ = ⟨#[]⟩ := by
      unfold Pr.rdt
      rw [if_neg (by simp only; decide), if_neg (fun x => k1 x.2.1), if_neg (fun x => k2 x.2), if_neg (fun x => k3 x.2), if_neg (by simp only; decide), if_neg (by simp)]; rfl
    rw [hp]
    clear hp k1 k2 k3 h1
    go_enter Tryd.func14, Tryd.ntmps14
    go_upto_region 1 with (fail)
    have HB := Lib.hid ((Below.refl w.heap.size w).alloc (Nat.le_refl _) (.cells #[.int .i64 2, .int .i64 j, .string tok, .string txt, .int .i64 k, .int .i64 lv, .int .i64 n] 31))
    have HX := Lib.hid (Has.new w #[.int .i64 2, .int .i64 j, .string tok, .string txt, .int .i64 k, .int .i64 lv, .int .i64 n] 31)
    generalize w.alloc (.cells #[.int .i64 2, .int .i64 j, .string tok, .string txt, .int .i64 k, .int .i64 lv, .int .i64 n] 31) = w2 at *
    have c0 := HX.out.cell 0; have c1 := HX.out.cell 1; have c2 := HX.out.cell 2; have c3 := HX.out.cell 3; have c4 := HX.out.cell 4; have c5 := HX.out.cell 5; have c6 := HX.out.cell 6
    simp only [List.getElem?_toArray, List.getElem?_cons_zero, List.getElem?_cons_succ] at c0 c1 c2 c3 c4 c5 c6
    go_wp2
    go_ret
    exact ⟨rfl, HB.out⟩
  by_cases h3 : t = 3
  · subst h3
    have hp : Pr.rdt ⟨3, j, tok, txt, k, lv, n⟩ = txt := by
      unfold Pr.rdt
      rw [if_neg (by simp only; decide), if_neg (by simp), if_neg (by simp), if_neg (by simp), if_pos rfl]
    rw [hp]
    clear h1 h2 hp
    go_enter Tryd.func14, Tryd.ntmps14
    go_upto_region 1 with (fail)
    have HB := Lib.hid ((Below.refl w.heap.size w).alloc (Nat.le_refl _) (.cells #[.int .i64 3, .int .i64 j, .string tok, .string txt, .int .i64 k, .int .i64 lv, .int .i64 n] 31))
    have HX := Lib.hid (Has.new w #[.int .i64 3, .int .i64 j, .string tok, .string txt, .int .i64 k, .int .i64 lv, .int .i64 n] 31)
    generalize w.alloc (.cells #[.int .i64 3, .int .i64 j, .string tok, .string txt, .int .i64 k, .int .i64 lv, .int .i64 n] 31) = w2 at *
    have c0 := HX.out.cell 0; have c1 := HX.out.cell 1; have c2 := HX.out.cell 2; have c3 := HX.out.cell 3; have c4 := HX.out.cell 4; have c5 := HX.out.cell 5; have c6 := HX.out.cell 6
    simp only [List.getElem?_toArray, List.getElem?_cons_zero, List.getElem?_cons_succ] at c0 c1 c2 c3 c4 c5 c6
    go_wp2
    go_ret
    exact ⟨rfl, HB.out⟩
  by_cases h6 : t = 6
  · subst h6
    by_cases hn : 0 ≤ n ∧ n ≤ 4294967295
    · have e1 : decide (0 ≤ n) = true := by simpa using hn.1
      have e2 : decide (n ≤ 4294967295) = true := by simpa using hn.2
      have hp : Pr.rdt ⟨6, j, tok, txt, k, lv, n⟩ = Fr.bs (Fr.put4 n.toNat) := by
        unfold Pr.rdt
        rw [if_neg (by simp only; decide), if_neg (by simp), if_neg (by simp), if_neg (by simp), if_neg (by simp only; decide), if_pos ⟨rfl, hn.1, hn.2⟩]
      rw [hp]
      obtain ⟨m, rfl⟩ : ∃ m : Nat, n = m := ⟨n.toNat, by omega⟩
      rw [Int.toNat_natCast]
      have HFR := Lib.hid (fun w => reffour_walk m w (by omega))
      clear hp h1 h2 h3 hn
      generalize Fr.bs (Fr.put4 m) = S at *
      go_enter Tryd.func14, Tryd.ntmps14
      go_upto_region 1 with (fail)
      have HB := Lib.hid ((Below.refl w.heap.size w).alloc (Nat.le_refl _) (.cells #[.int .i64 6, .int .i64 j, .string tok, .string txt, .int .i64 k, .int .i64 lv, .int .i64 (m : Int)] 31))
      have HX := Lib.hid (Has.new w #[.int .i64 6, .int .i64 j, .string tok, .string txt, .int .i64 k, .int .i64 lv, .int .i64 (m : Int)] 31)
      generalize w.alloc (.cells #[.int .i64 6, .int .i64 j, .string tok, .string txt, .int .i64 k, .int .i64 lv, .int .i64 (m : Int)] 31) = w2 at *
      have c0 := HX.out.cell 0; have c1 := HX.out.cell 1; have c2 := HX.out.cell 2; have c3 := HX.out.cell 3; have c4 := HX.out.cell 4; have c5 := HX.out.cell 5; have c6 := HX.out.cell 6
      simp only [List.getElem?_toArray, List.getElem?_cons_zero, List.getElem?_cons_succ] at c0 c1 c2 c3 c4 c5 c6
      go_wp2_with fail
      (with_reducible refine (HFR.out _).mono ?_)
      rintro e w3 ⟨rfl, hb⟩
      have HB3 := Lib.hid (HB.out.trans (hb.mono HB.out.size))
      clear hb
      go_wp2
      go_ret
      exact ⟨rfl, HB3.out⟩
    · have hp : Pr.rdt ⟨6, j, tok, txt, k, lv, n⟩ = ⟨#[]⟩ := by
        unfold Pr.rdt
        rw [if_neg (by simp only; decide), if_neg (by simp), if_neg (by simp), if_neg (by simp), if_neg (by simp only; decide), if_neg (fun x => hn ⟨x.2.1, x.2.2⟩)]; rfl
      rw [hp]
      have hd : decide (0 ≤ n) = false ∨ (decide (0 ≤ n) = true ∧ decide (n ≤ 4294967295) = false) := by
        by_cases g : 0 ≤ n
        · exact .inr ⟨decide_eq_true g, decide_eq_false (fun x => hn ⟨g, x⟩)⟩
        · exact .inl (decide_eq_false g)
      clear hp hn h1 h2 h3
      rcases hd with e1 | ⟨e1, e2⟩
      · go_enter Tryd.func14, Tryd.ntmps14
        go_upto_region 1 with (fail)
        have HB := Lib.hid ((Below.refl w.heap.size w).alloc (Nat.le_refl _) (.cells #[.int .i64 6, .int .i64 j, .string tok, .string txt, .int .i64 k, .int .i64 lv, .int .i64 n] 31))
        have HX := Lib.hid (Has.new w #[.int .i64 6, .int .i64 j, .string tok, .string txt, .int .i64 k, .int .i64 lv, .int .i64 n] 31)
        generalize w.alloc (.cells #[.int .i64 6, .int .i64 j, .string tok, .string txt, .int .i64 k, .int .i64 lv, .int .i64 n] 31) = w2 at *
        have c0 := HX.out.cell 0; have c1 := HX.out.cell 1; have c2 := HX.out.cell 2; have c3 := HX.out.cell 3; have c4 := HX.out.cell 4; have c5 := HX.out.cell 5; have c6 := HX.out.cell 6
        simp only [List.getElem?_toArray, List.getElem?_cons_zero, List.getElem?_cons_succ] at c0 c1 c2 c3 c4 c5 c6
        go_wp2
        go_ret
        exact ⟨rfl, HB.out⟩
      · go_enter Tryd.func14, Tryd.ntmps14
        go_upto_region 1 with (fail)
        have HB := Lib.hid ((Below.refl w.heap.size w).alloc (Nat.le_refl _) (.cells #[.int .i64 6, .int .i64 j, .string tok, .string txt, .int .i64 k, .int .i64 lv, .int .i64 n] 31))
        have HX := Lib.hid (Has.new w #[.int .i64 6, .int .i64 j, .string tok, .string txt, .int .i64 k, .int .i64 lv, .int .i64 n] 31)
        generalize w.alloc (.cells #[.int .i64 6, .int .i64 j, .string tok, .string txt, .int .i64 k, .int .i64 lv, .int .i64 n] 31) = w2 at *
        have c0 := HX.out.cell 0; have c1 := HX.out.cell 1; have c2 := HX.out.cell 2; have c3 := HX.out.cell 3; have c4 := HX.out.cell 4; have c5 := HX.out.cell 5; have c6 := HX.out.cell 6
        simp only [List.getElem?_toArray, List.getElem?_cons_zero, List.getElem?_cons_succ] at c0 c1 c2 c3 c4 c5 c6
        go_wp2
        go_ret
        exact ⟨rfl, HB.out⟩
  have hp : Pr.rdt ⟨t, j, tok, txt, k, lv, n⟩ = ⟨#[]⟩ := by
    unfold Pr.rdt
    rw [if_neg h1, if_neg (fun x => h2 x.1), if_neg (fun x => h2 x.1), if_neg (fun x => h2 x.1), if_neg h3, if_neg (fun x => h6 x.1)]; rfl
  rw [hp]
  have e1 : (t == 1) = false := by simpa using h1
  have e2 : (t == 2) = false := by simpa using h2
  have e3 : (t == 3) = false := by simpa using h3
  have e6 : (t == 6) = false := by simpa using h6
  clear hp h1 h2 h3 h6
  go_enter Tryd.func14, Tryd.ntmps14
  go_upto_region 1 with (fail)
  have HB := Lib.hid ((Below.refl w.heap.size w).alloc (Nat.le_refl _) (.cells #[.int .i64 t, .int .i64 j, .string tok, .string txt, .int .i64 k, .int .i64 lv, .int .i64 n] 31))
  have HX := Lib.hid (Has.new w #[.int .i64 t, .int .i64 j, .string tok, .string txt, .int .i64 k, .int .i64 lv, .int .i64 n] 31)
  generalize w.alloc (.cells #[.int .i64 t, .int .i64 j, .string tok, .string txt, .int .i64 k, .int .i64 lv, .int .i64 n] 31) = w2 at *
  have c0 := HX.out.cell 0; have c1 := HX.out.cell 1; have c2 := HX.out.cell 2; have c3 := HX.out.cell 3; have c4 := HX.out.cell 4; have c5 := HX.out.cell 5; have c6 := HX.out.cell 6
  simp only [List.getElem?_toArray, List.getElem?_cons_zero, List.getElem?_cons_succ] at c0 c1 c2 c3 c4 c5 c6
  go_wp2
  go_ret
  exact ⟨rfl, HB.out⟩
set_option maxRecDepth 100000 in
set_option maxHeartbeats 800000 in
theorem code_walk (t j : Int) (txt : ByteArray) (r : Int) (w : World) : Calls Tryd.prog 19 #[.agg #[.int .i64 t, .int .i64 j, .string txt, .int .i64 r]] w fun e w' => e = .returned (.string (Pr.rc ⟨t, j, txt, r⟩)) ∧ Below w.heap.size w w' := by
  by_cases h1 : t = 68
  · subst h1
    by_cases hr : r < 1 ∨ 255 < r
    · have hp : Pr.rc ⟨68, j, txt, r⟩ = ⟨#[]⟩ := by
        unfold Pr.rc
        rw [if_neg (by simp), if_pos hr]; rfl
      rw [hp]
      have hd : decide (r < 1) = true ∨ (decide (r < 1) = false ∧ decide (255 < r) = true) := by
        by_cases g : r < 1
        · exact .inl (decide_eq_true g)
        · exact .inr ⟨decide_eq_false g, decide_eq_true (by omega)⟩
      clear hp hr
      rcases hd with e1 | ⟨e1, e2⟩
      · go_enter Tryd.func19, Tryd.ntmps19
        go_upto_region 1 with (fail)
        have HB := Lib.hid ((Below.refl w.heap.size w).alloc (Nat.le_refl _) (.cells #[.int .i64 68, .int .i64 j, .string txt, .int .i64 r] 45))
        have HX := Lib.hid (Has.new w #[.int .i64 68, .int .i64 j, .string txt, .int .i64 r] 45)
        generalize w.alloc (.cells #[.int .i64 68, .int .i64 j, .string txt, .int .i64 r] 45) = w2 at *
        have c0 := HX.out.cell 0; have c1 := HX.out.cell 1; have c2 := HX.out.cell 2; have c3 := HX.out.cell 3
        simp only [List.getElem?_toArray, List.getElem?_cons_zero, List.getElem?_cons_succ] at c0 c1 c2 c3
        go_wp2
        go_ret
        exact ⟨rfl, HB.out⟩
      · go_enter Tryd.func19, Tryd.ntmps19
        go_upto_region 1 with (fail)
        have HB := Lib.hid ((Below.refl w.heap.size w).alloc (Nat.le_refl _) (.cells #[.int .i64 68, .int .i64 j, .string txt, .int .i64 r] 45))
        have HX := Lib.hid (Has.new w #[.int .i64 68, .int .i64 j, .string txt, .int .i64 r] 45)
        generalize w.alloc (.cells #[.int .i64 68, .int .i64 j, .string txt, .int .i64 r] 45) = w2 at *
        have c0 := HX.out.cell 0; have c1 := HX.out.cell 1; have c2 := HX.out.cell 2; have c3 := HX.out.cell 3
        simp only [List.getElem?_toArray, List.getElem?_cons_zero, List.getElem?_cons_succ] at c0 c1 c2 c3
        go_wp2
        go_ret
        exact ⟨rfl, HB.out⟩
    · have e1 : decide (r < 1) = false := by simp; omega
      have e2 : decide (255 < r) = false := by simp; omega
      have hp : Pr.rc ⟨68, j, txt, r⟩ = Fr.bs [UInt8.ofNat r.toNat] := by
        unfold Pr.rc
        rw [if_neg (by simp), if_neg hr]
      have hb : r = ((UInt8.ofNat r.toNat).toNat : Int) := by rw [UInt8.toNat_ofNat']; omega
      have g1 : 0 ≤ r := by omega
      have g2 : r ≤ 255 := by omega
      rw [hp]
      have HCV := Lib.hid (fun w => one_cv w _ _ hb)
      generalize Fr.bs [UInt8.ofNat r.toNat] = DG at *
      clear hp hb hr
      go_enter Tryd.func19, Tryd.ntmps19
      go_upto_region 1 with (fail)
      have HB := Lib.hid ((Below.refl w.heap.size w).alloc (Nat.le_refl _) (.cells #[.int .i64 68, .int .i64 j, .string txt, .int .i64 r] 45))
      have HX := Lib.hid (Has.new w #[.int .i64 68, .int .i64 j, .string txt, .int .i64 r] 45)
      generalize w.alloc (.cells #[.int .i64 68, .int .i64 j, .string txt, .int .i64 r] 45) = w2 at *
      have c0 := HX.out.cell 0; have c1 := HX.out.cell 1; have c2 := HX.out.cell 2; have c3 := HX.out.cell 3
      simp only [List.getElem?_toArray, List.getElem?_cons_zero, List.getElem?_cons_succ] at c0 c1 c2 c3
      have hcv := HCV.out w2
      go_wp2
      go_ret
      exact ⟨rfl, HB.out.alloc HB.out.size _⟩
  by_cases h2 : t = 69
  · subst h2
    clear h1
    by_cases hr : r < 1 ∨ 255 < r
    · have hp : Pr.rc ⟨69, j, txt, r⟩ = ⟨#[]⟩ := by
        unfold Pr.rc
        rw [if_neg (by simp), if_pos hr]; rfl
      rw [hp]
      have hd : decide (r < 1) = true ∨ (decide (r < 1) = false ∧ decide (255 < r) = true) := by
        by_cases g : r < 1
        · exact .inl (decide_eq_true g)
        · exact .inr ⟨decide_eq_false g, decide_eq_true (by omega)⟩
      clear hp hr
      rcases hd with e1 | ⟨e1, e2⟩
      · go_enter Tryd.func19, Tryd.ntmps19
        go_upto_region 1 with (fail)
        have HB := Lib.hid ((Below.refl w.heap.size w).alloc (Nat.le_refl _) (.cells #[.int .i64 69, .int .i64 j, .string txt, .int .i64 r] 45))
        have HX := Lib.hid (Has.new w #[.int .i64 69, .int .i64 j, .string txt, .int .i64 r] 45)
        generalize w.alloc (.cells #[.int .i64 69, .int .i64 j, .string txt, .int .i64 r] 45) = w2 at *
        have c0 := HX.out.cell 0; have c1 := HX.out.cell 1; have c2 := HX.out.cell 2; have c3 := HX.out.cell 3
        simp only [List.getElem?_toArray, List.getElem?_cons_zero, List.getElem?_cons_succ] at c0 c1 c2 c3
        go_wp2
        go_ret
        exact ⟨rfl, HB.out⟩
      · go_enter Tryd.func19, Tryd.ntmps19
        go_upto_region 1 with (fail)
        have HB := Lib.hid ((Below.refl w.heap.size w).alloc (Nat.le_refl _) (.cells #[.int .i64 69, .int .i64 j, .string txt, .int .i64 r] 45))
        have HX := Lib.hid (Has.new w #[.int .i64 69, .int .i64 j, .string txt, .int .i64 r] 45)
        generalize w.alloc (.cells #[.int .i64 69, .int .i64 j, .string txt, .int .i64 r] 45) = w2 at *
        have c0 := HX.out.cell 0; have c1 := HX.out.cell 1; have c2 := HX.out.cell 2; have c3 := HX.out.cell 3
        simp only [List.getElem?_toArray, List.getElem?_cons_zero, List.getElem?_cons_succ] at c0 c1 c2 c3
        go_wp2
        go_ret
        exact ⟨rfl, HB.out⟩
    · have e1 : decide (r < 1) = false := by simp; omega
      have e2 : decide (255 < r) = false := by simp; omega
      have hp : Pr.rc ⟨69, j, txt, r⟩ = Fr.bs [UInt8.ofNat r.toNat] := by
        unfold Pr.rc
        rw [if_neg (by simp), if_neg hr]
      have hb : r = ((UInt8.ofNat r.toNat).toNat : Int) := by rw [UInt8.toNat_ofNat']; omega
      have g1 : 0 ≤ r := by omega
      have g2 : r ≤ 255 := by omega
      rw [hp]
      have HCV := Lib.hid (fun w => one_cv w _ _ hb)
      generalize Fr.bs [UInt8.ofNat r.toNat] = DG at *
      clear hp hb hr
      go_enter Tryd.func19, Tryd.ntmps19
      go_upto_region 1 with (fail)
      have HB := Lib.hid ((Below.refl w.heap.size w).alloc (Nat.le_refl _) (.cells #[.int .i64 69, .int .i64 j, .string txt, .int .i64 r] 45))
      have HX := Lib.hid (Has.new w #[.int .i64 69, .int .i64 j, .string txt, .int .i64 r] 45)
      generalize w.alloc (.cells #[.int .i64 69, .int .i64 j, .string txt, .int .i64 r] 45) = w2 at *
      have c0 := HX.out.cell 0; have c1 := HX.out.cell 1; have c2 := HX.out.cell 2; have c3 := HX.out.cell 3
      simp only [List.getElem?_toArray, List.getElem?_cons_zero, List.getElem?_cons_succ] at c0 c1 c2 c3
      have hcv := HCV.out w2
      go_wp2
      go_ret
      exact ⟨rfl, HB.out.alloc HB.out.size _⟩
  have hp : Pr.rc ⟨t, j, txt, r⟩ = txt := by
    unfold Pr.rc
    rw [if_pos ⟨h1, h2⟩]
  rw [hp]
  have e1 : (t != 68) = true := by simpa using h1
  have e2 : (t != 69) = true := by simpa using h2
  clear hp h1 h2
  go_enter Tryd.func19, Tryd.ntmps19
  go_upto_region 1 with (fail)
  have HB := Lib.hid ((Below.refl w.heap.size w).alloc (Nat.le_refl _) (.cells #[.int .i64 t, .int .i64 j, .string txt, .int .i64 r] 45))
  have HX := Lib.hid (Has.new w #[.int .i64 t, .int .i64 j, .string txt, .int .i64 r] 45)
  generalize w.alloc (.cells #[.int .i64 t, .int .i64 j, .string txt, .int .i64 r] 45) = w2 at *
  have c0 := HX.out.cell 0; have c1 := HX.out.cell 1; have c2 := HX.out.cell 2; have c3 := HX.out.cell 3
  simp only [List.getElem?_toArray, List.getElem?_cons_zero, List.getElem?_cons_succ] at c0 c1 c2 c3
  go_wp2
  go_ret
  exact ⟨rfl, HB.out⟩
set_option maxRecDepth 100000 in
set_option maxHeartbeats 400000 in
theorem reff_walk (t j : Int) (tok txt : ByteArray) (k lv n : Int) (w : World) : Calls Tryd.prog 13 #[.agg #[.int .i64 t, .int .i64 j, .string tok, .string txt, .int .i64 k, .int .i64 lv, .int .i64 n]] w fun e w' => e = .returned (.agg #[.int .i64 t, .int .i64 j, .string tok, .string txt, .int .i64 k, .int .i64 lv, .int .i64 n]) ∧ Below w.heap.size w w' := by
  go_enter Tryd.func13, Tryd.ntmps13
  go_upto_region 1 with (fail)
  obtain ⟨hp, hr, hb⟩ := rn_two w #[.int .i64 t, .int .i64 j, .string tok, .string txt, .int .i64 k, .int .i64 lv, .int .i64 n] #[.int .i64 0, .int .i64 0, .string ⟨#[]⟩, .string ⟨#[]⟩, .int .i64 0, .int .i64 0, .int .i64 0] 27 31
  have HBX := Lib.hid hb
  have p0 := hp.cell 0; have p1 := hp.cell 1; have p2 := hp.cell 2; have p3 := hp.cell 3; have p4 := hp.cell 4; have p5 := hp.cell 5; have p6 := hp.cell 6
  have r0 := hr.cell 0; have r1 := hr.cell 1; have r2 := hr.cell 2; have r3 := hr.cell 3; have r4 := hr.cell 4; have r5 := hr.cell 5; have r6 := hr.cell 6
  have f0 := hr.free 0; have f1 := hr.free 1; have f2 := hr.free 2; have f3 := hr.free 3; have f4 := hr.free 4; have f5 := hr.free 5; have f6 := hr.free 6
  simp only [List.getElem?_toArray, List.getElem?_cons_zero, List.getElem?_cons_succ] at p0 p1 p2 p3 p4 p5 p6 r0 r1 r2 r3 r4 r5 r6
  clear hp hr hb
  generalize (w.alloc (.cells #[.int .i64 t, .int .i64 j, .string tok, .string txt, .int .i64 k, .int .i64 lv, .int .i64 n] 27)).alloc (.cells #[.int .i64 0, .int .i64 0, .string ⟨#[]⟩, .string ⟨#[]⟩, .int .i64 0, .int .i64 0, .int .i64 0] 31) = w2 at *
  go_wp2
  ((try simp only [Exit.inBlock, Exit.then]); refine bodyPost_ret (v := (.agg #[.int .i64 t, .int .i64 j, .string tok, .string txt, .int .i64 k, .int .i64 lv, .int .i64 n])) ?_ rfl ⟨?_, ?_⟩; (rw [results_cell1 rfl]; go_simp))
  · rfl
  · repeat (first | (with_reducible exact HBX.out) | refine below_set ?_ _ _ (by omega) _)
set_option maxRecDepth 100000 in
set_option maxHeartbeats 400000 in
theorem answer_walk (t j : Int) (txt : ByteArray) (r : Int) (w : World) : Calls Tryd.prog 18 #[.agg #[.int .i64 t, .int .i64 j, .string txt, .int .i64 r]] w fun e w' => e = .returned (.agg #[.int .i64 t, .int .i64 j, .string txt, .int .i64 r]) ∧ Below w.heap.size w w' := by
  go_enter Tryd.func18, Tryd.ntmps18
  go_upto_region 1 with (fail)
  obtain ⟨hp, hr, hb⟩ := rn_two w #[.int .i64 t, .int .i64 j, .string txt, .int .i64 r] #[.int .i64 0, .int .i64 0, .string ⟨#[]⟩, .int .i64 0] 42 45
  have HBX := Lib.hid hb
  have p0 := hp.cell 0; have p1 := hp.cell 1; have p2 := hp.cell 2; have p3 := hp.cell 3
  have r0 := hr.cell 0; have r1 := hr.cell 1; have r2 := hr.cell 2; have r3 := hr.cell 3
  have f0 := hr.free 0; have f1 := hr.free 1; have f2 := hr.free 2; have f3 := hr.free 3
  simp only [List.getElem?_toArray, List.getElem?_cons_zero, List.getElem?_cons_succ] at p0 p1 p2 p3 r0 r1 r2 r3
  clear hp hr hb
  generalize (w.alloc (.cells #[.int .i64 t, .int .i64 j, .string txt, .int .i64 r] 42)).alloc (.cells #[.int .i64 0, .int .i64 0, .string ⟨#[]⟩, .int .i64 0] 45) = w2 at *
  go_wp2
  ((try simp only [Exit.inBlock, Exit.then]); refine bodyPost_ret (v := (.agg #[.int .i64 t, .int .i64 j, .string txt, .int .i64 r])) ?_ rfl ⟨?_, ?_⟩; (rw [results_cell1 rfl]; go_simp))
  · rfl
  · repeat (first | (with_reducible exact HBX.out) | refine below_set ?_ _ _ (by omega) _)
end Go.Proofs.YtckdbkbecelgcaaDoor
