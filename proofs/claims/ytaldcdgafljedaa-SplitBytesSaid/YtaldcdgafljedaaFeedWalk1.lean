/- Packers and unpackers. -/
import Derived.Test.YtaldcdgafljedaaFeedMath
import Derived.Test.YtaldcdgafljedaaRleText
namespace Go.Proofs.Ytaldcdgafljedaa
open Go.RowKit
set_option linter.unusedVariables false
set_option linter.unusedSimpArgs false

def rcells (r : Rl.Pc) : Array Value := #[.int .u8 (r.b.toNat : Int), .int .i64 (r.n : Int)]
/-- block b is just this packer; just this unpacker -/
def KAt (w : World) (b : Nat) (r : Rl.Pc) : Prop := Has w b (rcells r) 82
def ptr (b : Nat) : Value := .pointer (some ⟨b, 0, none⟩)

set_option maxRecDepth 100000 in
set_option maxHeartbeats 800000 in
theorem newPacker_walk (w : World) : Calls Try.prog 28 #[] w fun e w' => e = .returned (.pointer (some ⟨w.heap.size, 0, none⟩)) ∧ KAt w' w.heap.size Rl.row0 ∧ Below w.heap.size w w' := by
  go_enter Try.func28, Try.ntmps28
  go_wp2
  go_ret
  exact ⟨rfl, Has.new w _ _, (Below.refl _ _).alloc (Nat.le_refl _) _⟩
theorem sets2_chg {w wr : World} {b : Nat} (h : Chg [b] w wr) (x y : Value) : Chg [b] w ((wr.setCell ⟨b, 0, none⟩ x).setCell ⟨b, 1, none⟩ y) :=
  (h.setCell ⟨b, 0, none⟩ x (.inl (by simp))).setCell ⟨b, 1, none⟩ y (.inl (by simp))
set_option maxRecDepth 100000 in
set_option maxHeartbeats 800000 in
theorem close_walk (b : Nat) (r : Rl.Pc) (w : World) (h : KAt w b r) (hr : r.n ≤ 255) :
    Calls Try.prog 37 #[.pointer (some ⟨b, 0, none⟩)] w fun e w' => e = .returned (.string (Fr.bs (Rl.endB r))) ∧ KAt w' b Rl.row0 ∧ Chg [b] w w' := by
  obtain ⟨rb, rn⟩ := r
  have c0 := Has.cell h 0; have c1 := Has.cell h 1
  simp only [rcells, List.getElem?_toArray, List.getElem?_cons_zero, List.getElem?_cons_succ] at c0 c1
  have H := Lib.hid h
  by_cases h0 : rn = 0
  · have HP := Lib.hid (fun w => piece_bad rb (rn : Int) w (.inl (by omega)))
    have HX := Lib.hid (show Rl.endB ⟨rb, rn⟩ = [] by unfold Rl.endB; rw [if_pos h0])
    clear h h0
    generalize Rl.endB ⟨rb, rn⟩ = X at *
    go_enter Try.func37, Try.ntmps37
    go_wp2_with fail
    (with_reducible refine (HP.out _).mono ?_)
    rintro e w1 ⟨rfl, hb1⟩
    have H1 := Lib.hid (Has.below H.out hb1 (Has.lt H.out))
    have HC := Lib.hid (below_chg hb1 [b])
    clear hb1 c0 c1
    have c0 := H1.out.cell 0; have c1 := H1.out.cell 1
    have f0 := H1.out.free 0; have f1 := H1.out.free 1
    simp only [rcells, List.getElem?_toArray, List.getElem?_cons_zero, List.getElem?_cons_succ] at c0 c1
    go_wp2
    go_ret
    exact ⟨by rw [HX.out]; rfl, (H1.out.setCell 0 _).setCell 1 _, sets2_chg HC.out _ _⟩
  · have HP := Lib.hid (fun w => piece_walk rb rn w (by omega) hr)
    have HX := Lib.hid (show Fr.bs (Rl.endB ⟨rb, rn⟩) = Fr.bs (Rl.text ⟨rb, rn⟩) by unfold Rl.endB; rw [if_neg h0])
    clear h
    generalize Fr.bs (Rl.endB ⟨rb, rn⟩) = X at *
    generalize Fr.bs (Rl.text ⟨rb, rn⟩) = T at *
    go_enter Try.func37, Try.ntmps37
    go_wp2_with fail
    (with_reducible refine (HP.out _).mono ?_)
    rintro e w1 ⟨rfl, hb1⟩
    have H1 := Lib.hid (Has.below H.out hb1 (Has.lt H.out))
    have HC := Lib.hid (below_chg hb1 [b])
    clear hb1 c0 c1
    have c0 := H1.out.cell 0; have c1 := H1.out.cell 1
    have f0 := H1.out.free 0; have f1 := H1.out.free 1
    simp only [rcells, List.getElem?_toArray, List.getElem?_cons_zero, List.getElem?_cons_succ] at c0 c1
    go_wp2
    go_ret
    exact ⟨ret_str HX.out.symm, (H1.out.setCell 0 _).setCell 1 _, sets2_chg HC.out _ _⟩
set_option maxRecDepth 100000 in
set_option maxHeartbeats 800000 in
theorem pend_walk (b : Nat) (r : Rl.Pc) (w : World) (h : KAt w b r) (hr : r.n ≤ 255) :
    Calls Try.prog 32 #[.pointer (some ⟨b, 0, none⟩)] w fun e w' => e = .returned (.string (Fr.bs (Rl.endB r))) ∧ KAt w' b Rl.row0 ∧ Chg [b] w w' := by
  have HC := Lib.hid (close_walk b r w h hr)
  generalize Fr.bs (Rl.endB r) = X at *
  clear h
  go_enter Try.func32, Try.ntmps32
  go_wp2_with fail
  (with_reducible refine (HC.out).mono ?_)
  rintro e w1 ⟨rfl, h1, h2⟩
  have H1 := Lib.hid h1
  have H2 := Lib.hid h2
  clear h1 h2
  go_wp2
  go_ret
  exact ⟨rfl, H1.out, H2.out⟩
set_option maxRecDepth 100000 in
set_option maxHeartbeats 800000 in
theorem prow_walk (b : Nat) (r : Rl.Pc) (w : World) (h : KAt w b r) :
    Calls Try.prog 29 #[.pointer (some ⟨b, 0, none⟩)] w fun e w' => e = .returned (.agg #[.int .u8 (r.b.toNat : Int), .int .i64 (r.n : Int)]) ∧ Below w.heap.size w w' := by
  obtain ⟨rb, rn⟩ := r
  have c0 := Has.cell h 0; have c1 := Has.cell h 1
  simp only [rcells, List.getElem?_toArray, List.getElem?_cons_zero, List.getElem?_cons_succ] at c0 c1
  have hlt := Has.lt h
  have hne : b ≠ w.heap.size := by omega
  clear h
  go_enter Try.func29, Try.ntmps29
  go_wp2
  refine bodyPost_ret (v := .agg #[.int .u8 (rb.toNat : Int), .int .i64 (rn : Int)]) (by rw [results_cell1 rfl]; go_simp) rfl ?_
  exact ⟨rfl, (Below.refl _ _).alloc (Nat.le_refl _) _⟩
theorem put_a (r : Rl.Pc) (c : UInt8) (h0 : 0 < r.n) (hc : r.b ≠ c) : Rl.putB r c = Rl.text r ∧ (Rl.pput r c).2 = ⟨c, 1⟩ := by
  unfold Rl.putB Rl.pput
  rw [if_pos ⟨h0, hc⟩]
  exact ⟨by simp, rfl⟩
theorem put_b (r : Rl.Pc) (c : UInt8) (h : ¬ (0 < r.n ∧ r.b ≠ c)) (hn : r.n + 1 = 255) : Rl.putB r c = Rl.text ⟨c, 255⟩ ∧ (Rl.pput r c).2 = Rl.row0 := by
  unfold Rl.putB Rl.pput
  rw [if_neg h, if_pos hn]
  exact ⟨by simp, rfl⟩
theorem put_c (r : Rl.Pc) (c : UInt8) (h : ¬ (0 < r.n ∧ r.b ≠ c)) (hn : ¬ r.n + 1 = 255) : Rl.putB r c = [] ∧ (Rl.pput r c).2 = ⟨c, r.n + 1⟩ := by
  unfold Rl.putB Rl.pput
  rw [if_neg h, if_neg hn]
  exact ⟨rfl, rfl⟩

set_option maxRecDepth 100000 in
set_option maxHeartbeats 1600000 in
theorem pkput_walk (b : Nat) (r : Rl.Pc) (c : UInt8) (w : World) (h : KAt w b r) (hr : r.n < 255) :
    Calls Try.prog 30 #[.pointer (some ⟨b, 0, none⟩), .int .u8 (c.toNat : Int)] w fun e w' => e = .returned (.string (Fr.bs (Rl.putB r c))) ∧ KAt w' b (Rl.pput r c).2 ∧ Chg [b] w w' := by
  by_cases h0 : 0 < r.n ∧ r.b ≠ c
  · obtain ⟨e1, e2⟩ := put_a r c h0.1 h0.2
    rw [e1, e2]
    have HC := Lib.hid (close_walk b r w h (by omega))
    have he : Rl.endB r = Rl.text r := by unfold Rl.endB; rw [if_neg (by omega)]
    rw [he] at HC
    obtain ⟨rb, rn⟩ := r
    have c0 := Has.cell h 0; have c1 := Has.cell h 1
    simp only [rcells, List.getElem?_toArray, List.getElem?_cons_zero, List.getElem?_cons_succ] at c0 c1
    simp only at h0
    have d0 : decide ((0 : Int) < (rn : Int)) = true := by simp; omega
    have d0' : decide (0 < rn) = true := by simp; omega
    have d1 : ((rb.toNat : Int) != (c.toNat : Int)) = true := by simp [bne, u8_ne _ _ h0.2]
    generalize Fr.bs (Rl.text ⟨rb, rn⟩) = T at *
    have hp0 := h0.1
    clear h h0 e1 e2 he
    go_enter Try.func30, Try.ntmps30
    go_wp2_with fail
    (with_reducible refine (HC.out).mono ?_)
    rintro e w1 ⟨rfl, h1, h2⟩
    have H1 := Lib.hid h1
    have H2 := Lib.hid h2
    clear c0 c1 h1 h2 d0 d1
    have c0 := H1.out.cell 0; have c1 := H1.out.cell 1
    have f0 := H1.out.free 0; have f1 := H1.out.free 1
    simp only [rcells, Rl.row0, List.getElem?_toArray, List.getElem?_cons_zero, List.getElem?_cons_succ] at c0 c1
    go_wp2
    go_ret
    exact ⟨rfl, (H1.out.setCell 0 _).setCell 1 _, sets2_chg H2.out _ _⟩
  · by_cases hn : r.n + 1 = 255
    · obtain ⟨e1, e2⟩ := put_b r c h0 hn
      rw [e1, e2]
      have HC := Lib.hid (fun w h => close_walk b ⟨c, 255⟩ w h (Nat.le_refl 255))
      have he : Rl.endB ⟨c, 255⟩ = Rl.text ⟨c, 255⟩ := rfl
      rw [he] at HC
      obtain ⟨rb, rn⟩ := r
      simp only at hn h0 hr
      obtain rfl : rn = 254 := by omega
      have hrb : rb = c := Classical.byContradiction (fun hh => h0 ⟨by decide, hh⟩)
      subst hrb
      have H := Lib.hid h
      have c0 := Has.cell h 0; have c1 := Has.cell h 1
      have f0 := Has.free h 0; have f1 := Has.free h 1
      simp only [rcells, List.getElem?_toArray, List.getElem?_cons_zero, List.getElem?_cons_succ] at c0 c1
      have HS := Lib.hid (show KAt ((w.setCell ⟨b, 0, none⟩ (.int .u8 (rb.toNat : Int))).setCell ⟨b, 1, none⟩ (.int .i64 255)) b ⟨rb, 255⟩ from (Has.setCell h 0 _).setCell 1 _)
      have HG := Lib.hid (sets2_chg (Chg.refl [b] w) (.int .u8 (rb.toNat : Int)) (.int .i64 255))
      have hTs := bs_size (Rl.text ⟨rb, 255⟩)
      have hTl := Rl.text_le ⟨rb, 255⟩
      generalize Fr.bs (Rl.text ⟨rb, 255⟩) = T at *
      have hT5 : T.size ≤ 5 := by omega
      clear hTs hTl
      clear h h0 e1 e2 he hn
      go_enter Try.func30, Try.ntmps30
      go_wp2_with fail
      refine (HC.out _ HS.out).mono ?_
      rintro e w1 ⟨rfl, h1, h2⟩
      have H1 := Lib.hid h1
      have H2 := Lib.hid (HG.out.trans h2)
      clear c0 c1 f0 f1 h1 h2
      have hcat : (⟨#[]⟩ : ByteArray) ++ T = T := by apply Fr.bs_inj; rw [Fr.list_append]; rfl
      go_wp2
      go_ret
      exact ⟨rfl, H1.out, H2.out⟩
    · obtain ⟨e1, e2⟩ := put_c r c h0 hn
      rw [e1, e2]
      obtain ⟨rb, rn⟩ := r
      simp only at hn h0 hr
      have H := Lib.hid h
      have c0 := Has.cell h 0; have c1 := Has.cell h 1
      have f0 := Has.free h 0; have f1 := Has.free h 1
      simp only [rcells, List.getElem?_toArray, List.getElem?_cons_zero, List.getElem?_cons_succ] at c0 c1
      have hn' : ((rn : Int) + 1 == 255) = false := by simpa using (show ¬ (rn : Int) + 1 = 255 by omega)
      have hcast : (rn : Int) + 1 = ((rn + 1 : Nat) : Int) := by omega
      have HCA := Lib.hid hcast
      clear hcast
      have hrn : (rn : Int) ≤ 255 := by omega
      clear h e1 e2 hn
      by_cases hp : 0 < rn
      · have hrb : rb = c := Classical.byContradiction (fun hh => h0 ⟨hp, hh⟩)
        subst hrb
        have d0 : decide ((0 : Int) < (rn : Int)) = true := by simp; omega
        have d0' : decide (0 < rn) = true := by simp; omega
        have d1 : ((rb.toNat : Int) != (rb.toNat : Int)) = false := by simp
        clear h0
        go_enter Try.func30, Try.ntmps30
        go_wp2
        go_ret
        exact ⟨rfl, by have := (Has.setCell H.out 0 (.int .u8 (rb.toNat : Int))).setCell 1 (.int .i64 ((rn : Int) + 1)); rw [HCA.out] at this; exact this, sets2_chg (Chg.refl [b] w) _ _⟩
      · have d0 : decide ((0 : Int) < (rn : Int)) = false := by simp; omega
        have d0' : decide (0 < rn) = false := by simp; omega
        clear h0
        go_enter Try.func30, Try.ntmps30
        go_wp2
        go_ret
        exact ⟨rfl, by have := (Has.setCell H.out 0 (.int .u8 (c.toNat : Int))).setCell 1 (.int .i64 ((rn : Int) + 1)); rw [HCA.out] at this; exact this, sets2_chg (Chg.refl [b] w) _ _⟩
end Go.Proofs.Ytaldcdgafljedaa
