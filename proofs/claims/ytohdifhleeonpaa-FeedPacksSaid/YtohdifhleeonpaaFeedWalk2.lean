/- Unpackers; nil ones. -/
import Derived.Test.YtohdifhleeonpaaFeedWalk1
namespace Go.Proofs.Ytohdifhleeonpaa
open Go.RowKit
set_option linter.unusedVariables false
set_option linter.unusedSimpArgs false

/-- a byte more: what is told, a fault, the row then -/
structure Up where
  s : List UInt8
  err : Int
  r : Rl.Pc
def uput (r : Rl.Pc) (c : UInt8) : Up :=
  if r.n = 4 then (if 251 < c.toNat then ⟨[], 25, r⟩ else ⟨List.replicate c.toNat r.b, 0, Rl.row0⟩) else if 0 < r.n ∧ r.b = c then ⟨[c], 0, ⟨c, r.n + 1⟩⟩ else ⟨[c], 0, ⟨c, 1⟩⟩
theorem uput_step (u : Rl.Un) (c : UInt8) : Rl.ustep u c = if (uput u.r c).err = 0 then some ⟨(uput u.r c).r, u.out ++ (uput u.r c).s⟩ else none := by
  unfold Rl.ustep uput
  by_cases h4 : u.r.n = 4
  · rw [if_pos h4, if_pos h4]
    by_cases hc : 251 < c.toNat
    · rw [if_pos hc, if_pos hc, if_neg (show ¬ (25 : Int) = 0 by decide)]
    · rw [if_neg hc, if_neg hc, if_pos rfl]
  · rw [if_neg h4, if_neg h4]
    by_cases hb : 0 < u.r.n ∧ u.r.b = c
    · rw [if_pos hb, if_pos hb, if_pos rfl]
    · rw [if_neg hb, if_neg hb, if_pos rfl]
theorem uput_bd (r : Rl.Pc) (c : UInt8) (h : r.n ≤ 4) : (uput r c).r.n ≤ 4 ∧ (uput r c).s.length ≤ 255 := by
  have := c.toNat_lt
  unfold uput
  split
  · split
    · exact ⟨h, by simp⟩
    · exact ⟨Nat.zero_le _, by rw [List.length_replicate]; omega⟩
  · split
    · exact ⟨by show r.n + 1 ≤ 4; omega, by simp⟩
    · exact ⟨by show 1 ≤ 4; decide, by simp⟩

set_option maxRecDepth 100000 in
set_option maxHeartbeats 800000 in
theorem uwants_walk (b : Nat) (r : Rl.Pc) (w : World) (h : UAt w b r) :
    Calls Try.prog 17 #[.pointer (some ⟨b, 0, none⟩)] w fun e w' => e = .returned (.bool (decide (r.n = 4))) ∧ w = w' := by
  obtain ⟨rb, rn⟩ := r
  have c0 := Has.cell h 0; have c1 := Has.cell h 1
  simp only [rcells, List.getElem?_toArray, List.getElem?_cons_zero, List.getElem?_cons_succ] at c0 c1
  clear h
  by_cases h4 : rn = 4
  · have e1 : decide (rn = 4) = true := by simpa using h4
    have e2 : ((rn : Int) == 4) = true := by simpa using (show (rn : Int) = 4 by omega)
    simp only [e1]
    clear h4 e1
    go_enter Try.func17, Try.ntmps17
    go_wp2
    go_ret
    exact ⟨rfl, rfl⟩
  · have e1 : decide (rn = 4) = false := by simpa using h4
    have e2 : ((rn : Int) == 4) = false := by simpa using (show ¬ (rn : Int) = 4 by omega)
    simp only [e1]
    clear h4 e1
    go_enter Try.func17, Try.ntmps17
    go_wp2
    go_ret
    exact ⟨rfl, rfl⟩
set_option maxRecDepth 100000 in
set_option maxHeartbeats 1600000 in
theorem uput_walk (b : Nat) (r : Rl.Pc) (c : UInt8) (w : World) (h : UAt w b r) (hr : r.n ≤ 4) :
    Calls Try.prog 18 #[.pointer (some ⟨b, 0, none⟩), .int .u8 (c.toNat : Int)] w fun e w' => e = .returned (.tuple #[.string (Fr.bs (uput r c).s), .int .i64 (uput r c).err]) ∧ UAt w' b (uput r c).r ∧ Chg [b] w w' := by
  have HW := Lib.hid (fun w h => uwants_walk b r w h)
  have hcl := c.toNat_lt
  by_cases h4 : r.n = 4
  · have e1 : decide (r.n = 4) = true := by simpa using h4
    rw [e1] at HW
    by_cases hc : 251 < c.toNat
    · have hu : uput r c = ⟨[], 25, r⟩ := by unfold uput; rw [if_pos h4, if_pos hc]
      rw [hu]
      have hc' : (251 : Int) < (c.toNat : Int) := by omega
      have H := Lib.hid h
      clear h hu e1 h4
      go_enter Try.func18, Try.ntmps18
      go_wp2_with fail
      (with_reducible refine (HW.out _ H.out).mono ?_)
      rintro e w1 ⟨rfl, rfl⟩
      go_wp2
      go_ret2
      exact ⟨rfl, H.out, Chg.refl _ _⟩
    · have hu : uput r c = ⟨List.replicate c.toNat r.b, 0, Rl.row0⟩ := by unfold uput; rw [if_pos h4, if_neg hc]
      rw [hu]
      have hc' : ¬ (251 : Int) < (c.toNat : Int) := by omega
      have H := Lib.hid h
      obtain ⟨rb, rn⟩ := r
      have c0 := Has.cell h 0; have c1 := Has.cell h 1
      simp only [rcells, List.getElem?_toArray, List.getElem?_cons_zero, List.getElem?_cons_succ] at c0 c1
      have hlt := Has.lt h
      have hcv : ∀ (w : World) (x : Nat), w.cell? ⟨x, 0, none⟩ = some (.int .u8 (rb.toNat : Int)) → (convert 51 9 (.slice (some ⟨x, 0, none⟩) 1 1)).run Try.prog w = .ok (.string (Fr.bs [rb])) w := fun w x h => conv_u8 w x rb _ rfl h
      have HR := Lib.hid (fun w => repeat_walk rb c.toNat w (by omega))
      have HA := Lib.hid (Has.alloc h (.cells #[.int .u8 (rb.toNat : Int)] 5))
      have HB0 := Lib.hid ((Chg.refl [b] w).alloc (.cells #[.int .u8 (rb.toNat : Int)] 5))
      simp only
      generalize Fr.bs (List.replicate c.toNat rb) = T at *
      generalize Fr.bs [rb] = B1 at *
      clear h hu e1 h4
      go_enter Try.func18, Try.ntmps18
      go_wp2_with fail
      (with_reducible refine (HW.out _ H.out).mono ?_)
      rintro e w1 ⟨rfl, rfl⟩
      go_wp2_with fail
      (with_reducible refine (HR.out _).mono ?_)
      rintro e w2 ⟨rfl, hb2⟩
      have H2 := Lib.hid (HA.out.below hb2 HA.out.lt)
      have HC2 := Lib.hid (HB0.out.trans (below_chg hb2 [b]))
      clear hb2 c0 c1
      have c0 := H2.out.cell 0; have c1 := H2.out.cell 1
      have f0 := H2.out.free 0; have f1 := H2.out.free 1
      simp only [rcells, List.getElem?_toArray, List.getElem?_cons_zero, List.getElem?_cons_succ] at c0 c1
      go_wp2
      go_ret2
      exact ⟨rfl, (H2.out.setCell 0 _).setCell 1 _, sets2_chg HC2.out _ _⟩
  · have e1 : decide (r.n = 4) = false := by simpa using h4
    rw [e1] at HW
    have hcv : ∀ (w : World) (x : Nat), w.cell? ⟨x, 0, none⟩ = some (.int .u8 (c.toNat : Int)) → (convert 51 9 (.slice (some ⟨x, 0, none⟩) 1 1)).run Try.prog w = .ok (.string (Fr.bs [c])) w := fun w x h => conv_u8 w x c _ rfl h
    have H := Lib.hid h
    have HP := Lib.hid h
    obtain ⟨rb, rn⟩ := r
    have c0 := Has.cell h 0; have c1 := Has.cell h 1
    have f0 := Has.free h 0; have f1 := Has.free h 1
    simp only [rcells, List.getElem?_toArray, List.getElem?_cons_zero, List.getElem?_cons_succ] at c0 c1
    simp only at h4 hr
    have hlt := Has.lt h
    have hrn : (rn : Int) ≤ 4 := by omega
    have HCA := Lib.hid (show (rn : Int) + 1 = ((rn + 1 : Nat) : Int) by omega)
    by_cases hb : 0 < rn ∧ rb = c
    · have hu : uput ⟨rb, rn⟩ c = ⟨[c], 0, ⟨c, rn + 1⟩⟩ := by unfold uput; rw [if_neg h4, if_pos hb]
      rw [hu]
      have hp : 0 < rn := hb.1
      have d0 : decide ((0 : Int) < (rn : Int)) = true := by simp; omega
      have d0' : decide (0 < rn) = true := by simp; omega
      have d1 := u8_eq _ _ hb.2
      have hbc : rb = c := hb.2
      simp only
      generalize Fr.bs [c] = B1 at *
      have HBC := Lib.hid hbc
      clear h hu e1 h4 hb hbc
      go_enter Try.func18, Try.ntmps18
      go_wp2_with fail
      (with_reducible refine (HW.out _ H.out).mono ?_)
      rintro e w1 ⟨rfl, rfl⟩
      go_wp2
      go_ret2
      exact ⟨rfl, by have := Has.alloc (Has.setCell HP.out 1 (.int .i64 ((rn : Int) + 1))) (.cells #[.int .u8 (c.toNat : Int)] 5); rw [HCA.out] at this; rw [HBC.out] at this; rw [HCA.out]; exact this, ((Chg.refl [b] w).setCell ⟨b, 1, none⟩ _ (.inl (by simp))).alloc _⟩
    · have hu : uput ⟨rb, rn⟩ c = ⟨[c], 0, ⟨c, 1⟩⟩ := by unfold uput; rw [if_neg h4, if_neg hb]
      rw [hu]
      simp only
      generalize Fr.bs [c] = B1 at *
      clear hu e1 h4
      have HF : ∀ o, UAt (((w.setCell ⟨b, 0, none⟩ (.int .u8 (c.toNat : Int))).setCell ⟨b, 1, none⟩ (.int .i64 1)).alloc o) b ⟨c, 1⟩ := fun o => Has.alloc ((Has.setCell h 0 _).setCell 1 _) o
      have HFF := Lib.hid HF
      clear h HF
      by_cases hp : 0 < rn
      · have d0 : decide ((0 : Int) < (rn : Int)) = true := by simp; omega
        have d0' : decide (0 < rn) = true := by simp; omega
        have d1 := u8_ne _ _ (fun hh => hb ⟨hp, hh⟩)
        clear hb
        go_enter Try.func18, Try.ntmps18
        go_wp2_with fail
        (with_reducible refine (HW.out _ H.out).mono ?_)
        rintro e w1 ⟨rfl, rfl⟩
        go_wp2
        go_ret2
        exact ⟨rfl, HFF.out _, (sets2_chg (Chg.refl [b] w) _ _).alloc _⟩
      · have d0 : decide ((0 : Int) < (rn : Int)) = false := by simp; omega
        have d0' : decide (0 < rn) = false := by simp; omega
        clear hb
        go_enter Try.func18, Try.ntmps18
        go_wp2_with fail
        (with_reducible refine (HW.out _ H.out).mono ?_)
        rintro e w1 ⟨rfl, rfl⟩
        go_wp2
        go_ret2
        exact ⟨rfl, HFF.out _, (sets2_chg (Chg.refl [b] w) _ _).alloc _⟩
def uendE (r : Rl.Pc) : Int := if r.n = 4 then 24 else 0
def uendR (r : Rl.Pc) : Rl.Pc := if r.n = 4 then r else Rl.row0
set_option maxRecDepth 100000 in
set_option maxHeartbeats 800000 in
theorem uend_walk (b : Nat) (r : Rl.Pc) (w : World) (h : UAt w b r) :
    Calls Try.prog 21 #[.pointer (some ⟨b, 0, none⟩)] w fun e w' => e = .returned (.int .i64 (uendE r)) ∧ UAt w' b (uendR r) ∧ Chg [b] w w' := by
  have HW := Lib.hid (fun w h => uwants_walk b r w h)
  have H := Lib.hid h
  unfold uendE uendR
  by_cases h4 : r.n = 4
  · have e1 : decide (r.n = 4) = true := by simpa using h4
    rw [e1] at HW
    rw [if_pos h4, if_pos h4]
    clear h h4 e1
    go_enter Try.func21, Try.ntmps21
    go_wp2_with fail
    (with_reducible refine (HW.out _ H.out).mono ?_)
    rintro e w1 ⟨rfl, rfl⟩
    go_wp2
    go_ret
    exact ⟨rfl, H.out, Chg.refl _ _⟩
  · have e1 : decide (r.n = 4) = false := by simpa using h4
    rw [e1] at HW
    rw [if_neg h4, if_neg h4]
    have c0 := Has.cell h 0; have c1 := Has.cell h 1
    have f0 := Has.free h 0; have f1 := Has.free h 1
    simp only [rcells, List.getElem?_toArray, List.getElem?_cons_zero, List.getElem?_cons_succ] at c0 c1
    clear h h4 e1
    go_enter Try.func21, Try.ntmps21
    go_wp2_with fail
    (with_reducible refine (HW.out _ H.out).mono ?_)
    rintro e w1 ⟨rfl, rfl⟩
    go_wp2
    go_ret
    exact ⟨rfl, (Has.setCell H.out 0 _).setCell 1 _, sets2_chg (Chg.refl [b] w) _ _⟩

set_option maxRecDepth 100000 in
set_option maxHeartbeats 800000 in
theorem uput_nil (c : Int) (w : World) : Calls Try.prog 18 #[.pointer none, .int .u8 c] w fun e w' => e = .returned (.tuple #[.string ⟨#[]⟩, .int .i64 7]) ∧ w = w' := by
  go_enter Try.func18, Try.ntmps18
  go_wp2
  go_ret2
  exact ⟨rfl, rfl⟩
set_option maxRecDepth 100000 in
set_option maxHeartbeats 800000 in
theorem uend_nil (w : World) : Calls Try.prog 21 #[.pointer none] w fun e w' => e = .returned (.int .i64 7) ∧ w = w' := by
  go_enter Try.func21, Try.ntmps21
  go_wp2
  go_ret
  exact ⟨rfl, rfl⟩
set_option maxRecDepth 100000 in
set_option maxHeartbeats 800000 in
theorem uwants_nil (w : World) : Calls Try.prog 17 #[.pointer none] w fun e w' => e = .returned (.bool false) ∧ w = w' := by
  go_enter Try.func17, Try.ntmps17
  go_wp2
  go_ret
  exact ⟨rfl, rfl⟩
set_option maxRecDepth 100000 in
set_option maxHeartbeats 800000 in
theorem put_nil (c : Int) (w : World) : Calls Try.prog 10 #[.pointer none, .int .u8 c] w fun e w' => e = .returned (.string ⟨#[]⟩) ∧ w = w' := by
  go_enter Try.func10, Try.ntmps10
  go_wp2
  go_ret
  exact ⟨rfl, rfl⟩
set_option maxRecDepth 100000 in
set_option maxHeartbeats 800000 in
theorem pend_nil (w : World) : Calls Try.prog 13 #[.pointer none] w fun e w' => e = .returned (.string ⟨#[]⟩) ∧ w = w' := by
  go_enter Try.func13, Try.ntmps13
  go_wp2
  go_ret
  exact ⟨rfl, rfl⟩
set_option maxRecDepth 100000 in
set_option maxHeartbeats 800000 in
theorem prow_nil (w : World) : Calls Try.prog 12 #[.pointer none] w fun e w' => e = .returned (.agg #[.int .u8 0, .int .i64 0]) ∧ Below w.heap.size w w' := by
  go_enter Try.func12, Try.ntmps12
  go_wp2
  refine bodyPost_ret (v := .agg #[.int .u8 0, .int .i64 0]) (by rw [results_cell1 rfl]; go_simp) rfl ?_
  exact ⟨rfl, (Below.refl _ _).alloc (Nat.le_refl _) _⟩
end Go.Proofs.Ytohdifhleeonpaa
