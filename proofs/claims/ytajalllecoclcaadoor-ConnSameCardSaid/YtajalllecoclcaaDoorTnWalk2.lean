/- The first tenant that may not be; the tenant with a token. -/
import Derived.Test.YtajalllecoclcaaDoorTnWalk1
import Derived.Test.YtajalllecoclcaaDoorLater
namespace Go.Proofs.YtajalllecoclcaaDoor
open Go.RowKit
set_option linter.unusedVariables false
set_option linter.unusedSimpArgs false

/-- a place, or why there is none -/
def findV (r : Int) : Value := if r = -1 then .tuple #[.int .i64 0, .int .i64 30] else .tuple #[.int .i64 r, .int .i64 0]
theorem findV_no : findV (-1) = .tuple #[.int .i64 0, .int .i64 30] := if_pos rfl
theorem findV_yes (r : Int) (h : ¬ r = -1) : findV r = .tuple #[.int .i64 r, .int .i64 0] := if_neg h
def tnSmall (l : List Tn.Ten) : Prop := ∀ x ∈ l, x.name.size ≤ 100000 ∧ x.tok.size ≤ 100000
set_option maxRecDepth 100000 in
set_option maxHeartbeats 2000000 in
theorem find_walk (l : List Tn.Ten) (key : ByteArray) (a : Option Addr) (len cap : Nat) (w : World) (hl : l.length = len) (hr : RowS w 5 a len cap (l.flatMap tncells)) (h100 : len ≤ 1000) (hz : tnSmall l) (hk : key.size ≤ 100000) :
    Calls Tryd.prog 39 #[.slice a len cap, .string key] w fun r w' => r = .returned (findV (Tn.find l key)) ∧ Below w.heap.size w w' := by
  have HR := Lib.hid hr
  have HA := Lib.hid (fun k h => Tn.findL_at key l k h)
  have HE := Lib.hid (fun k h => Tn.findL_end key l k h)
  have HBD := Lib.hid (fun (k : Nat) (h : k < l.length) => show 0 ≤ (k : Int) by omega)
  have HS := Lib.hid (show Tn.findL key (l.drop 0) 0 = Tn.find l key by rw [List.drop_zero]; rfl)
  have HZ := Lib.hid (fun k (h : k < l.length) => hz l[k] (List.getElem_mem h))
  generalize Tn.find l key = R at *
  subst hl
  clear hr hz
  go_enter Tryd.func39, Tryd.ntmps39
  go_wp2_with fail
  go_loopw [6, 11] (fun va vi wr => ∃ (k : Nat) (at' : Int), k ≤ l.length ∧ vi = .int .i64 k ∧ va = .int .i64 at' ∧ ((at' = -1 ∧ Tn.findL key (l.drop k) k = R) ∨ (0 ≤ at' ∧ at' = R)) ∧ Below w.heap.size w wr) (fun _ i _ => l.length - (intOf i).toNat)
  case atStart => exact ⟨0, -1, Nat.zero_le _, rfl, rfl, .inl ⟨rfl, HS.out⟩, Below.refl _ _⟩
  case round =>
    obtain ⟨k, at', hk', rfl, rfl, hag, hB⟩ := hrel
    have HB := Lib.hid hB
    have HG := Lib.hid hag
    clear hB hag
    by_cases hlt : k < l.length
    · have hlt' : (k : Int) < (l.length : Int) := by omega
      obtain ⟨b, off, rfl, hb, a0, a1, a2, a3, a4⟩ := (HR.out.keep HB.out).ten k hlt hlt
      have hnx := HA.out k hlt
      have hzk := HZ.out k hlt
      generalize l[k] = x at *
      obtain ⟨n2, k2, m2, s2, q2⟩ := x
      simp only at a0 a1 a2 a3 a4 hnx hzk
      have HSM := Lib.hid (fun w => tsame_walk k2 key w (by omega) (by omega))
      have HNX := Lib.hid hnx
      clear hnx hzk
      go_upto_region 5 with (fail)
      have HB1 := Lib.hid (HB.out.alloc HB.out.size (.cells #[.string n2, .string k2, .int .i64 m2, .int .i64 s2, .int .i64 q2] 61))
      have HX := Has.new wr #[.string n2, .string k2, .int .i64 m2, .int .i64 s2, .int .i64 q2] 61
      clear a0 a1 a2 a3 a4 HB hb
      generalize wr.heap.size = p at *
      generalize wr.alloc (.cells #[.string n2, .string k2, .int .i64 m2, .int .i64 s2, .int .i64 q2] 61) = w5 at *
      have x1 := HX.cell 1
      simp only [List.getElem?_toArray, List.getElem?_cons_zero, List.getElem?_cons_succ] at x1
      clear HX
      go_wp2_with fail
      with_reducible refine (HSM.out _).mono ?_
      rintro r6 w6 ⟨rfl, hb6⟩
      have HB6 := Lib.hid (HB1.out.trans (hb6.mono HB1.out.size))
      clear hb6 HB1 x1
      by_cases c : k2 = key
      · have d : decide (k2 = key) = true := decide_eq_true c
        rw [d]
        by_cases cm : at' = -1
        · have HF := Lib.hid (show (k : Int) = R by
            rcases HG.out with ⟨_, h⟩ | ⟨h, _⟩
            · rw [← h, HNX.out, if_pos c]
            · omega)
          subst cm
          clear c d HG HNX
          go_wp2_with fail
          go_roundw
          case rel => exact ⟨k + 1, (k : Int), hlt, by go_num, rfl, .inr ⟨by omega, HF.out⟩, HB6.out⟩
          case measure => simp [intOf]; omega
        · have cm2 : (at' == -1) = false := by simpa using cm
          have HF := Lib.hid (show 0 ≤ at' ∧ at' = R by
            rcases HG.out with ⟨h, _⟩ | h
            · exact absurd h cm
            · exact h)
          clear c d HG HNX
          go_wp2_with fail
          go_roundw
          case rel => exact ⟨k + 1, at', hlt, by go_num, rfl, .inr HF.out, HB6.out⟩
          case measure => simp [intOf]; omega
      · have d : decide (k2 = key) = false := decide_eq_false c
        rw [d]
        have HF := Lib.hid (show (at' = -1 ∧ Tn.findL key (l.drop (k + 1)) (k + 1) = R) ∨ (0 ≤ at' ∧ at' = R) by
          rcases HG.out with ⟨h1, h⟩ | h
          · exact .inl ⟨h1, by rw [← h, HNX.out, if_neg c]⟩
          · exact .inr h)
        clear c d HG HNX
        go_wp2_with fail
        go_roundw
        case rel => exact ⟨k + 1, at', hlt, by go_num, rfl, HF.out, HB6.out⟩
        case measure => simp [intOf]; omega
    · have hlt' : ¬ (k : Int) < (l.length : Int) := by omega
      by_cases cm : at' = -1
      · have HF := Lib.hid (show R = -1 by
          rcases HG.out with ⟨_, h⟩ | ⟨h, _⟩
          · rw [← h, HE.out k (by omega)]
          · omega)
        subst cm
        clear HG
        go_wp2
        refine bodyPost_ret (results_tmp2 rfl _ _ _) rfl ?_
        exact ⟨by rw [HF.out, findV_no]; rfl, HB.out⟩
      · have cm2 : (at' == -1) = false := by simpa using cm
        have HF := Lib.hid (show at' = R by
          rcases HG.out with ⟨h, _⟩ | h
          · exact absurd h cm
          · exact h.2)
        have HC := Lib.hid cm
        clear HG cm
        go_wp2
        refine bodyPost_ret (results_tmp2 rfl _ _ _) rfl ?_
        exact ⟨by rw [← HF.out, findV_yes _ HC.out]; rfl, HB.out⟩
set_option maxRecDepth 100000 in
set_option maxHeartbeats 3000000 in
theorem check_walk (l : List Tn.Ten) (a : Option Addr) (len cap : Nat) (w : World) (hl : l.length = len) (hr : RowS w 5 a len cap (l.flatMap tncells)) (h100 : len ≤ 1000) (hz : tnSmall l) (hT : Tabs w) :
    Calls Tryd.prog 25 #[.slice a len cap] w fun r w' => r = .returned (.tuple #[.int .i64 (Tn.check l).1, .int .i64 (Tn.check l).2]) ∧ Below w.heap.size w w' := by
  have HR := Lib.hid hr
  have HC0 := Lib.hid (show Tn.check l = if l.length = 0 then (-1, 6) else if 16 < l.length then (16, 2) else Tn.chkL [] l from rfl)
  have HA := Lib.hid (fun k h => Tn.chkL_at l k h)
  have HE := Lib.hid (Tn.chkL_end l l.length (Nat.le_refl _))
  have HZ := Lib.hid (fun k (h : k < l.length) => hz l[k] (List.getElem_mem h))
  have HFR := Lib.hid (fun (w : World) (h : RowS w 5 a len cap (l.flatMap tncells)) k hk => h.front hl k hk)
  have HT := Lib.hid hT
  generalize Tn.check l = R at *
  subst hl
  clear hr hz hT
  by_cases h0 : l.length = 0
  · have HRR := Lib.hid (show R = (-1, 6) by rw [HC0.out, if_pos h0])
    have h0' : ((l.length : Int) == 0) = true := by simp; exact List.length_eq_zero_iff.1 h0
    clear h0
    go_enter Tryd.func25, Tryd.ntmps25
    go_wp2
    refine bodyPost_ret (results_tmp2 rfl _ _ _) rfl ?_
    exact ⟨by rw [HRR.out]; rfl, Below.refl _ _⟩
  have h0' : ((l.length : Int) == 0) = false := by
    apply Bool.eq_false_iff.2
    intro h
    have := beq_iff_eq.1 h
    omega
  by_cases h16 : 16 < l.length
  · have HRR := Lib.hid (show R = (16, 2) by rw [HC0.out, if_neg h0, if_pos h16])
    have h16' : (16 : Int) < (l.length : Int) := by omega
    clear h0
    go_enter Tryd.func25, Tryd.ntmps25
    go_wp2
    refine bodyPost_ret (results_tmp2 rfl _ _ _) rfl ?_
    exact ⟨by rw [HRR.out]; rfl, Below.refl _ _⟩
  have HRR := Lib.hid (show Tn.chkL (l.take 0) (l.drop 0) = R by rw [HC0.out, if_neg h0, if_neg h16]; rfl)
  have h16' : ¬ (16 : Int) < (l.length : Int) := by omega
  clear h0
  go_enter Tryd.func25, Tryd.ntmps25
  go_wp2_with fail
  go_loopw [16] (fun vi wr => ∃ (k : Nat), k ≤ l.length ∧ vi = .int .i64 k ∧ Tn.chkL (l.take k) (l.drop k) = R ∧ Below w.heap.size w wr) (fun i _ => l.length - (intOf i).toNat)
  case atStart => exact ⟨0, Nat.zero_le _, rfl, HRR.out, Below.refl _ _⟩
  case round =>
    obtain ⟨k, hk, rfl, hag, hB⟩ := hrel
    have HB := Lib.hid hB
    clear hB
    by_cases hlt : k < l.length
    · have hlt' : (k : Int) < (l.length : Int) := by omega
      obtain ⟨b, off, rfl, hb, a0, a1, a2, a3, a4⟩ := (HR.out.keep HB.out).ten k hlt hlt
      rw [HA.out k hlt] at hag
      have HG := Lib.hid hag
      have hzk := HZ.out k hlt
      generalize l[k] = x at *
      have HMY := Lib.hid (fun w h => tnmay_walk x w h hzk.1 hzk.2)
      have HAG := Lib.hid (fun (w : World) c h => again_walk (l.take k) x (some ⟨b, off, none⟩) k c w (by rw [List.length_take]; omega) h (by omega))
      have HT2 := Lib.hid (HT.out.keep HB.out)
      obtain ⟨n2, k2, m2, s2, q2⟩ := x
      simp only at a0 a1 a2 a3 a4 HMY HAG
      clear hag hzk
      go_upto_region 8 with (fail)
      have HB1 := Lib.hid (HB.out.alloc HB.out.size (.cells #[.string n2, .string k2, .int .i64 m2, .int .i64 s2, .int .i64 q2] 61))
      have HX := Lib.hid (Has.new wr #[.string n2, .string k2, .int .i64 m2, .int .i64 s2, .int .i64 q2] 61)
      have HT3 := Lib.hid (HT2.out.keep ((Below.refl wr.heap.size wr).alloc (Nat.le_refl _) (.cells #[.string n2, .string k2, .int .i64 m2, .int .i64 s2, .int .i64 q2] 61)))
      clear a0 a1 a2 a3 a4 HB hb HT2
      generalize wr.heap.size = p at *
      generalize wr.alloc (.cells #[.string n2, .string k2, .int .i64 m2, .int .i64 s2, .int .i64 q2] 61) = w5 at *
      have x0 := HX.out.cell 0; have x1 := HX.out.cell 1; have x2 := HX.out.cell 2; have x3 := HX.out.cell 3; have x4 := HX.out.cell 4
      simp only [List.getElem?_toArray, List.getElem?_cons_zero, List.getElem?_cons_succ] at x0 x1 x2 x3 x4
      go_wp2_with fail
      with_reducible refine (HMY.out _ HT3.out).mono ?_
      rintro r6 w6 ⟨rfl, hb6⟩
      have HB6 := Lib.hid (HB1.out.trans (hb6.mono HB1.out.size))
      have HX6 := Lib.hid (HX.out.below hb6 HX.out.lt)
      clear hb6 HB1 x0 x1 x2 x3 x4 HX HT3 HMY
      cases hm : Tn.may ⟨n2, k2, m2, s2, q2⟩ with
      | false =>
        have HF := Lib.hid (show R = ((k : Int), 1) by rw [← HG.out, if_pos hm])
        clear hm HG
        go_wp2
        (try simp only [Exit.inBlock, Exit.then])
        refine bodyPost_ret (results_tmp2 rfl _ _ _) rfl ?_
        exact ⟨by rw [HF.out]; rfl, HB6.out⟩
      | true =>
        have HG2 := Lib.hid (show (if Tn.again (l.take k) ⟨n2, k2, m2, s2, q2⟩ = true then ((k : Int), 8) else Tn.chkL (l.take (k + 1)) (l.drop (k + 1))) = R by
          have hg := HG.out
          rw [hm, if_neg (by decide)] at hg
          exact hg)
        clear hm HG
        have HRF := Lib.hid (HFR.out w6 (HR.out.keep HB6.out) k (by omega))
        have hcap := (HR.out.keep HB6.out).le
        go_upto_region 10 with (fail)
        have x0 : ∀ y : Later w6, y.at.cell? ⟨p, 0, none⟩ = some (.string n2) := fun y => y.cell (HX6.out.cell 0)
        have x1 : ∀ y : Later w6, y.at.cell? ⟨p, 1, none⟩ = some (.string k2) := fun y => y.cell (HX6.out.cell 1)
        have x2 : ∀ y : Later w6, y.at.cell? ⟨p, 2, none⟩ = some (.int .i64 m2) := fun y => y.cell (HX6.out.cell 2)
        have x3 : ∀ y : Later w6, y.at.cell? ⟨p, 3, none⟩ = some (.int .i64 s2) := fun y => y.cell (HX6.out.cell 3)
        have x4 : ∀ y : Later w6, y.at.cell? ⟨p, 4, none⟩ = some (.int .i64 q2) := fun y => y.cell (HX6.out.cell 4)
        have HA1 := Lib.hid (fun y : Later w6 => later_call (x := y) (HAG.out y.at _ (HRF.out.keep y.below)))
        refine region_later 6 (by kernel_rfl) (by kernel_rfl) ?_
        simp only [List.take_succ_cons, List.take_zero, List.drop_succ_cons, List.drop_zero]
        repeat (go_big_quiet_step (with_reducible exact HA1.out _))
        refine wpQuiet_nil ?_
        rintro w' ⟨y, rfl⟩
        have HB7 := Lib.hid (HB6.out.trans (y.below.mono HB6.out.size))
        clear x0 x1 x2 x3 x4 HA1 HX6 HB6 HRF HAG
        generalize y.at = w7 at *
        cases ha : Tn.again (l.take k) ⟨n2, k2, m2, s2, q2⟩ with
        | true =>
          have HF := Lib.hid (show R = ((k : Int), 8) by rw [← HG2.out, if_pos ha])
          clear ha HG2
          go_wp2
          (try simp only [Exit.inBlock, Exit.then])
          refine bodyPost_ret (results_tmp2 rfl _ _ _) rfl ?_
          exact ⟨by rw [HF.out]; rfl, HB7.out⟩
        | false =>
          have HF := Lib.hid (show Tn.chkL (l.take (k + 1)) (l.drop (k + 1)) = R by rw [← HG2.out, if_neg (by rw [ha]; decide)])
          clear ha HG2
          go_wp2_with fail
          go_roundw
          case rel => exact ⟨k + 1, hlt, by go_num, HF.out, HB7.out⟩
          case measure => simp [intOf]; omega
    · have hlt' : ¬ (k : Int) < (l.length : Int) := by omega
      have hke : k = l.length := by omega
      subst hke
      rw [HE.out] at hag
      have HF := Lib.hid hag.symm
      clear hag
      go_wp2
      refine bodyPost_ret (results_tmp2 rfl _ _ _) rfl ?_
      exact ⟨by rw [HF.out]; rfl, HB.out⟩
end Go.Proofs.YtajalllecoclcaaDoor
