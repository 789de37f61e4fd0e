/- Whether a tenant may be; a number of digits; whether one has its name or token already. -/
import Derived.Test.YtajalllecoclcaaDoorTnRow
import Derived.Test.YtajalllecoclcaaDoorTokWalk4
namespace Go.Proofs.YtajalllecoclcaaDoor
open Go.RowKit
set_option linter.unusedVariables false
set_option linter.unusedSimpArgs false

set_option maxRecDepth 100000 in
set_option maxHeartbeats 400000 in
theorem between_walk (n lo hi : Int) (w : World) : Calls Tryd.prog 53 #[.int .i64 n, .int .i64 lo, .int .i64 hi] w fun r w' => r = .returned (.bool (decide (lo ≤ n) && decide (n ≤ hi))) ∧ w = w' := by
  by_cases c1 : lo ≤ n
  · have e1 : decide (lo ≤ n) = true := decide_eq_true c1
    by_cases c2 : n ≤ hi
    · have e2 : decide (n ≤ hi) = true := decide_eq_true c2
      go_enter Tryd.func53, Tryd.ntmps53
      go_wp2
      go_ret
      exact ⟨by first | rfl | (rw [e1, e2]; rfl) | (rw [e1]; rfl), rfl⟩
    · have e2 : decide (n ≤ hi) = false := decide_eq_false c2
      go_enter Tryd.func53, Tryd.ntmps53
      go_wp2
      go_ret
      exact ⟨by first | rfl | (rw [e1, e2]; rfl), rfl⟩
  · have e1 : decide (lo ≤ n) = false := decide_eq_false c1
    go_enter Tryd.func53, Tryd.ntmps53
    go_wp2
    go_ret
    exact ⟨by first | rfl | (rw [e1]; rfl), rfl⟩
theorem stempty32 (s : ByteArray) : s.toList.isEmpty = decide (s.size = 0) := by
  rw [ByteArray.toList_eq, Bool.eq_iff_iff, decide_eq_true_eq, List.isEmpty_iff, ← Fr.size_list]
  exact ⟨fun h => by rw [h]; rfl, fun h => List.eq_nil_of_length_eq_zero h⟩
/-- a tenant's five values -/
def tnV (t : Tn.Ten) : Value := .agg #[.string t.name, .string t.tok, .int .i64 t.mem, .int .i64 t.st, .int .i64 t.qu]
set_option maxRecDepth 100000 in
set_option maxHeartbeats 1600000 in
theorem tnmay_walk (t : Tn.Ten) (w : World) (hT : Tabs w) (h1 : t.name.size ≤ 100000) (h2 : t.tok.size ≤ 100000) : Calls Tryd.prog 37 #[.agg #[.string t.name, .string t.tok, .int .i64 t.mem, .int .i64 t.st, .int .i64 t.qu]] w fun e w' => e = .returned (.bool (Tn.may t)) ∧ Below w.heap.size w w' := by
  have H1 := Lib.hid (fun w h => is_walk t.name w h (by omega))
  have H2 := Lib.hid (fun w h => is_walk t.tok w h (by omega))
  have HMV := Lib.hid (show Tn.may t = (wordB t.name.data.toList && (wordB t.tok.data.toList && (Tn.btw t.mem 0 && (Tn.btw t.st 1 && Tn.btw t.qu 1)))) from rfl)
  have HT := Lib.hid hT
  have HW := Lib.hid (fun n lo w => between_walk n lo 1099511627776 w)
  clear hT h1 h2
  generalize Tn.may t = M at *
  obtain ⟨na, tk, me, st, qu⟩ := t
  simp only at *
  generalize wordB na.data.toList = b1 at *
  generalize wordB tk.data.toList = b2 at *
  unfold Tn.btw at HMV
  have hc : ∀ n lo : Int, ∃ b : Bool, (decide (lo ≤ n) && decide (n ≤ 1099511627776)) = b := fun n lo => ⟨_, rfl⟩
  have W3 := Lib.hid (fun w => HW.out me 0 w); have W4 := Lib.hid (fun w => HW.out st 1 w); have W5 := Lib.hid (fun w => HW.out qu 1 w)
  clear HW hc
  generalize (decide ((0 : Int) ≤ me) && decide (me ≤ 1099511627776)) = b3 at *
  generalize (decide ((1 : Int) ≤ st) && decide (st ≤ 1099511627776)) = b4 at *
  generalize (decide ((1 : Int) ≤ qu) && decide (qu ≤ 1099511627776)) = b5 at *
  go_enter Tryd.func37, Tryd.ntmps37
  go_upto_region 1 with (fail)
  have HP := Lib.hid (Has.new w #[.string na, .string tk, .int .i64 me, .int .i64 st, .int .i64 qu] 61)
  have hb0 := (Below.refl w.heap.size w).alloc (Nat.le_refl _) (.cells #[.string na, .string tk, .int .i64 me, .int .i64 st, .int .i64 qu] 61)
  have ht0 := HT.out.keep hb0
  clear HT
  have HT := Lib.hid ht0
  have HB := Lib.hid hb0
  obtain ⟨q, hq⟩ : ∃ q, q = w.heap.size := ⟨_, rfl⟩
  rw [← hq] at HP
  rw [← hq]
  clear hq hb0 ht0
  generalize w.alloc (.cells #[.string na, .string tk, .int .i64 me, .int .i64 st, .int .i64 qu] 61) = w1 at *
  have p0 := HP.out.cell 0; have p1 := HP.out.cell 1; have p2 := HP.out.cell 2; have p3 := HP.out.cell 3; have p4 := HP.out.cell 4
  simp only [List.getElem?_toArray, List.getElem?_cons_zero, List.getElem?_cons_succ] at p0 p1 p2 p3 p4
  go_wp2_with fail
  clear p0 p1 p2 p3 p4
  with_reducible refine (H1.out _ HT.out).mono ?_
  rintro r2 w2 ⟨rfl, hb⟩
  have HTX := HT.out.keep hb
  have HPX := HP.out.below hb HP.out.lt
  have HBX := HB.out.trans (hb.mono HB.out.size)
  clear hb HT HP HB
  have HT := Lib.hid HTX; have HP := Lib.hid HPX; have HB := Lib.hid HBX
  have p0 := HPX.cell 0; have p1 := HPX.cell 1; have p2 := HPX.cell 2; have p3 := HPX.cell 3; have p4 := HPX.cell 4
  simp only [List.getElem?_toArray, List.getElem?_cons_zero, List.getElem?_cons_succ] at p0 p1 p2 p3 p4
  clear HTX HPX HBX
  cases b1
  · go_wp2
    go_ret
    exact ⟨by rw [HMV.out]; rfl, HB.out⟩
  go_wp2_with fail
  clear p0 p1 p2 p3 p4
  with_reducible refine (H2.out _ HT.out).mono ?_
  rintro r2 w2 ⟨rfl, hb⟩
  have HTX := HT.out.keep hb
  have HPX := HP.out.below hb HP.out.lt
  have HBX := HB.out.trans (hb.mono HB.out.size)
  clear hb HT HP HB
  have HT := Lib.hid HTX; have HP := Lib.hid HPX; have HB := Lib.hid HBX
  have p0 := HPX.cell 0; have p1 := HPX.cell 1; have p2 := HPX.cell 2; have p3 := HPX.cell 3; have p4 := HPX.cell 4
  simp only [List.getElem?_toArray, List.getElem?_cons_zero, List.getElem?_cons_succ] at p0 p1 p2 p3 p4
  clear HTX HPX HBX
  cases b2
  · go_wp2
    go_ret
    exact ⟨by rw [HMV.out]; rfl, HB.out⟩
  go_wp2_with fail
  with_reducible refine (W3.out _).mono ?_
  rintro r3 w3 ⟨rfl, rfl⟩
  cases b3
  · go_wp2
    go_ret
    exact ⟨by rw [HMV.out]; rfl, HB.out⟩
  go_wp2_with fail
  with_reducible refine (W4.out _).mono ?_
  rintro r3 w3 ⟨rfl, rfl⟩
  cases b4
  · go_wp2
    go_ret
    exact ⟨by rw [HMV.out]; rfl, HB.out⟩
  go_wp2_with fail
  with_reducible refine (W5.out _).mono ?_
  rintro r3 w3 ⟨rfl, rfl⟩
  cases b5
  · go_wp2
    go_ret
    exact ⟨by rw [HMV.out]; rfl, HB.out⟩
  · go_wp2
    go_ret
    exact ⟨by rw [HMV.out]; rfl, HB.out⟩
set_option maxRecDepth 100000 in
set_option maxHeartbeats 1600000 in
theorem again_walk (l : List Tn.Ten) (t : Tn.Ten) (a : Option Addr) (len cap : Nat) (w : World) (hl : l.length = len) (hr : RowS w 5 a len cap (l.flatMap tncells)) (h100 : len ≤ 1000) :
    Calls Tryd.prog 38 #[.slice a len cap, .agg #[.string t.name, .string t.tok, .int .i64 t.mem, .int .i64 t.st, .int .i64 t.qu]] w fun r w' => r = .returned (.bool (Tn.again l t)) ∧ Below w.heap.size w w' := by
  have HR := Lib.hid hr
  have HA := Lib.hid (fun k h => Tn.again_at l t k h)
  have HE := Lib.hid (fun k h => Tn.again_end l t k h)
  have HS := Lib.hid (show Tn.again (l.drop 0) t = Tn.again l t by rw [List.drop_zero])
  generalize Tn.again l t = R at *
  obtain ⟨na, tk, me, st, qu⟩ := t
  subst hl
  clear hr
  go_enter Tryd.func38, Tryd.ntmps38
  go_upto_region 1 with (fail)
  have HP := Lib.hid (Has.new w #[.string na, .string tk, .int .i64 me, .int .i64 st, .int .i64 qu] 61)
  have HB := Lib.hid ((Below.refl w.heap.size w).alloc (Nat.le_refl _) (.cells #[.string na, .string tk, .int .i64 me, .int .i64 st, .int .i64 qu] 61))
  obtain ⟨q, hq⟩ : ∃ q, q = w.heap.size := ⟨_, rfl⟩
  rw [← hq] at HP
  rw [← hq]
  clear hq
  generalize w.alloc (.cells #[.string na, .string tk, .int .i64 me, .int .i64 st, .int .i64 qu] 61) = w1 at *
  go_wp2_with fail
  go_loopw [9] (fun vi wr => ∃ (k : Nat), k ≤ l.length ∧ vi = .int .i64 k ∧ Tn.again (l.drop k) ⟨na, tk, me, st, qu⟩ = R ∧ Has wr q #[.string na, .string tk, .int .i64 me, .int .i64 st, .int .i64 qu] 61 ∧ Below w.heap.size w wr) (fun i _ => l.length - (intOf i).toNat)
  case atStart => exact ⟨0, Nat.zero_le _, rfl, HS.out, HP.out, HB.out⟩
  case round =>
    obtain ⟨k, hk, rfl, hag, hP, hB⟩ := hrel
    clear HP HB HS
    have HP := Lib.hid hP; have HB := Lib.hid hB
    clear hP hB
    by_cases hlt : k < l.length
    · have hlt' : (k : Int) < (l.length : Int) := by omega
      obtain ⟨b, off, rfl, hb, a0, a1, a2, a3, a4⟩ := (HR.out.keep HB.out).ten k hlt hlt
      rw [HA.out k hlt] at hag
      generalize l[k] = x at *
      obtain ⟨n2, k2, m2, s2, q2⟩ := x
      simp only at a0 a1 a2 a3 a4
      simp only [Tn.like] at hag
      go_upto_region 4 with (fail)
      have HP1 := Lib.hid (HP.out.alloc (.cells #[.string n2, .string k2, .int .i64 m2, .int .i64 s2, .int .i64 q2] 61))
      have HB1 := Lib.hid (HB.out.alloc HB.out.size (.cells #[.string n2, .string k2, .int .i64 m2, .int .i64 s2, .int .i64 q2] 61))
      have HX := Has.new wr #[.string n2, .string k2, .int .i64 m2, .int .i64 s2, .int .i64 q2] 61
      clear a0 a1 a2 a3 a4 HP HB hb
      generalize wr.heap.size = p at *
      generalize wr.alloc (.cells #[.string n2, .string k2, .int .i64 m2, .int .i64 s2, .int .i64 q2] 61) = w5 at *
      have x0 := HX.cell 0; have x1 := HX.cell 1
      have y0 := HP1.out.cell 0; have y1 := HP1.out.cell 1
      simp only [List.getElem?_toArray, List.getElem?_cons_zero, List.getElem?_cons_succ] at x0 x1 y0 y1
      clear HX
      have e1 := tstr_eq n2 na
      have e2 := tstr_eq k2 tk
      by_cases c1 : n2 = na
      · have d1 : decide (n2 = na) = true := decide_eq_true c1
        rw [d1, Bool.true_or, Bool.true_or] at hag
        rw [d1] at e1
        have HG := Lib.hid hag
        clear hag c1 d1 e2
        go_wp2
        (try simp only [Exit.inBlock, Exit.then])
        go_ret
        exact ⟨by rw [← HG.out]; rfl, HB1.out⟩
      · have d1 : decide (n2 = na) = false := decide_eq_false c1
        rw [d1, Bool.false_or] at hag
        rw [d1] at e1
        clear c1 d1
        by_cases c2 : k2 = tk
        · have d2 : decide (k2 = tk) = true := decide_eq_true c2
          rw [d2, Bool.true_or] at hag
          rw [d2] at e2
          have HG := Lib.hid hag
          clear hag c2 d2
          go_wp2
          (try simp only [Exit.inBlock, Exit.then])
          go_ret
          exact ⟨by rw [← HG.out]; rfl, HB1.out⟩
        · have d2 : decide (k2 = tk) = false := decide_eq_false c2
          rw [d2, Bool.false_or] at hag
          rw [d2] at e2
          have HG := Lib.hid hag
          clear hag c2 d2
          go_wp2_with fail
          go_roundw
          case rel => exact ⟨k + 1, hlt, by go_num, HG.out, HP1.out, HB1.out⟩
          case measure => simp [intOf]; omega
    · have hlt' : ¬ (k : Int) < (l.length : Int) := by omega
      rw [HE.out k (by omega)] at hag
      have HG := Lib.hid hag
      clear hag
      go_wp2
      go_ret
      exact ⟨by rw [← HG.out]; rfl, HB.out⟩
end Go.Proofs.YtajalllecoclcaaDoor
