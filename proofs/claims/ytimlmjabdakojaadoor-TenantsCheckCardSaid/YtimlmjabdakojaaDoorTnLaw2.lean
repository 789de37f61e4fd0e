/- The law of checks. -/
import Derived.Test.YtimlmjabdakojaaDoorTnRef1
namespace Go.Proofs.YtimlmjabdakojaaDoor
open Go.RowKit
set_option linter.unusedVariables false
set_option linter.unusedSimpArgs false

set_option maxRecDepth 100000 in
set_option maxHeartbeats 3000000 in
theorem tenantsCheck_walk (l : List Tn.Ten) (a : Option Addr) (len cap : Nat) (w : World) (hl : l.length = len) (hr : RowS w 5 a len cap (l.flatMap tncells)) (_ : ∀ x ∈ l, x.name.size ≤ maxLen ∧ x.tok.size ≤ maxLen) (hM : MaxL w) (hT : Tabs w) :
    Calls Tryd.prog 3 #[.slice a len cap] w fun r w' => r = .returned (.bool true) ∧ Below w.heap.size w w' := by
  have HM := Lib.hid hM
  have HT := Lib.hid hT
  have HR := Lib.hid hr
  have HANN := Lib.hid (fun w hM hT => ann_walk w hM hT)
  have HLG := Lib.hid (large_walk l a len cap w hl hr)
  clear hM hT hr
  cases hg : Tn.large l with
  | true =>
    rw [hg] at HLG
    clear hg
    go_enter Tryd.func3, Tryd.ntmps3
    go_wp2_with fail
    (with_reducible refine (HLG.out).mono ?_)
    rintro r1 w1 ⟨rfl, hb⟩
    have HB := Lib.hid hb
    clear hb
    go_wp2_with fail
    with_reducible refine (HANN.out _ (HM.out.keep HB.out) (HT.out.keep HB.out)).mono ?_
    rintro r9 w9 ⟨rfl, hb⟩
    have HBX := Lib.hid (HB.out.trans (hb.mono HB.out.size))
    clear hb
    go_wp2
    go_ret
    exact ⟨rfl, HBX.out⟩
  | false =>
    obtain ⟨h40, hz⟩ := Tn.large_not l hg
    rw [hg] at HLG
    have hsm : tnSmall l := fun x hx => by have := hz x hx; omega
    have HZ := Lib.hid (fun k (h : k < l.length) => hsm l[k] (List.getElem_mem h))
    have HC := Lib.hid (fun w hr hT => check_walk l a len cap w hl hr (by omega) hsm hT)
    have HRC := Lib.hid (fun w hr => refcheck_walk l a len cap w hl hr (by omega) hsm)
    generalize Tn.check l = R at *
    obtain ⟨R1, R2⟩ := R
    simp only at HC HRC
    have hlen : len ≤ 1000 := by omega
    subst hl
    clear hg h40 hz hsm
    go_enter Tryd.func3, Tryd.ntmps3
    go_wp2_with fail
    (with_reducible refine (HLG.out).mono ?_)
    rintro r1 w1 ⟨rfl, hb⟩
    have HB1 := Lib.hid hb
    clear hb HLG
    go_wp2_with fail
    go_loopw [13] (fun vi wr => ∃ (k : Nat), k ≤ l.length ∧ vi = .int .i64 k ∧ Below w.heap.size w wr) (fun i _ => l.length - (intOf i).toNat)
    case atStart => exact ⟨0, Nat.zero_le _, rfl, HB1.out⟩
    case round =>
      obtain ⟨k, hk, rfl, hB⟩ := hrel
      clear HB1
      have HB := Lib.hid hB
      clear hB
      by_cases hlt : k < l.length
      · have hlt' : (k : Int) < (l.length : Int) := by omega
        obtain ⟨b, off, rfl, hb, a0, a1, a2, a3, a4⟩ := (HR.out.keep HB.out).ten k hlt hlt
        have hzk := HZ.out k hlt
        generalize l[k] = x at *
        have HMY := Lib.hid (fun w h => tnmay_walk x w h hzk.1 hzk.2)
        have HRM := Lib.hid (fun w => tnrefmay_walk x w hzk.1 hzk.2)
        generalize Tn.may x = M at *
        obtain ⟨n2, k2, m2, s2, q2⟩ := x
        simp only at a0 a1 a2 a3 a4 HMY HRM
        clear hzk
        go_upto_region 6 with (fail)
        have ha := (Below.refl wr.heap.size wr).alloc (Nat.le_refl _) (.cells #[.string n2, .string k2, .int .i64 m2, .int .i64 s2, .int .i64 q2] 26)
        have HB2 := Lib.hid (HB.out.trans (ha.mono HB.out.size))
        have HX := Lib.hid (Has.new wr #[.string n2, .string k2, .int .i64 m2, .int .i64 s2, .int .i64 q2] 26)
        clear a0 a1 a2 a3 a4 HB hb ha
        generalize wr.heap.size = p at *
        generalize wr.alloc (.cells #[.string n2, .string k2, .int .i64 m2, .int .i64 s2, .int .i64 q2] 26) = w5 at *
        have x0 : ∀ y : Later w5, y.at.cell? ⟨p, 0, none⟩ = some (.string n2) := fun y => y.cell (HX.out.cell 0)
        have x1 : ∀ y : Later w5, y.at.cell? ⟨p, 1, none⟩ = some (.string k2) := fun y => y.cell (HX.out.cell 1)
        have x2 : ∀ y : Later w5, y.at.cell? ⟨p, 2, none⟩ = some (.int .i64 m2) := fun y => y.cell (HX.out.cell 2)
        have x3 : ∀ y : Later w5, y.at.cell? ⟨p, 3, none⟩ = some (.int .i64 s2) := fun y => y.cell (HX.out.cell 3)
        have x4 : ∀ y : Later w5, y.at.cell? ⟨p, 4, none⟩ = some (.int .i64 q2) := fun y => y.cell (HX.out.cell 4)
        have HA1 := Lib.hid (fun y : Later w5 => later_call (x := y) (HMY.out y.at ((HT.out.keep HB2.out).keep y.below)))
        have HA2 := Lib.hid (fun y : Later w5 => later_call (x := y) (HRM.out y.at))
        have hMM : (M != M) = false := by cases M <;> rfl
        refine region_later 5 (by kernel_rfl) (by kernel_rfl) ?_
        simp only [List.take_succ_cons, List.take_zero, List.drop_succ_cons, List.drop_zero]
        repeat (go_big_quiet_step (first | (with_reducible exact HA1.out _) | (with_reducible exact HA2.out _)))
        refine wpQuiet_nil ?_
        rintro w' ⟨y, rfl⟩
        have HB7 := Lib.hid (HB2.out.trans (y.below.mono HB2.out.size))
        clear x0 x1 x2 x3 x4 HA1 HA2 HX HB2
        generalize y.at = w7 at *
        cases M with
        | true =>
          go_wp2_with fail
          go_roundw
          case rel => exact ⟨k + 1, hlt, by go_num, HB7.out⟩
          case measure => simp [intOf]; omega
        | false =>
          go_wp2_with fail
          go_roundw
          case rel => exact ⟨k + 1, hlt, by go_num, HB7.out⟩
          case measure => simp [intOf]; omega
      · have hlt' : ¬ (k : Int) < (l.length : Int) := by omega
        go_wp2_with fail
        with_reducible refine (HC.out _ (HR.out.keep HB.out) (HT.out.keep HB.out)).mono ?_
        rintro r2 w2 ⟨rfl, hb⟩
        have HB2 := Lib.hid (HB.out.trans (hb.mono HB.out.size))
        clear hb HB
        go_wp2_with fail
        with_reducible refine (HRC.out _ (HR.out.keep HB2.out)).mono ?_
        rintro r3 w3 ⟨rfl, hb⟩
        have hb3 := HB2.out.trans (hb.mono HB2.out.size)
        have HB := Lib.hid (hb3.alloc hb3.size (.cells #[.int .i64 R1, .int .i64 R2] 32))
        have HX := Has.new w3 #[.int .i64 R1, .int .i64 R2] 32
        clear hb hb3 HB2
        go_upto_region 11 with (fail)
        generalize w3.heap.size = p at *
        generalize w3.alloc (.cells #[.int .i64 R1, .int .i64 R2] 32) = w4 at *
        have x0 := HX.cell 0; have x1 := HX.cell 1
        simp only [List.getElem?_toArray, List.getElem?_cons_zero, List.getElem?_cons_succ] at x0 x1
        clear HX
        go_wp2_with fail
        with_reducible refine (HANN.out _ (HM.out.keep HB.out) (HT.out.keep HB.out)).mono ?_
        rintro r9 w9 ⟨rfl, hb⟩
        have HBX := Lib.hid (HB.out.trans (hb.mono HB.out.size))
        clear hb
        go_wp2
        go_ret
        exact ⟨rfl, HBX.out⟩
end Go.Proofs.YtimlmjabdakojaaDoor
