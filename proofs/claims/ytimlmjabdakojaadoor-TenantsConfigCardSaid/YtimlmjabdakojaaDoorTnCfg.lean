/- Configurations, and their law. -/
import Derived.Test.YtimlmjabdakojaaDoorTnRef1
import Derived.Deep.Slices
namespace Go.Proofs.YtimlmjabdakojaaDoor
open Go.RowKit
set_option linter.unusedVariables false
set_option linter.unusedSimpArgs false

namespace Tn
def bt (n lo hi : Int) : Bool := decide (lo ≤ n) && decide (n ≤ hi)
def cfgOk (u wi bu sp jo ch : Int) : Bool := bt u 24 100000 && (bt wi 64 1048576 && (bt bu 1 1099511627776 && (bt sp 1 1048576 && (bt jo 1 64 && bt ch 1 4096))))
def cfg (e u wi bu sp jo ch : Int) : Int := if e = 0 then (if cfgOk u wi bu sp jo ch = true then 0 else 1) else e
end Tn
set_option maxRecDepth 100000 in
set_option maxHeartbeats 2000000 in
theorem config_walk (l : List Tn.Ten) (a : Option Addr) (len cap : Nat) (u wi bu sp jo ch : Int) (w : World) (hl : l.length = len) (hr : RowS w 5 a len cap (l.flatMap tncells)) (h100 : len ≤ 1000) (hz : tnSmall l) (hT : Tabs w) :
    Calls Tryd.prog 21 #[.agg #[.slice a len cap, .int .i64 u, .int .i64 wi, .int .i64 bu, .int .i64 sp, .int .i64 jo, .int .i64 ch]] w fun r w' => r = .returned (.int .i64 (Tn.cfg (Tn.check l).2 u wi bu sp jo ch)) ∧ Below w.heap.size w w' := by
  have HC := Lib.hid (fun w hr hT => check_walk l a len cap w hl hr h100 hz hT)
  have HBW := Lib.hid (fun n lo hi w => between_walk n lo hi w)
  have hV : Tn.cfg (Tn.check l).2 u wi bu sp jo ch = if (Tn.check l).2 = 0 then (if (Tn.bt u 24 100000 && (Tn.bt wi 64 1048576 && (Tn.bt bu 1 1099511627776 && (Tn.bt sp 1 1048576 && (Tn.bt jo 1 64 && Tn.bt ch 1 4096))))) = true then 0 else 1) else (Tn.check l).2 := rfl
  generalize Tn.cfg (Tn.check l).2 u wi bu sp jo ch = V at *
  generalize (Tn.check l).1 = c1 at *
  generalize (Tn.check l).2 = c2 at *
  have W1 := Lib.hid (fun w => HBW.out u 24 100000 w); have W2 := Lib.hid (fun w => HBW.out wi 64 1048576 w); have W3 := Lib.hid (fun w => HBW.out bu 1 1099511627776 w)
  have W4 := Lib.hid (fun w => HBW.out sp 1 1048576 w); have W5 := Lib.hid (fun w => HBW.out jo 1 64 w); have W6 := Lib.hid (fun w => HBW.out ch 1 4096 w)
  clear HBW
  unfold Tn.bt at hV
  generalize (decide ((24 : Int) ≤ u) && decide (u ≤ 100000)) = b1 at *
  generalize (decide ((64 : Int) ≤ wi) && decide (wi ≤ 1048576)) = b2 at *
  generalize (decide ((1 : Int) ≤ bu) && decide (bu ≤ 1099511627776)) = b3 at *
  generalize (decide ((1 : Int) ≤ sp) && decide (sp ≤ 1048576)) = b4 at *
  generalize (decide ((1 : Int) ≤ jo) && decide (jo ≤ 64)) = b5 at *
  generalize (decide ((1 : Int) ≤ ch) && decide (ch ≤ 4096)) = b6 at *
  go_enter Tryd.func21, Tryd.ntmps21
  go_upto_region 1 with (fail)
  have HP0 := Lib.hid (Has.new w #[.slice a len cap, .int .i64 u, .int .i64 wi, .int .i64 bu, .int .i64 sp, .int .i64 jo, .int .i64 ch] 48)
  have hb0 := (Below.refl w.heap.size w).alloc (Nat.le_refl _) (.cells #[.slice a len cap, .int .i64 u, .int .i64 wi, .int .i64 bu, .int .i64 sp, .int .i64 jo, .int .i64 ch] 48)
  have hr0 := hr.keep hb0
  have hT0 := hT.keep hb0
  have HB0 := Lib.hid hb0
  obtain ⟨q, hq⟩ : ∃ q, q = w.heap.size := ⟨_, rfl⟩
  rw [← hq] at HP0
  rw [← hq]
  have HP := HP0
  have HR0 := Lib.hid hr0; have HT0 := Lib.hid hT0
  clear hq hb0 hr hT hz hr0 hT0 HP0
  generalize w.alloc (.cells #[.slice a len cap, .int .i64 u, .int .i64 wi, .int .i64 bu, .int .i64 sp, .int .i64 jo, .int .i64 ch] 48) = w1 at *
  have p0 := HP.out.cell 0; have p1 := HP.out.cell 1; have p2 := HP.out.cell 2; have p3 := HP.out.cell 3; have p4 := HP.out.cell 4; have p5 := HP.out.cell 5; have p6 := HP.out.cell 6
  simp only [List.getElem?_toArray, List.getElem?_cons_zero, List.getElem?_cons_succ] at p0 p1 p2 p3 p4 p5 p6
  go_wp2_with fail
  with_reducible refine (HC.out _ HR0.out HT0.out).mono ?_
  rintro r2 w2 ⟨rfl, hb⟩
  have HPX := HP.out.below hb HP.out.lt
  have HB := Lib.hid (HB0.out.trans (hb.mono HB0.out.size))
  clear hb p0 p1 p2 p3 p4 p5 p6 HP HB0 HC HR0 HT0
  have HP := Lib.hid HPX
  clear HPX
  by_cases hc : c2 = 0
  · subst hc
    rw [if_pos rfl] at hV
    have HV := Lib.hid hV
    clear hV
    have p0 := HP.out.cell 0; have p1 := HP.out.cell 1; have p2 := HP.out.cell 2; have p3 := HP.out.cell 3; have p4 := HP.out.cell 4; have p5 := HP.out.cell 5; have p6 := HP.out.cell 6
    simp only [List.getElem?_toArray, List.getElem?_cons_zero, List.getElem?_cons_succ] at p0 p1 p2 p3 p4 p5 p6
    go_wp2_with fail
    with_reducible refine (W1.out _).mono ?_
    rintro r3 w3 ⟨rfl, rfl⟩
    cases b1
    · go_wp2
      go_ret
      exact ⟨by rw [HV.out]; rfl, HB.out⟩
    go_wp2_with fail
    with_reducible refine (W2.out _).mono ?_
    rintro r3 w3 ⟨rfl, rfl⟩
    cases b2
    · go_wp2
      go_ret
      exact ⟨by rw [HV.out]; rfl, HB.out⟩
    go_wp2_with fail
    with_reducible refine (W3.out _).mono ?_
    rintro r3 w3 ⟨rfl, rfl⟩
    cases b3
    · go_wp2
      go_ret
      exact ⟨by rw [HV.out]; rfl, HB.out⟩
    go_wp2_with fail
    with_reducible refine (W4.out _).mono ?_
    rintro r3 w3 ⟨rfl, rfl⟩
    cases b4
    · go_wp2
      go_ret
      exact ⟨by rw [HV.out]; rfl, HB.out⟩
    go_wp2_with fail
    with_reducible refine (W5.out _).mono ?_
    rintro r3 w3 ⟨rfl, rfl⟩
    cases b5
    · go_wp2
      go_ret
      exact ⟨by rw [HV.out]; rfl, HB.out⟩
    go_wp2_with fail
    with_reducible refine (W6.out _).mono ?_
    rintro r3 w3 ⟨rfl, rfl⟩
    cases b6
    · go_wp2
      go_ret
      exact ⟨by rw [HV.out]; rfl, HB.out⟩
    · go_wp2
      go_ret
      exact ⟨by rw [HV.out]; rfl, HB.out⟩
  · have hc' : (c2 == 0) = false := by simpa using hc
    rw [if_neg hc] at hV
    have HV := Lib.hid hV
    clear hV
    go_wp2
    go_ret
    exact ⟨by rw [HV.out]; rfl, HB.out⟩
set_option maxRecDepth 100000 in
set_option maxHeartbeats 3000000 in
theorem refconfig_walk (l : List Tn.Ten) (a : Option Addr) (len cap : Nat) (u wi bu sp jo ch : Int) (w : World) (hl : l.length = len) (hr : RowS w 5 a len cap (l.flatMap tncells)) (h100 : len ≤ 1000) (hz : tnSmall l) :
    Calls Tryd.prog 22 #[.agg #[.slice a len cap, .int .i64 u, .int .i64 wi, .int .i64 bu, .int .i64 sp, .int .i64 jo, .int .i64 ch]] w fun r w' => r = .returned (.int .i64 (Tn.cfg (Tn.check l).2 u wi bu sp jo ch)) ∧ Below w.heap.size w w' := by
  have HC := Lib.hid (fun w hr => refcheck_walk l a len cap w hl hr h100 hz)
  have W3 := Lib.hid (fun w => most_walk bu 1 w)
  have hV : Tn.cfg (Tn.check l).2 u wi bu sp jo ch = if (Tn.check l).2 = 0 then (if (Tn.bt u 24 100000 && (Tn.bt wi 64 1048576 && (Tn.bt bu 1 1099511627776 && (Tn.bt sp 1 1048576 && (Tn.bt jo 1 64 && Tn.bt ch 1 4096))))) = true then 0 else 1) else (Tn.check l).2 := rfl
  generalize Tn.cfg (Tn.check l).2 u wi bu sp jo ch = V at *
  generalize (Tn.check l).1 = c1 at *
  generalize (Tn.check l).2 = c2 at *
  go_enter Tryd.func22, Tryd.ntmps22
  go_upto_region 1 with (fail)
  have HP0 := Lib.hid (Has.new w #[.slice a len cap, .int .i64 u, .int .i64 wi, .int .i64 bu, .int .i64 sp, .int .i64 jo, .int .i64 ch] 48)
  have hb0 := (Below.refl w.heap.size w).alloc (Nat.le_refl _) (.cells #[.slice a len cap, .int .i64 u, .int .i64 wi, .int .i64 bu, .int .i64 sp, .int .i64 jo, .int .i64 ch] 48)
  have hr0 := hr.keep hb0
  have HB0 := Lib.hid hb0
  obtain ⟨q, hq⟩ : ∃ q, q = w.heap.size := ⟨_, rfl⟩
  rw [← hq] at HP0
  rw [← hq]
  have HP := HP0
  have HR0 := Lib.hid hr0
  clear hq hb0 hr hz hr0 HP0
  generalize w.alloc (.cells #[.slice a len cap, .int .i64 u, .int .i64 wi, .int .i64 bu, .int .i64 sp, .int .i64 jo, .int .i64 ch] 48) = w1 at *
  have p0 := HP.out.cell 0; have p1 := HP.out.cell 1; have p2 := HP.out.cell 2; have p3 := HP.out.cell 3; have p4 := HP.out.cell 4; have p5 := HP.out.cell 5; have p6 := HP.out.cell 6
  simp only [List.getElem?_toArray, List.getElem?_cons_zero, List.getElem?_cons_succ] at p0 p1 p2 p3 p4 p5 p6
  go_wp2_with fail
  with_reducible refine (HC.out _ HR0.out).mono ?_
  rintro r2 w2 ⟨rfl, hb⟩
  have hb2 := HB0.out.trans (hb.mono HB0.out.size)
  have ha := (Below.refl w2.heap.size w2).alloc (Nat.le_refl _) (.cells #[.int .i64 c1, .int .i64 c2] 32)
  have HB := Lib.hid (hb2.trans (ha.mono hb2.size))
  have HPX := (HP.out.below hb HP.out.lt).below ha (Nat.lt_of_lt_of_le HP.out.lt hb.size)
  have HO := Has.new w2 #[.int .i64 c1, .int .i64 c2] 32
  clear hb p0 p1 p2 p3 p4 p5 p6 HP HB0 HC HR0 hb2 ha
  have HP := Lib.hid HPX
  clear HPX
  go_upto_region 2 with (fail)
  generalize w2.heap.size = q2 at *
  generalize w2.alloc (.cells #[.int .i64 c1, .int .i64 c2] 32) = w3 at *
  have o1 := HO.cell 1
  simp only [List.getElem?_toArray, List.getElem?_cons_zero, List.getElem?_cons_succ] at o1
  clear HO
  by_cases hc : c2 = 0
  · subst hc
    rw [if_pos rfl] at hV
    have HV0 := Lib.hid hV
    clear hV
    have p0 := HP.out.cell 0; have p1 := HP.out.cell 1; have p2 := HP.out.cell 2; have p3 := HP.out.cell 3; have p4 := HP.out.cell 4; have p5 := HP.out.cell 5; have p6 := HP.out.cell 6
    simp only [List.getElem?_toArray, List.getElem?_cons_zero, List.getElem?_cons_succ] at p0 p1 p2 p3 p4 p5 p6
    by_cases d1 : u < 24
    · have HV := Lib.hid (show V = 1 by
        rw [HV0.out, if_neg]
        intro h
        simp only [Tn.bt, Bool.and_eq_true, decide_eq_true_eq] at h
        omega)
      go_wp2
      go_ret
      exact ⟨by rw [HV.out]; rfl, HB.out⟩
    by_cases d2 : 100000 < u
    · have HV := Lib.hid (show V = 1 by
        rw [HV0.out, if_neg]
        intro h
        simp only [Tn.bt, Bool.and_eq_true, decide_eq_true_eq] at h
        omega)
      go_wp2
      go_ret
      exact ⟨by rw [HV.out]; rfl, HB.out⟩
    by_cases d3 : wi < 64
    · have HV := Lib.hid (show V = 1 by
        rw [HV0.out, if_neg]
        intro h
        simp only [Tn.bt, Bool.and_eq_true, decide_eq_true_eq] at h
        omega)
      go_wp2
      go_ret
      exact ⟨by rw [HV.out]; rfl, HB.out⟩
    by_cases d4 : 1048576 < wi
    · have HV := Lib.hid (show V = 1 by
        rw [HV0.out, if_neg]
        intro h
        simp only [Tn.bt, Bool.and_eq_true, decide_eq_true_eq] at h
        omega)
      go_wp2
      go_ret
      exact ⟨by rw [HV.out]; rfl, HB.out⟩
    go_wp2_with fail
    with_reducible refine (W3.out _).mono ?_
    rintro r4 w4 ⟨rfl, rfl⟩
    cases hb3 : (decide ((1 : Int) ≤ bu) && decide (bu ≤ 1099511627776)) with
    | false =>
      have HV := Lib.hid (show V = 1 by
        rw [HV0.out, if_neg]
        intro h
        have : Tn.bt bu 1 1099511627776 = false := hb3
        rw [this] at h
        simp at h)
      clear hb3
      go_wp2
      go_ret
      exact ⟨by rw [HV.out]; rfl, HB.out⟩
    | true =>
      have hbu : 1 ≤ bu ∧ bu ≤ 1099511627776 := by simpa using hb3
      clear hb3
      by_cases d5 : sp < 1
      · have HV := Lib.hid (show V = 1 by
          rw [HV0.out, if_neg]
          intro h
          simp only [Tn.bt, Bool.and_eq_true, decide_eq_true_eq] at h
          omega)
        go_wp2
        go_ret
        exact ⟨by rw [HV.out]; rfl, HB.out⟩
      by_cases d6 : 1048576 < sp
      · have HV := Lib.hid (show V = 1 by
          rw [HV0.out, if_neg]
          intro h
          simp only [Tn.bt, Bool.and_eq_true, decide_eq_true_eq] at h
          omega)
        go_wp2
        go_ret
        exact ⟨by rw [HV.out]; rfl, HB.out⟩
      by_cases d7 : jo < 1
      · have HV := Lib.hid (show V = 1 by
          rw [HV0.out, if_neg]
          intro h
          simp only [Tn.bt, Bool.and_eq_true, decide_eq_true_eq] at h
          omega)
        go_wp2
        go_ret
        exact ⟨by rw [HV.out]; rfl, HB.out⟩
      by_cases d8 : 64 < jo
      · have HV := Lib.hid (show V = 1 by
          rw [HV0.out, if_neg]
          intro h
          simp only [Tn.bt, Bool.and_eq_true, decide_eq_true_eq] at h
          omega)
        go_wp2
        go_ret
        exact ⟨by rw [HV.out]; rfl, HB.out⟩
      by_cases d9 : ch < 1
      · have HV := Lib.hid (show V = 1 by
          rw [HV0.out, if_neg]
          intro h
          simp only [Tn.bt, Bool.and_eq_true, decide_eq_true_eq] at h
          omega)
        go_wp2
        go_ret
        exact ⟨by rw [HV.out]; rfl, HB.out⟩
      by_cases d10 : 4096 < ch
      · have HV := Lib.hid (show V = 1 by
          rw [HV0.out, if_neg]
          intro h
          simp only [Tn.bt, Bool.and_eq_true, decide_eq_true_eq] at h
          omega)
        go_wp2
        go_ret
        exact ⟨by rw [HV.out]; rfl, HB.out⟩
      have HV := Lib.hid (show V = 0 by
        rw [HV0.out, if_pos]
        simp only [Tn.bt, Bool.and_eq_true, decide_eq_true_eq]
        omega)
      go_wp2
      go_ret
      exact ⟨by rw [HV.out]; rfl, HB.out⟩
  · have hc' : (c2 == 0) = false := by simpa using hc
    rw [if_neg hc] at hV
    have HV := Lib.hid hV
    clear hV
    go_wp2
    go_ret
    exact ⟨by rw [HV.out]; rfl, HB.out⟩
set_option maxRecDepth 100000 in
set_option maxHeartbeats 3000000 in
theorem tenantsConfig_walk (l : List Tn.Ten) (a : Option Addr) (len cap : Nat) (u wi bu sp jo ch : Int) (w : World) (hl : l.length = len) (hr : RowS w 5 a len cap (l.flatMap tncells)) (_ : ∀ x ∈ l, x.name.size ≤ maxLen ∧ x.tok.size ≤ maxLen)
    (_ : (Lit.int .i64 u).wf = true) (_ : (Lit.int .i64 wi).wf = true) (_ : (Lit.int .i64 bu).wf = true) (_ : (Lit.int .i64 sp).wf = true) (_ : (Lit.int .i64 jo).wf = true) (_ : (Lit.int .i64 ch).wf = true) (hM : MaxL w) (hT : Tabs w) :
    Calls Tryd.prog 7 #[.agg #[.slice a len cap, .int .i64 u, .int .i64 wi, .int .i64 bu, .int .i64 sp, .int .i64 jo, .int .i64 ch]] w fun r w' => r = .returned (.bool true) ∧ Below w.heap.size w w' := by
  have HM := Lib.hid hM
  have HT := Lib.hid hT
  have HR := Lib.hid hr
  have HANN := Lib.hid (fun w hM hT => ann_walk w hM hT)
  have HLG := Lib.hid (fun w hr => large_walk l a len cap w hl hr)
  have hlg := Tn.large_not l
  clear hM hT hr
  generalize Tn.large l = LG at *
  go_enter Tryd.func7, Tryd.ntmps7
  go_upto_region 1 with (fail)
  have HP0 := Lib.hid (Has.new w #[.slice a len cap, .int .i64 u, .int .i64 wi, .int .i64 bu, .int .i64 sp, .int .i64 jo, .int .i64 ch] 48)
  have HB0 := Lib.hid ((Below.refl w.heap.size w).alloc (Nat.le_refl _) (.cells #[.slice a len cap, .int .i64 u, .int .i64 wi, .int .i64 bu, .int .i64 sp, .int .i64 jo, .int .i64 ch] 48))
  obtain ⟨q, hq⟩ : ∃ q, q = w.heap.size := ⟨_, rfl⟩
  rw [← hq] at HP0
  rw [← hq]
  have HP := HP0
  clear hq HP0
  generalize w.alloc (.cells #[.slice a len cap, .int .i64 u, .int .i64 wi, .int .i64 bu, .int .i64 sp, .int .i64 jo, .int .i64 ch] 48) = w1 at *
  have p0 := HP.out.cell 0; have p1 := HP.out.cell 1; have p2 := HP.out.cell 2; have p3 := HP.out.cell 3; have p4 := HP.out.cell 4; have p5 := HP.out.cell 5; have p6 := HP.out.cell 6
  simp only [List.getElem?_toArray, List.getElem?_cons_zero, List.getElem?_cons_succ] at p0 p1 p2 p3 p4 p5 p6
  go_wp2_with fail
  with_reducible refine (HLG.out _ (HR.out.keep HB0.out)).mono ?_
  rintro r2 w2 ⟨rfl, hb⟩
  have HPX := HP.out.below hb HP.out.lt
  have HB := Lib.hid (HB0.out.trans (hb.mono HB0.out.size))
  clear hb p0 p1 p2 p3 p4 p5 p6 HP HB0 HLG
  have HP := Lib.hid HPX
  clear HPX
  cases LG with
  | true =>
    go_wp2_with fail
    with_reducible refine (HANN.out _ (HM.out.keep HB.out) (HT.out.keep HB.out)).mono ?_
    rintro r9 w9 ⟨rfl, hb⟩
    have HBX := Lib.hid (HB.out.trans (hb.mono HB.out.size))
    clear hb
    go_wp2
    go_ret
    exact ⟨rfl, HBX.out⟩
  | false =>
    obtain ⟨h40, hz⟩ := hlg rfl
    have hsm : tnSmall l := fun x hx => by have := hz x hx; omega
    have HC := Lib.hid (fun w hr hT => config_walk l a len cap u wi bu sp jo ch w hl hr (by omega) hsm hT)
    have HRC := Lib.hid (fun w hr => refconfig_walk l a len cap u wi bu sp jo ch w hl hr (by omega) hsm)
    generalize Tn.cfg (Tn.check l).2 u wi bu sp jo ch = V at *
    clear h40 hz hlg hsm
    go_upto_region 3 with (fail)
    have p0 : ∀ x : Later w2, x.at.cell? ⟨q, 0, none⟩ = some (.slice a len cap) := fun x => x.cell (HP.out.cell 0)
    have p1 : ∀ x : Later w2, x.at.cell? ⟨q, 1, none⟩ = some (.int .i64 u) := fun x => x.cell (HP.out.cell 1)
    have p2 : ∀ x : Later w2, x.at.cell? ⟨q, 2, none⟩ = some (.int .i64 wi) := fun x => x.cell (HP.out.cell 2)
    have p3 : ∀ x : Later w2, x.at.cell? ⟨q, 3, none⟩ = some (.int .i64 bu) := fun x => x.cell (HP.out.cell 3)
    have p4 : ∀ x : Later w2, x.at.cell? ⟨q, 4, none⟩ = some (.int .i64 sp) := fun x => x.cell (HP.out.cell 4)
    have p5 : ∀ x : Later w2, x.at.cell? ⟨q, 5, none⟩ = some (.int .i64 jo) := fun x => x.cell (HP.out.cell 5)
    have p6 : ∀ x : Later w2, x.at.cell? ⟨q, 6, none⟩ = some (.int .i64 ch) := fun x => x.cell (HP.out.cell 6)
    have H1 := Lib.hid (fun x : Later w2 => later_call (x := x) (HC.out x.at ((HR.out.keep HB.out).keep x.below) ((HT.out.keep HB.out).keep x.below)))
    have H2 := Lib.hid (fun x : Later w2 => later_call (x := x) (HRC.out x.at ((HR.out.keep HB.out).keep x.below)))
    have H3 := Lib.hid (fun x : Later w2 => later_call (x := x) (HANN.out x.at ((HM.out.keep HB.out).keep x.below) ((HT.out.keep HB.out).keep x.below)))
    refine region_later 9 (by kernel_rfl) (by kernel_rfl) ?_
    simp only [List.take_succ_cons, List.take_zero, List.drop_succ_cons, List.drop_zero]
    repeat (go_big_quiet_step ((first | (with_reducible exact H1.out _) | (with_reducible exact H2.out _) | (with_reducible exact H3.out _))))
    refine wpQuiet_nil ?_
    rintro w' ⟨x, rfl⟩
    have HBX := Lib.hid (HB.out.trans (x.below.mono HB.out.size))
    clear p0 p1 p2 p3 p4 p5 p6 H1 H2 H3
    generalize x.at = w7 at *
    go_wp2
    go_ret
    exact ⟨rfl, HBX.out⟩
section
open Go.ChangeShapes Go.WideShapes Go.Deep
variable {H : Type} {enc : TypeId × Value → H} {P : Program} {w : World} {base : Nat} {spare : Nat → Bool} {held : Bool}
theorem slice_shape {t e : TypeId} {n : Nat} {v : Value} {y : DataW H × List MemPlace} (ht : P.underlying t = some (.slice e)) (h : DataW.trod enc P w base spare held n t [v] = some y) : ∃ a len cap, v = .slice a len cap := by
  rcases open_slice ht h with ⟨hcs, _⟩ | ⟨a, len, cap, _, _, _, _, hcs, _⟩
  · exact ⟨none, 0, 0, by simpa using hcs⟩
  · exact ⟨some a, len, cap, by simpa using hcs⟩
end
end Go.Proofs.YtimlmjabdakojaaDoor
