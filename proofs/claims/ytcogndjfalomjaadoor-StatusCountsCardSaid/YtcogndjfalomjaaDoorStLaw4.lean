/- The law of counts. -/
import Derived.Test.YtcogndjfalomjaaDoorStJob3
import Derived.Test.YtcogndjfalomjaaDoorLater
namespace Go.Proofs.YtcogndjfalomjaaDoor
open Go.RowKit
set_option linter.unusedVariables false
set_option linter.unusedSimpArgs false

theorem neqans (t j : Int) (d : ByteArray) (e : Int) (w : World) : (binOp .neq 46 (.agg #[.int .i64 t, .int .i64 j, .string d, .int .i64 e]) (.agg #[.int .i64 t, .int .i64 j, .string d, .int .i64 e])).run Tryd.prog w = .ok (.bool false) w := by
  have hfs : Tryd.prog.underlying 46 = some (.struct (Tryd.prog.fieldsOf 46)) := by kernel_rfl
  rw [run_neq_struct, run_equalIn_struct w 9999 _ _ _ hfs (by kernel_rfl)]
  clear hfs
  go_simp
theorem pc_get (l : List Nat) (k : Nat) (h : k < l.length) : (l.map pcell).getD k undef = .int .i64 (l[k] : Int) := by
  rw [List.getD_eq_getElem?_getD, List.getElem?_map, List.getElem?_eq_getElem h]; rfl
set_option maxRecDepth 100000 in
set_option maxHeartbeats 4000000 in
theorem statusCounts_walk (l : List St.Ans) (a : Option Addr) (len cap : Nat) (id : Int) (w : World) (hl : l.length = len) (hr : RowS w 4 a len cap (l.flatMap ancells)) (_ : ∀ x ∈ l, x.d.size ≤ maxLen) (_ : (Lit.int .i64 id).wf = true) (hM : MaxL w) :
    Calls Tryd.prog 7 #[.slice a len cap, .int .i64 id] w fun r w' => r = .returned (.bool true) ∧ Below w.heap.size w w' := by
  have HM := Lib.hid hM
  have H3 := Lib.hid (fun w h => three_walk w h)
  have HR := Lib.hid hr
  have HB := Lib.hid (Below.refl w.heap.size w)
  clear hM hr
  by_cases h1 : 100 < len
  · have h1' : (100 : Int) < (len : Int) := by omega
    clear h1
    go_enter Tryd.func7, Tryd.ntmps7
    go_wp2_with fail
    with_reducible refine (H3.out _ HM.out).mono ?_
    rintro r9 w9 ⟨rfl, hb⟩
    have HBX := Lib.hid (HB.out.trans (hb.mono HB.out.size))
    clear hb
    go_wp2
    go_ret
    exact ⟨rfl, HBX.out⟩
  have h1' : ¬ (100 : Int) < (len : Int) := by omega
  have h1n : len ≤ 1000 := by omega
  have HC := Lib.hid (fun w h => count_walk l a len cap w hl h h1n)
  have HRF := Lib.hid (fun w h => refs_walk l a len cap w hl h h1n)
  have HRC := Lib.hid (fun a2 c2 w h => refcount_walk l a2 len c2 w hl h h1n)
  have HRJ := Lib.hid (fun a2 c2 w h => refjob_walk l id a2 len c2 w hl h h1n)
  have HJN := Lib.hid (fun w h c => job_no l id a len cap w hl h c)
  have HJY := Lib.hid (fun w h c d => job_yes l id a len cap w hl h h1n c d)
  rw [hl] at HRF
  generalize St.count l = T at *
  obtain ⟨re, ch, dn, fl, rf, td, bt, bs⟩ := T
  simp only [tlcells] at HC HRC
  have hNA := neqarr8 re ch dn fl rf td bt bs
  clear h1
  go_enter Tryd.func7, Tryd.ntmps7
  go_wp2_with fail
  with_reducible refine (HC.out _ HR.out).mono ?_
  rintro r1 w1 ⟨rfl, hb⟩
  have ha := (Below.refl w1.heap.size w1).alloc (Nat.le_refl _) (.cells #[.int .i64 re, .int .i64 ch, .int .i64 dn, .int .i64 fl, .int .i64 rf, .int .i64 td, .int .i64 bt, .int .i64 bs] 41)
  have hbb := HB.out.trans (hb.mono HB.out.size)
  have hmm := (HM.out.keep hb).keep ha
  have hrr := (HR.out.keep hb).keep ha
  have hbc := hbb.trans (ha.mono hbb.size)
  have HT := Lib.hid (Has.new w1 #[.int .i64 re, .int .i64 ch, .int .i64 dn, .int .i64 fl, .int .i64 rf, .int .i64 td, .int .i64 bt, .int .i64 bs] 41)
  clear HM HR HB hbb ha hb HC
  have HM := Lib.hid hmm; have HR := Lib.hid hrr; have HB := Lib.hid hbc
  clear hmm hrr hbc
  go_upto_region 4 with (fail)
  generalize w1.heap.size = q1 at *
  generalize w1.alloc (.cells #[.int .i64 re, .int .i64 ch, .int .i64 dn, .int .i64 fl, .int .i64 rf, .int .i64 td, .int .i64 bt, .int .i64 bs] 41) = w2 at *
  go_wp2_with fail
  with_reducible refine (HRF.out _ HR.out).mono ?_
  rintro r3 w3 ⟨v3, rfl, ho3, hb⟩
  obtain ⟨a3, c3, rfl, hr3, -⟩ := rowS_owns ho3
  have hbb := HB.out.trans (hb.mono HB.out.size)
  have hmm := HM.out.keep hb
  have hrr := HR.out.keep hb
  have htt := HT.out.below hb HT.out.lt
  have HR3 := Lib.hid hr3
  clear HM HR HB HT ho3 hb hr3
  have HM := Lib.hid hmm; have HR := Lib.hid hrr; have HB := Lib.hid hbb; have HT := Lib.hid htt
  clear hmm hrr hbb htt
  go_wp2_with fail
  with_reducible refine (HRC.out _ _ _ HR3.out).mono ?_
  rintro r4 w4 ⟨rfl, hb⟩
  have ha := (Below.refl w4.heap.size w4).alloc (Nat.le_refl _) (.cells #[.int .i64 re, .int .i64 ch, .int .i64 dn, .int .i64 fl, .int .i64 rf, .int .i64 td, .int .i64 bt, .int .i64 bs] 48)
  have hbb := HB.out.trans (hb.mono HB.out.size)
  have hmm := (HM.out.keep hb).keep ha
  have hrr := (HR.out.keep hb).keep ha
  have hbc := hbb.trans (ha.mono hbb.size)
  have htt := (HT.out.below hb HT.out.lt).below ha (Nat.lt_of_lt_of_le HT.out.lt hb.size)
  have HU := Lib.hid (Has.new w4 #[.int .i64 re, .int .i64 ch, .int .i64 dn, .int .i64 fl, .int .i64 rf, .int .i64 td, .int .i64 bt, .int .i64 bs] 48)
  clear HM HR HB HT hbb ha hb HRC HR3
  have HM := Lib.hid hmm; have HR := Lib.hid hrr; have HB := Lib.hid hbc; have HT := Lib.hid htt
  clear hmm hrr hbc htt
  go_upto_region 5 with (fail)
  generalize w4.heap.size = q4 at *
  generalize w4.alloc (.cells #[.int .i64 re, .int .i64 ch, .int .i64 dn, .int .i64 fl, .int .i64 rf, .int .i64 td, .int .i64 bt, .int .i64 bs] 48) = w5 at *
  have y0 := HU.out.cell 0; have y1 := HU.out.cell 1; have y2 := HU.out.cell 2; have y3 := HU.out.cell 3; have y4 := HU.out.cell 4; have y5 := HU.out.cell 5; have y6 := HU.out.cell 6; have y7 := HU.out.cell 7
  have z0 := HT.out.cell 0; have z1 := HT.out.cell 1; have z2 := HT.out.cell 2; have z3 := HT.out.cell 3; have z4 := HT.out.cell 4; have z5 := HT.out.cell 5; have z6 := HT.out.cell 6; have z7 := HT.out.cell 7
  simp only [List.getElem?_toArray, List.getElem?_cons_zero, List.getElem?_cons_succ] at y0 y1 y2 y3 y4 y5 y6 y7 z0 z1 z2 z3 z4 z5 z6 z7
  by_cases hid : id < 0 ∨ 4294967295 < id
  · go_wp2_with fail
    with_reducible refine (HJN.out _ HR.out hid).mono ?_
    rintro r6 w6 ⟨rfl, hb⟩
    have hbb := HB.out.trans (hb.mono HB.out.size)
    have hmm := HM.out.keep hb
    clear HM HB hb HT HU y0 y1 y2 y3 y4 y5 y6 y7 z0 z1 z2 z3 z4 z5 z6 z7
    have HM := Lib.hid hmm; have HB := Lib.hid hbb
    clear hmm hbb
    by_cases c : id < 0
    · clear hid
      go_wp2_with fail
      with_reducible refine (H3.out _ HM.out).mono ?_
      rintro r9 w9 ⟨rfl, hb⟩
      have HBX := Lib.hid (HB.out.trans (hb.mono HB.out.size))
      clear hb
      go_wp2
      go_ret
      exact ⟨rfl, HBX.out⟩
    · have c2 : 4294967295 < id := by omega
      clear hid
      go_wp2_with fail
      with_reducible refine (H3.out _ HM.out).mono ?_
      rintro r9 w9 ⟨rfl, hb⟩
      have HBX := Lib.hid (HB.out.trans (hb.mono HB.out.size))
      clear hb
      go_wp2
      go_ret
      exact ⟨rfl, HBX.out⟩
  · have c1 : ¬ id < 0 := by omega
    have c2 : ¬ 4294967295 < id := by omega
    clear hid
    go_wp2_with fail
    with_reducible refine (HJY.out _ HR.out c1 c2).mono ?_
    rintro r6 w6 ⟨v6, rfl, ho6, hb⟩
    obtain ⟨a6, c6, rfl, hr6, -⟩ := rowS_owns ho6
    have hbb := HB.out.trans (hb.mono HB.out.size)
    have hmm := HM.out.keep hb
    have hrr := HR.out.keep hb
    have HJ := Lib.hid hr6
    clear HM HB hb HT HU HR ho6 hr6 HJN HJY y0 y1 y2 y3 y4 y5 y6 y7 z0 z1 z2 z3 z4 z5 z6 z7
    have HM := Lib.hid hmm; have HB := Lib.hid hbb; have HR := Lib.hid hrr
    clear hmm hbb hrr
    go_wp2_with fail
    with_reducible refine (HRF.out _ HR.out).mono ?_
    rintro r7 w7 ⟨v7, rfl, ho7, hb⟩
    obtain ⟨a7, c7, rfl, hr7, -⟩ := rowS_owns ho7
    have hbb := HB.out.trans (hb.mono HB.out.size)
    have hmm := HM.out.keep hb
    have hrr := HR.out.keep hb
    have hjj := HJ.out.keep hb
    have HR7 := Lib.hid hr7
    clear HM HB hb HR ho7 hr7 HJ
    have HM := Lib.hid hmm; have HB := Lib.hid hbb; have HR := Lib.hid hrr; have HJ := Lib.hid hjj
    clear hmm hbb hrr hjj
    go_wp2_with fail
    with_reducible refine (HRJ.out _ _ _ HR7.out).mono ?_
    rintro r8 w8 ⟨v8, rfl, ho8, hb⟩
    obtain ⟨a8, c8, rfl, hr8, -⟩ := rowS_owns ho8
    have hbb := HB.out.trans (hb.mono HB.out.size)
    have hmm := HM.out.keep hb
    have hrr := HR.out.keep hb
    have hjj := HJ.out.keep hb
    rw [← St.places_filter (St.okJ id) l 0] at hjj
    have HP := Lib.hid hr8
    have HPA := Lib.hid (St.places_at (St.okJ id) l 0)
    have hpl := St.places_len (St.okJ id) l 0
    clear HM HB hb HR ho8 hr8 HJ HR7 HRJ HRF
    have HM := Lib.hid hmm; have HB := Lib.hid hbb; have HR := Lib.hid hrr; have HJ := Lib.hid hjj
    clear hmm hbb hrr hjj
    rw [← St.places_filter (St.okJ id) l 0]
    generalize St.places (St.okJ id) l 0 = PL at *
    generalize hF : l.filter (St.okJ id) = FL at *
    clear hF
    obtain ⟨n, hn⟩ : ∃ n, PL.length = n := ⟨_, rfl⟩
    rw [hn] at HP HJ hpl
    rw [hn]
    have hn1 : (n : Int) ≤ 1000 := by omega
    have HN := Lib.hid hn
    clear hn
    go_wp2_with fail
    go_loopw [73] (fun vi wr => ∃ (k : Nat), k ≤ n ∧ vi = .int .i64 k ∧ Below w8.heap.size w8 wr) (fun i _ => n - (intOf i).toNat)
    case atStart => exact ⟨0, Nat.zero_le _, rfl, Below.refl _ _⟩
    case round =>
      obtain ⟨k, hk, rfl, hbr⟩ := hrel
      have HBR := Lib.hid hbr
      clear hbr
      by_cases hlt : k < n
      · have hlt' : (k : Int) < (n : Int) := by omega
        have hkp : k < PL.length := by rw [HN.out]; exact hlt
        obtain ⟨x, hx, hf, e1, e2⟩ := HPA.out k hkp
        rw [Nat.zero_add] at e1
        obtain ⟨b8, o8, rfl, hb8, hc8⟩ := (HP.out.keep HBR.out).at k hlt
        have p0 := hc8 0 (by decide)
        rw [Nat.mul_one, Nat.add_zero, pc_get PL k hkp, e1] at p0
        obtain ⟨b6, o6, rfl, hb6, m0, m1, m2, m3⟩ := (HJ.out.keep HBR.out).ans' k hlt hf
        obtain ⟨b, o, rfl, hb, l0, l1, l2, l3⟩ := (HR.out.keep HBR.out).ans x (by rw [← hl]; exact hx) hl
        rw [e2] at m0 m1 m2 m3
        have hxl : (x : Int) < (len : Int) := by omega
        have hx0 : x < len := by omega
        clear e1 e2 hc8 hf hkp
        generalize l[x] = X at *
        obtain ⟨t, j, d, e⟩ := X
        simp only at m0 m1 m2 m3 l0 l1 l2 l3
        go_wp2_with fail
        have n0 : ∀ y : Later wr, y.at.cell? ⟨b6, o6 + k * 4, none⟩ = some (.int .i64 t) := fun y => y.cell m0
        have n1 : ∀ y : Later wr, y.at.cell? ⟨b6, o6 + k * 4 + 1, none⟩ = some (.int .i64 j) := fun y => y.cell m1
        have n2 : ∀ y : Later wr, y.at.cell? ⟨b6, o6 + k * 4 + 2, none⟩ = some (.string d) := fun y => y.cell m2
        have n3 : ∀ y : Later wr, y.at.cell? ⟨b6, o6 + k * 4 + 3, none⟩ = some (.int .i64 e) := fun y => y.cell m3
        have g0 : ∀ y : Later wr, y.at.cell? ⟨b, o + x * 4, none⟩ = some (.int .i64 t) := fun y => y.cell l0
        have g1 : ∀ y : Later wr, y.at.cell? ⟨b, o + x * 4 + 1, none⟩ = some (.int .i64 j) := fun y => y.cell l1
        have g2 : ∀ y : Later wr, y.at.cell? ⟨b, o + x * 4 + 2, none⟩ = some (.string d) := fun y => y.cell l2
        have g3 : ∀ y : Later wr, y.at.cell? ⟨b, o + x * 4 + 3, none⟩ = some (.int .i64 e) := fun y => y.cell l3
        have hNE := neqans t j d e
        clear m0 m1 m2 m3 l0 l1 l2 l3 p0
        refine region_later 9 (by kernel_rfl) (by kernel_rfl) ?_
        simp only [List.take_succ_cons, List.take_zero, List.drop_succ_cons, List.drop_zero]
        repeat (go_big_quiet_step (fail))
        refine wpQuiet_nil ?_
        rintro w' ⟨y, rfl⟩
        have HBY := Lib.hid (HBR.out.trans (y.below.mono HBR.out.size))
        clear n0 n1 n2 n3 g0 g1 g2 g3 hNE
        generalize y.at = w9 at *
        go_wp2_with fail
        go_roundw
        case rel => exact ⟨k + 1, hlt, by go_num, HBY.out⟩
        case measure => simp [intOf]; omega
      · have hlt' : ¬ (k : Int) < (n : Int) := by omega
        have hm9 := HM.out.keep HBR.out
        have hb9 := HB.out.trans (HBR.out.mono HB.out.size)
        clear HM HB HP HJ HR HBR
        have HM := Lib.hid hm9; have HB := Lib.hid hb9
        clear hm9 hb9
        go_wp2_with fail
        with_reducible refine (H3.out _ HM.out).mono ?_
        rintro r9 w9 ⟨rfl, hb⟩
        have HBX := Lib.hid (HB.out.trans (hb.mono HB.out.size))
        clear hb
        go_wp2
        go_ret
        exact ⟨rfl, HBX.out⟩
end Go.Proofs.YtcogndjfalomjaaDoor
