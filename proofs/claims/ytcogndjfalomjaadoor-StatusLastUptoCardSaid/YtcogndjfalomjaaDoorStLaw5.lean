/- The law of the last status. -/
import Derived.Test.YtcogndjfalomjaaDoorStLast1
import Derived.Test.YtcogndjfalomjaaDoorLater
namespace Go.Proofs.YtcogndjfalomjaaDoor
open Go.RowKit
set_option linter.unusedVariables false
set_option linter.unusedSimpArgs false

def atV : Option Nat → Value
  | some i => .int .i64 (i : Int)
  | none => .int .i64 (-1)
set_option maxRecDepth 100000 in
set_option maxHeartbeats 4000000 in
theorem statusLast_walk (l : List St.Ans) (a : Option Addr) (len cap : Nat) (w : World) (hl : l.length = len) (hr : RowS w 4 a len cap (l.flatMap ancells)) (hz : ∀ x ∈ l, x.d.size ≤ 1048576) (hM : MaxL w) :
    Calls Tryd.prog 6 #[.slice a len cap] w fun r w' => r = .returned (.bool true) ∧ Below w.heap.size w w' := by
  have HM := Lib.hid hM
  have H3 := Lib.hid (fun w h => three_walk w h)
  have HR := Lib.hid hr
  have HB := Lib.hid (Below.refl w.heap.size w)
  clear hM hr
  by_cases h1 : 100 < len
  · have h1' : (100 : Int) < (len : Int) := by omega
    clear h1
    go_enter Tryd.func6, Tryd.ntmps6
    go_wp2_with fail
    with_reducible refine (H3.out _ HM.out).mono ?_
    rintro r9 w9 ⟨rfl, hb⟩
    have HBX := Lib.hid (HB.out.trans (hb.mono HB.out.size))
    clear hb
    go_wp2
    (try simp only [Exit.inBlock, Exit.then])
    go_ret
    exact ⟨rfl, HBX.out⟩
  have h1' : ¬ (100 : Int) < (len : Int) := by omega
  have h1n : len ≤ 1000 := by omega
  have HLW := Lib.hid (fun w h hM => last_walk l a len cap w hl h h1n hz hM)
  have hil := St.lastI_is l l.length (Nat.le_refl _)
  rw [List.take_length] at hil
  have HIL := Lib.hid hil
  clear h1 hil
  subst hl
  cases hLI : St.lastI l l.length with
  | none =>
    rw [hLI] at HIL
    have hfn : l.filter St.okT = [] := HIL.out
    rw [hfn] at HLW
    simp only [St.lastV, List.getLast?_nil] at HLW
    have hEN := eqnum 0 0 0 0 0
    have HLI := Lib.hid hLI
    clear hLI hfn HIL
    go_enter Tryd.func6, Tryd.ntmps6
    go_wp2_with fail
    with_reducible refine (HLW.out _ HR.out HM.out).mono ?_
    rintro r1 w1 ⟨rfl, hb⟩
    have ha := (Below.refl w1.heap.size w1).alloc (Nat.le_refl _) (.cells #[.int .i64 0, .int .i64 0, .int .i64 0, .int .i64 0, .int .i64 0] 23)
    have hbb := HB.out.trans (hb.mono HB.out.size)
    have hmm := (HM.out.keep hb).keep ha
    have hrr := (HR.out.keep hb).keep ha
    have hbc := hbb.trans (ha.mono hbb.size)
    have HT := Lib.hid (Has.new w1 #[.int .i64 0, .int .i64 0, .int .i64 0, .int .i64 0, .int .i64 0] 23)
    clear HM HR HB hbb ha hb
    have HM := Lib.hid hmm; have HR := Lib.hid hrr; have HB := Lib.hid hbc
    clear hmm hrr hbc
    go_upto_region 4 with (fail)
    generalize w1.heap.size = q1 at *
    generalize w1.alloc (.cells #[.int .i64 0, .int .i64 0, .int .i64 0, .int .i64 0, .int .i64 0] 23) = w2 at *
    go_wp2_with fail
    go_loopw [5, 20] (fun v5 vi wr => ∃ (k : Nat), k ≤ l.length ∧ vi = .int .i64 k ∧ v5 = atV (St.lastI l k) ∧ (∀ x ∈ l.take k, x.d.size ≤ 300) ∧ Below w2.heap.size w2 wr) (fun _ i _ => l.length - (intOf i).toNat)
    case atStart => exact ⟨0, Nat.zero_le _, rfl, rfl, (fun x hx => nomatch hx), Below.refl _ _⟩
    case round =>
      obtain ⟨k, hk, rfl, rfl, h300, hbr⟩ := hrel
      have HBR := Lib.hid hbr
      have HLE := Lib.hid h300
      clear hbr h300
      by_cases hlt : k < l.length
      · have hlt' : (k : Int) < (l.length : Int) := by omega
        obtain ⟨b, off, rfl, hb, a0, a1, a2, a3⟩ := (HR.out.keep HBR.out).ans k hlt rfl
        have HY := Lib.hid (fun h => St.lastI_yes l k hlt h)
        have HN := Lib.hid (fun h => St.lastI_no l k hlt h)
        have HTK := Lib.hid (show l.take (k + 1) = l.take k ++ [l[k]] by rw [List.take_add_one, List.getElem?_eq_getElem hlt]; rfl)
        generalize l[k] = x at *
        obtain ⟨t, j, d, e⟩ := x
        simp only at a0 a1 a2 a3
        simp only [St.okT] at HY HN
        go_upto_region 8 with (fail)
        have ha := (Below.refl wr.heap.size wr).alloc (Nat.le_refl _) (.cells #[.int .i64 t, .int .i64 j, .string d, .int .i64 e] 46)
        have HB1 := Lib.hid (HBR.out.trans (ha.mono HBR.out.size))
        have HX := Has.new wr #[.int .i64 t, .int .i64 j, .string d, .int .i64 e] 46
        clear a0 a1 a2 a3 HBR hb ha
        generalize wr.heap.size = p at *
        generalize wr.alloc (.cells #[.int .i64 t, .int .i64 j, .string d, .int .i64 e] 46) = w5 at *
        have x0 := HX.cell 0; have x2 := HX.cell 2
        simp only [List.getElem?_toArray, List.getElem?_cons_zero, List.getElem?_cons_succ] at x0 x2
        clear HX
        by_cases hd : 300 < d.size
        · have hd' : (300 : Int) < (d.size : Int) := by omega
          have hm9 := HM.out.keep HB1.out
          have hb9 := HB.out.trans (HB1.out.mono HB.out.size)
          clear HM HB hd
          have HM := Lib.hid hm9; have HB := Lib.hid hb9
          clear hm9 hb9 HT HR
          go_wp2_with fail
          with_reducible refine (H3.out _ HM.out).mono ?_
          rintro r9 w9 ⟨rfl, hb⟩
          have HBX := Lib.hid (HB.out.trans (hb.mono HB.out.size))
          clear hb
          go_wp2
          (try simp only [Exit.inBlock, Exit.then])
          go_ret
          exact ⟨rfl, HBX.out⟩
        · have hd' : ¬ (300 : Int) < (d.size : Int) := by omega
          have HL2 := Lib.hid (show ∀ x ∈ l.take (k + 1), x.d.size ≤ 300 by
            rw [HTK.out]
            intro x hx
            rcases List.mem_append.1 hx with hx | hx
            · exact HLE.out x hx
            · rw [List.mem_singleton.1 hx]; show d.size ≤ 300; omega)
          clear hd HLE HTK
          by_cases h70 : t = 70
          · subst h70
            have HI := Lib.hid (HY.out rfl)
            clear HY HN
            go_wp2_with fail
            go_roundw
            case rel => exact ⟨k + 1, hlt, by go_num, by rw [HI.out]; rfl, HL2.out, HB1.out⟩
            case measure => simp [intOf]; omega
          · have e70 : (t == 70) = false := by simpa using h70
            have HI := Lib.hid (HN.out (by rw [e70]; exact Bool.false_ne_true))
            clear HY HN h70
            go_wp2_with fail
            go_roundw
            case rel => exact ⟨k + 1, hlt, by go_num, by rw [HI.out], HL2.out, HB1.out⟩
            case measure => simp [intOf]; omega
      · have hlt' : ¬ (k : Int) < (l.length : Int) := by omega
        have hke : k = l.length := by omega
        subst hke
        have hm9 := HM.out.keep HBR.out
        have hb9 := HB.out.trans (HBR.out.mono HB.out.size)
        have ht9 := HT.out.below HBR.out HT.out.lt
        have hr9 := HR.out.keep HBR.out
        rw [List.take_length] at HLE
        clear HM HB HT HR HBR
        have HM := Lib.hid hm9; have HB := Lib.hid hb9; have HT := Lib.hid ht9; have HR := Lib.hid hr9
        clear hm9 hb9 ht9 hr9
        generalize St.lastI l l.length = LI at *
        have hLI := HLI.out
        subst hLI
        have p0 := HT.out.cell 0; have p1 := HT.out.cell 1; have p2 := HT.out.cell 2; have p3 := HT.out.cell 3; have p4 := HT.out.cell 4
        simp only [List.getElem?_toArray, List.getElem?_cons_zero, List.getElem?_cons_succ] at p0 p1 p2 p3 p4
        simp only [atV]
        go_wp2_with fail
        with_reducible refine (H3.out _ HM.out).mono ?_
        rintro r9 w9 ⟨rfl, hb⟩
        have HBX := Lib.hid (HB.out.trans (hb.mono HB.out.size))
        clear hb
        go_wp2
        (try simp only [Exit.inBlock, Exit.then])
        go_ret
        exact ⟨rfl, HBX.out⟩
  | some i =>
    rw [hLI] at HIL
    obtain ⟨hi, hgl⟩ := HIL.out
    rw [hgl] at HLW
    simp only [St.lastV] at HLW
    have HZ := Lib.hid (hz l[i] (List.getElem_mem hi))
    have HMEM := Lib.hid (List.getElem_mem hi)
    have HLI := Lib.hid hLI
    have HRP := Lib.hid (fun (h3 : l[i].d.size ≤ 300) w => refparse_walk l[i].d w h3)
    have hi0 : ¬ (i : Int) < 0 := by omega
    have hil : (i : Int) < (l.length : Int) := by omega
    clear hLI hgl HIL
    cases hp : St.parse l[i].d.data.toList with
    | none =>
      rw [hp] at HLW HRP
      simp only [St.parsedV, St.refV] at HLW HRP
      clear hp
      go_enter Tryd.func6, Tryd.ntmps6
      go_wp2_with fail
      with_reducible refine (HLW.out _ HR.out HM.out).mono ?_
      rintro r1 w1 ⟨rfl, hb⟩
      have ha := (Below.refl w1.heap.size w1).alloc (Nat.le_refl _) (.cells #[.int .i64 0, .int .i64 0, .int .i64 0, .int .i64 0, .int .i64 0] 23)
      have hbb := HB.out.trans (hb.mono HB.out.size)
      have hmm := (HM.out.keep hb).keep ha
      have hrr := (HR.out.keep hb).keep ha
      have hbc := hbb.trans (ha.mono hbb.size)
      have HT := Lib.hid (Has.new w1 #[.int .i64 0, .int .i64 0, .int .i64 0, .int .i64 0, .int .i64 0] 23)
      clear HM HR HB hbb ha hb
      have HM := Lib.hid hmm; have HR := Lib.hid hrr; have HB := Lib.hid hbc
      clear hmm hrr hbc
      go_upto_region 4 with (fail)
      generalize w1.heap.size = q1 at *
      generalize w1.alloc (.cells #[.int .i64 0, .int .i64 0, .int .i64 0, .int .i64 0, .int .i64 0] 23) = w2 at *
      go_wp2_with fail
      go_loopw [5, 20] (fun v5 vi wr => ∃ (k : Nat), k ≤ l.length ∧ vi = .int .i64 k ∧ v5 = atV (St.lastI l k) ∧ (∀ x ∈ l.take k, x.d.size ≤ 300) ∧ Below w2.heap.size w2 wr) (fun _ i _ => l.length - (intOf i).toNat)
      case atStart => exact ⟨0, Nat.zero_le _, rfl, rfl, (fun x hx => nomatch hx), Below.refl _ _⟩
      case round =>
        obtain ⟨k, hk, rfl, rfl, h300, hbr⟩ := hrel
        have HBR := Lib.hid hbr
        have HLE := Lib.hid h300
        clear hbr h300
        by_cases hlt : k < l.length
        · have hlt' : (k : Int) < (l.length : Int) := by omega
          obtain ⟨b, off, rfl, hb, a0, a1, a2, a3⟩ := (HR.out.keep HBR.out).ans k hlt rfl
          have HY := Lib.hid (fun h => St.lastI_yes l k hlt h)
          have HN := Lib.hid (fun h => St.lastI_no l k hlt h)
          have HTK := Lib.hid (show l.take (k + 1) = l.take k ++ [l[k]] by rw [List.take_add_one, List.getElem?_eq_getElem hlt]; rfl)
          generalize l[k] = x at *
          obtain ⟨t, j, d, e⟩ := x
          simp only at a0 a1 a2 a3
          simp only [St.okT] at HY HN
          go_upto_region 8 with (fail)
          have ha := (Below.refl wr.heap.size wr).alloc (Nat.le_refl _) (.cells #[.int .i64 t, .int .i64 j, .string d, .int .i64 e] 46)
          have HB1 := Lib.hid (HBR.out.trans (ha.mono HBR.out.size))
          have HX := Has.new wr #[.int .i64 t, .int .i64 j, .string d, .int .i64 e] 46
          clear a0 a1 a2 a3 HBR hb ha
          generalize wr.heap.size = p at *
          generalize wr.alloc (.cells #[.int .i64 t, .int .i64 j, .string d, .int .i64 e] 46) = w5 at *
          have x0 := HX.cell 0; have x2 := HX.cell 2
          simp only [List.getElem?_toArray, List.getElem?_cons_zero, List.getElem?_cons_succ] at x0 x2
          clear HX
          by_cases hd : 300 < d.size
          · have hd' : (300 : Int) < (d.size : Int) := by omega
            have hm9 := HM.out.keep HB1.out
            have hb9 := HB.out.trans (HB1.out.mono HB.out.size)
            clear HM HB hd
            have HM := Lib.hid hm9; have HB := Lib.hid hb9
            clear hm9 hb9 HT HR
            go_wp2_with fail
            with_reducible refine (H3.out _ HM.out).mono ?_
            rintro r9 w9 ⟨rfl, hb⟩
            have HBX := Lib.hid (HB.out.trans (hb.mono HB.out.size))
            clear hb
            go_wp2
            (try simp only [Exit.inBlock, Exit.then])
            go_ret
            exact ⟨rfl, HBX.out⟩
          · have hd' : ¬ (300 : Int) < (d.size : Int) := by omega
            have HL2 := Lib.hid (show ∀ x ∈ l.take (k + 1), x.d.size ≤ 300 by
              rw [HTK.out]
              intro x hx
              rcases List.mem_append.1 hx with hx | hx
              · exact HLE.out x hx
              · rw [List.mem_singleton.1 hx]; show d.size ≤ 300; omega)
            clear hd HLE HTK
            by_cases h70 : t = 70
            · subst h70
              have HI := Lib.hid (HY.out rfl)
              clear HY HN
              go_wp2_with fail
              go_roundw
              case rel => exact ⟨k + 1, hlt, by go_num, by rw [HI.out]; rfl, HL2.out, HB1.out⟩
              case measure => simp [intOf]; omega
            · have e70 : (t == 70) = false := by simpa using h70
              have HI := Lib.hid (HN.out (by rw [e70]; exact Bool.false_ne_true))
              clear HY HN h70
              go_wp2_with fail
              go_roundw
              case rel => exact ⟨k + 1, hlt, by go_num, by rw [HI.out], HL2.out, HB1.out⟩
              case measure => simp [intOf]; omega
        · have hlt' : ¬ (k : Int) < (l.length : Int) := by omega
          have hke : k = l.length := by omega
          subst hke
          have hm9 := HM.out.keep HBR.out
          have hb9 := HB.out.trans (HBR.out.mono HB.out.size)
          have ht9 := HT.out.below HBR.out HT.out.lt
          have hr9 := HR.out.keep HBR.out
          rw [List.take_length] at HLE
          clear HM HB HT HR HBR
          have HM := Lib.hid hm9; have HB := Lib.hid hb9; have HT := Lib.hid ht9; have HR := Lib.hid hr9
          clear hm9 hb9 ht9 hr9
          generalize St.lastI l l.length = LI at *
          have hLI := HLI.out
          subst hLI
          simp only [atV]
          have h3 := HLE.out _ HMEM.out
          obtain ⟨b, off, rfl, hb, -, -, a2, -⟩ := HR.out.ans i hi rfl
          have HP := Lib.hid (fun w => HRP.out h3 w)
          generalize l[i] = x at *
          go_wp2_with fail
          with_reducible refine (HP.out _).mono ?_
          rintro r4 w4 ⟨rfl, hb⟩
          have ha := (Below.refl w4.heap.size w4).alloc (Nat.le_refl _) (.cells #[.int .i64 0, .int .i64 0, .int .i64 0, .int .i64 0, .int .i64 0, .bool false] 36)
          have hm9 := (HM.out.keep hb).keep ha
          have hbb := HB.out.trans (hb.mono HB.out.size)
          have hb9 := hbb.trans (ha.mono hbb.size)
          have ht9 := (HT.out.below hb HT.out.lt).below ha (Nat.lt_of_lt_of_le HT.out.lt hb.size)
          have HO := Lib.hid (Has.new w4 #[.int .i64 0, .int .i64 0, .int .i64 0, .int .i64 0, .int .i64 0, .bool false] 36)
          clear HM HB HT hb ha hbb HP HR HLE HZ a2
          have HM := Lib.hid hm9; have HB := Lib.hid hb9; have HT := Lib.hid ht9
          clear hm9 hb9 ht9
          go_upto_region 16 with (fail)
          generalize w4.heap.size = q4 at *
          generalize w4.alloc (.cells #[.int .i64 0, .int .i64 0, .int .i64 0, .int .i64 0, .int .i64 0, .bool false] 36) = w6 at *
          have p0 : ∀ x : Later w6, x.at.cell? ⟨q1, 0, none⟩ = some (.int .i64 0) := fun x => x.cell (HT.out.cell 0)
          have p1 : ∀ x : Later w6, x.at.cell? ⟨q1, 1, none⟩ = some (.int .i64 0) := fun x => x.cell (HT.out.cell 1)
          have p2 : ∀ x : Later w6, x.at.cell? ⟨q1, 2, none⟩ = some (.int .i64 0) := fun x => x.cell (HT.out.cell 2)
          have p3 : ∀ x : Later w6, x.at.cell? ⟨q1, 3, none⟩ = some (.int .i64 0) := fun x => x.cell (HT.out.cell 3)
          have p4 : ∀ x : Later w6, x.at.cell? ⟨q1, 4, none⟩ = some (.int .i64 0) := fun x => x.cell (HT.out.cell 4)
          have o0 : ∀ x : Later w6, x.at.cell? ⟨q4, 0, none⟩ = some (.int .i64 0) := fun x => x.cell (HO.out.cell 0)
          have o1 : ∀ x : Later w6, x.at.cell? ⟨q4, 1, none⟩ = some (.int .i64 0) := fun x => x.cell (HO.out.cell 1)
          have o2 : ∀ x : Later w6, x.at.cell? ⟨q4, 2, none⟩ = some (.int .i64 0) := fun x => x.cell (HO.out.cell 2)
          have o3 : ∀ x : Later w6, x.at.cell? ⟨q4, 3, none⟩ = some (.int .i64 0) := fun x => x.cell (HO.out.cell 3)
          have o4 : ∀ x : Later w6, x.at.cell? ⟨q4, 4, none⟩ = some (.int .i64 0) := fun x => x.cell (HO.out.cell 4)
          have o5 : ∀ x : Later w6, x.at.cell? ⟨q4, 5, none⟩ = some (.bool false) := fun x => x.cell (HO.out.cell 5)
          have hEA := eqarr5 0 0 0 0 0
          have HRF := Lib.hid (fun w => ref41_walk 0 0 0 0 0 w)
          have HR1 := Lib.hid (fun x : Later w6 => later_call (x := x) (HRF.out x.at))
          have HR3 := Lib.hid (fun x : Later w6 => later_call (x := x) (H3.out x.at (HM.out.keep x.below)))
          refine region_later 24 (by kernel_rfl) (by kernel_rfl) ?_
          simp only [List.take_succ_cons, List.take_zero, List.drop_succ_cons, List.drop_zero]
          repeat (go_big_quiet_step ((first | (with_reducible exact HR1.out _) | (with_reducible exact HR3.out _))))
          refine wpQuiet_nil ?_
          rintro w' ⟨x, rfl⟩
          have HBX := Lib.hid (HB.out.trans (x.below.mono HB.out.size))
          clear p0 p1 p2 p3 p4 o0 o1 o2 o3 o4 o5 HR1 HR3
          generalize x.at = w7 at *
          go_wp2
          go_ret
          exact ⟨rfl, HBX.out⟩
    | some n =>
      rw [hp] at HLW HRP
      obtain ⟨na, nb, nc, nd, ne⟩ := n
      simp only [St.parsedV, St.refV] at HLW HRP
      clear hp
      go_enter Tryd.func6, Tryd.ntmps6
      go_wp2_with fail
      with_reducible refine (HLW.out _ HR.out HM.out).mono ?_
      rintro r1 w1 ⟨rfl, hb⟩
      have ha := (Below.refl w1.heap.size w1).alloc (Nat.le_refl _) (.cells #[.int .i64 na, .int .i64 nb, .int .i64 nc, .int .i64 nd, .int .i64 ne] 23)
      have hbb := HB.out.trans (hb.mono HB.out.size)
      have hmm := (HM.out.keep hb).keep ha
      have hrr := (HR.out.keep hb).keep ha
      have hbc := hbb.trans (ha.mono hbb.size)
      have HT := Lib.hid (Has.new w1 #[.int .i64 na, .int .i64 nb, .int .i64 nc, .int .i64 nd, .int .i64 ne] 23)
      clear HM HR HB hbb ha hb
      have HM := Lib.hid hmm; have HR := Lib.hid hrr; have HB := Lib.hid hbc
      clear hmm hrr hbc
      go_upto_region 4 with (fail)
      generalize w1.heap.size = q1 at *
      generalize w1.alloc (.cells #[.int .i64 na, .int .i64 nb, .int .i64 nc, .int .i64 nd, .int .i64 ne] 23) = w2 at *
      go_wp2_with fail
      go_loopw [5, 20] (fun v5 vi wr => ∃ (k : Nat), k ≤ l.length ∧ vi = .int .i64 k ∧ v5 = atV (St.lastI l k) ∧ (∀ x ∈ l.take k, x.d.size ≤ 300) ∧ Below w2.heap.size w2 wr) (fun _ i _ => l.length - (intOf i).toNat)
      case atStart => exact ⟨0, Nat.zero_le _, rfl, rfl, (fun x hx => nomatch hx), Below.refl _ _⟩
      case round =>
        obtain ⟨k, hk, rfl, rfl, h300, hbr⟩ := hrel
        have HBR := Lib.hid hbr
        have HLE := Lib.hid h300
        clear hbr h300
        by_cases hlt : k < l.length
        · have hlt' : (k : Int) < (l.length : Int) := by omega
          obtain ⟨b, off, rfl, hb, a0, a1, a2, a3⟩ := (HR.out.keep HBR.out).ans k hlt rfl
          have HY := Lib.hid (fun h => St.lastI_yes l k hlt h)
          have HN := Lib.hid (fun h => St.lastI_no l k hlt h)
          have HTK := Lib.hid (show l.take (k + 1) = l.take k ++ [l[k]] by rw [List.take_add_one, List.getElem?_eq_getElem hlt]; rfl)
          generalize l[k] = x at *
          obtain ⟨t, j, d, e⟩ := x
          simp only at a0 a1 a2 a3
          simp only [St.okT] at HY HN
          go_upto_region 8 with (fail)
          have ha := (Below.refl wr.heap.size wr).alloc (Nat.le_refl _) (.cells #[.int .i64 t, .int .i64 j, .string d, .int .i64 e] 46)
          have HB1 := Lib.hid (HBR.out.trans (ha.mono HBR.out.size))
          have HX := Has.new wr #[.int .i64 t, .int .i64 j, .string d, .int .i64 e] 46
          clear a0 a1 a2 a3 HBR hb ha
          generalize wr.heap.size = p at *
          generalize wr.alloc (.cells #[.int .i64 t, .int .i64 j, .string d, .int .i64 e] 46) = w5 at *
          have x0 := HX.cell 0; have x2 := HX.cell 2
          simp only [List.getElem?_toArray, List.getElem?_cons_zero, List.getElem?_cons_succ] at x0 x2
          clear HX
          by_cases hd : 300 < d.size
          · have hd' : (300 : Int) < (d.size : Int) := by omega
            have hm9 := HM.out.keep HB1.out
            have hb9 := HB.out.trans (HB1.out.mono HB.out.size)
            clear HM HB hd
            have HM := Lib.hid hm9; have HB := Lib.hid hb9
            clear hm9 hb9 HT HR
            go_wp2_with fail
            with_reducible refine (H3.out _ HM.out).mono ?_
            rintro r9 w9 ⟨rfl, hb⟩
            have HBX := Lib.hid (HB.out.trans (hb.mono HB.out.size))
            clear hb
            go_wp2
            (try simp only [Exit.inBlock, Exit.then])
            go_ret
            exact ⟨rfl, HBX.out⟩
          · have hd' : ¬ (300 : Int) < (d.size : Int) := by omega
            have HL2 := Lib.hid (show ∀ x ∈ l.take (k + 1), x.d.size ≤ 300 by
              rw [HTK.out]
              intro x hx
              rcases List.mem_append.1 hx with hx | hx
              · exact HLE.out x hx
              · rw [List.mem_singleton.1 hx]; show d.size ≤ 300; omega)
            clear hd HLE HTK
            by_cases h70 : t = 70
            · subst h70
              have HI := Lib.hid (HY.out rfl)
              clear HY HN
              go_wp2_with fail
              go_roundw
              case rel => exact ⟨k + 1, hlt, by go_num, by rw [HI.out]; rfl, HL2.out, HB1.out⟩
              case measure => simp [intOf]; omega
            · have e70 : (t == 70) = false := by simpa using h70
              have HI := Lib.hid (HN.out (by rw [e70]; exact Bool.false_ne_true))
              clear HY HN h70
              go_wp2_with fail
              go_roundw
              case rel => exact ⟨k + 1, hlt, by go_num, by rw [HI.out], HL2.out, HB1.out⟩
              case measure => simp [intOf]; omega
        · have hlt' : ¬ (k : Int) < (l.length : Int) := by omega
          have hke : k = l.length := by omega
          subst hke
          have hm9 := HM.out.keep HBR.out
          have hb9 := HB.out.trans (HBR.out.mono HB.out.size)
          have ht9 := HT.out.below HBR.out HT.out.lt
          have hr9 := HR.out.keep HBR.out
          rw [List.take_length] at HLE
          clear HM HB HT HR HBR
          have HM := Lib.hid hm9; have HB := Lib.hid hb9; have HT := Lib.hid ht9; have HR := Lib.hid hr9
          clear hm9 hb9 ht9 hr9
          generalize St.lastI l l.length = LI at *
          have hLI := HLI.out
          subst hLI
          simp only [atV]
          have h3 := HLE.out _ HMEM.out
          obtain ⟨b, off, rfl, hb, -, -, a2, -⟩ := HR.out.ans i hi rfl
          have HP := Lib.hid (fun w => HRP.out h3 w)
          generalize l[i] = x at *
          go_wp2_with fail
          with_reducible refine (HP.out _).mono ?_
          rintro r4 w4 ⟨rfl, hb⟩
          have ha := (Below.refl w4.heap.size w4).alloc (Nat.le_refl _) (.cells #[.int .i64 na, .int .i64 nb, .int .i64 nc, .int .i64 nd, .int .i64 ne, .bool true] 36)
          have hm9 := (HM.out.keep hb).keep ha
          have hbb := HB.out.trans (hb.mono HB.out.size)
          have hb9 := hbb.trans (ha.mono hbb.size)
          have ht9 := (HT.out.below hb HT.out.lt).below ha (Nat.lt_of_lt_of_le HT.out.lt hb.size)
          have HO := Lib.hid (Has.new w4 #[.int .i64 na, .int .i64 nb, .int .i64 nc, .int .i64 nd, .int .i64 ne, .bool true] 36)
          clear HM HB HT hb ha hbb HP HR HLE HZ a2
          have HM := Lib.hid hm9; have HB := Lib.hid hb9; have HT := Lib.hid ht9
          clear hm9 hb9 ht9
          go_upto_region 16 with (fail)
          generalize w4.heap.size = q4 at *
          generalize w4.alloc (.cells #[.int .i64 na, .int .i64 nb, .int .i64 nc, .int .i64 nd, .int .i64 ne, .bool true] 36) = w6 at *
          have p0 : ∀ x : Later w6, x.at.cell? ⟨q1, 0, none⟩ = some (.int .i64 na) := fun x => x.cell (HT.out.cell 0)
          have p1 : ∀ x : Later w6, x.at.cell? ⟨q1, 1, none⟩ = some (.int .i64 nb) := fun x => x.cell (HT.out.cell 1)
          have p2 : ∀ x : Later w6, x.at.cell? ⟨q1, 2, none⟩ = some (.int .i64 nc) := fun x => x.cell (HT.out.cell 2)
          have p3 : ∀ x : Later w6, x.at.cell? ⟨q1, 3, none⟩ = some (.int .i64 nd) := fun x => x.cell (HT.out.cell 3)
          have p4 : ∀ x : Later w6, x.at.cell? ⟨q1, 4, none⟩ = some (.int .i64 ne) := fun x => x.cell (HT.out.cell 4)
          have o0 : ∀ x : Later w6, x.at.cell? ⟨q4, 0, none⟩ = some (.int .i64 na) := fun x => x.cell (HO.out.cell 0)
          have o1 : ∀ x : Later w6, x.at.cell? ⟨q4, 1, none⟩ = some (.int .i64 nb) := fun x => x.cell (HO.out.cell 1)
          have o2 : ∀ x : Later w6, x.at.cell? ⟨q4, 2, none⟩ = some (.int .i64 nc) := fun x => x.cell (HO.out.cell 2)
          have o3 : ∀ x : Later w6, x.at.cell? ⟨q4, 3, none⟩ = some (.int .i64 nd) := fun x => x.cell (HO.out.cell 3)
          have o4 : ∀ x : Later w6, x.at.cell? ⟨q4, 4, none⟩ = some (.int .i64 ne) := fun x => x.cell (HO.out.cell 4)
          have o5 : ∀ x : Later w6, x.at.cell? ⟨q4, 5, none⟩ = some (.bool true) := fun x => x.cell (HO.out.cell 5)
          have hEA := eqarr5 na nb nc nd ne
          have HRF := Lib.hid (fun w => ref41_walk na nb nc nd ne w)
          have HR1 := Lib.hid (fun x : Later w6 => later_call (x := x) (HRF.out x.at))
          have HR3 := Lib.hid (fun x : Later w6 => later_call (x := x) (H3.out x.at (HM.out.keep x.below)))
          refine region_later 24 (by kernel_rfl) (by kernel_rfl) ?_
          simp only [List.take_succ_cons, List.take_zero, List.drop_succ_cons, List.drop_zero]
          repeat (go_big_quiet_step ((first | (with_reducible exact HR1.out _) | (with_reducible exact HR3.out _))))
          refine wpQuiet_nil ?_
          rintro w' ⟨x, rfl⟩
          have HBX := Lib.hid (HB.out.trans (x.below.mono HB.out.size))
          clear p0 p1 p2 p3 p4 o0 o1 o2 o3 o4 o5 HR1 HR3
          generalize x.at = w7 at *
          go_wp2
          go_ret
          exact ⟨rfl, HBX.out⟩
end Go.Proofs.YtcogndjfalomjaaDoor
