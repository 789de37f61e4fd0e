/- The reference: whether a tenant may be, and the first one that may not. -/
import Derived.Test.YtajalllecoclcaaDoorTnFindR
namespace Go.Proofs.YtajalllecoclcaaDoor
open Go.RowKit
set_option linter.unusedVariables false
set_option linter.unusedSimpArgs false

set_option maxRecDepth 100000 in
set_option maxHeartbeats 400000 in
theorem most_walk (n lo : Int) (w : World) : Calls Tryd.prog 48 #[.int .i64 n, .int .i64 lo] w fun r w' => r = .returned (.bool (decide (lo ≤ n) && decide (n ≤ 1099511627776))) ∧ w = w' := by
  by_cases c1 : lo ≤ n
  · have e1 : decide (lo ≤ n) = true := decide_eq_true c1
    by_cases c2 : n ≤ 1099511627776
    · have e2 : decide (n ≤ 1099511627776) = true := decide_eq_true c2
      go_enter Tryd.func48, Tryd.ntmps48
      go_wp2
      go_ret
      exact ⟨by first | rfl | (rw [e1, e2]; rfl) | (rw [e1]; rfl), rfl⟩
    · have e2 : decide (n ≤ 1099511627776) = false := decide_eq_false c2
      go_enter Tryd.func48, Tryd.ntmps48
      go_wp2
      go_ret
      exact ⟨by first | rfl | (rw [e1, e2]; rfl), rfl⟩
  · have e1 : decide (lo ≤ n) = false := decide_eq_false c1
    go_enter Tryd.func48, Tryd.ntmps48
    go_wp2
    go_ret
    exact ⟨by first | rfl | (rw [e1]; rfl), rfl⟩
set_option maxRecDepth 100000 in
set_option maxHeartbeats 1600000 in
theorem tnrefmay_walk (t : Tn.Ten) (w : World) (h1 : t.name.size ≤ 100000) (h2 : t.tok.size ≤ 100000) : Calls Tryd.prog 31 #[.agg #[.string t.name, .string t.tok, .int .i64 t.mem, .int .i64 t.st, .int .i64 t.qu]] w fun e w' => e = .returned (.bool (Tn.may t)) ∧ Below w.heap.size w w' := by
  have H1 := Lib.hid (fun w => word_walk t.name w h1)
  have H2 := Lib.hid (fun w => word_walk t.tok w h2)
  have HMV := Lib.hid (show Tn.may t = (wordB t.name.data.toList && (wordB t.tok.data.toList && (Tn.btw t.mem 0 && (Tn.btw t.st 1 && Tn.btw t.qu 1)))) from rfl)
  have HW := Lib.hid (fun n lo w => most_walk n lo w)
  clear h1 h2
  generalize Tn.may t = M at *
  obtain ⟨na, tk, me, st, qu⟩ := t
  simp only at *
  generalize wordB na.data.toList = b1 at *
  generalize wordB tk.data.toList = b2 at *
  unfold Tn.btw at HMV
  have W3 := Lib.hid (fun w => HW.out me 0 w); have W4 := Lib.hid (fun w => HW.out st 1 w); have W5 := Lib.hid (fun w => HW.out qu 1 w)
  clear HW
  generalize (decide ((0 : Int) ≤ me) && decide (me ≤ 1099511627776)) = b3 at *
  generalize (decide ((1 : Int) ≤ st) && decide (st ≤ 1099511627776)) = b4 at *
  generalize (decide ((1 : Int) ≤ qu) && decide (qu ≤ 1099511627776)) = b5 at *
  go_enter Tryd.func31, Tryd.ntmps31
  go_upto_region 1 with (fail)
  have HP := Lib.hid (Has.new w #[.string na, .string tk, .int .i64 me, .int .i64 st, .int .i64 qu] 61)
  have HB := Lib.hid ((Below.refl w.heap.size w).alloc (Nat.le_refl _) (.cells #[.string na, .string tk, .int .i64 me, .int .i64 st, .int .i64 qu] 61))
  obtain ⟨q, hq⟩ : ∃ q, q = w.heap.size := ⟨_, rfl⟩
  rw [← hq] at HP
  rw [← hq]
  clear hq
  generalize w.alloc (.cells #[.string na, .string tk, .int .i64 me, .int .i64 st, .int .i64 qu] 61) = w1 at *
  have p0 := HP.out.cell 0; have p1 := HP.out.cell 1; have p2 := HP.out.cell 2; have p3 := HP.out.cell 3; have p4 := HP.out.cell 4
  simp only [List.getElem?_toArray, List.getElem?_cons_zero, List.getElem?_cons_succ] at p0 p1 p2 p3 p4
  go_wp2_with fail
  clear p0 p1 p2 p3 p4
  with_reducible refine (H1.out _).mono ?_
  rintro r2 w2 ⟨rfl, hb⟩
  have HPX := HP.out.below hb HP.out.lt
  have HBX := HB.out.trans (hb.mono HB.out.size)
  clear hb HP HB
  have HP := Lib.hid HPX; have HB := Lib.hid HBX
  have p0 := HPX.cell 0; have p1 := HPX.cell 1; have p2 := HPX.cell 2; have p3 := HPX.cell 3; have p4 := HPX.cell 4
  simp only [List.getElem?_toArray, List.getElem?_cons_zero, List.getElem?_cons_succ] at p0 p1 p2 p3 p4
  clear HPX HBX
  cases b1
  · go_wp2
    go_ret
    exact ⟨by rw [HMV.out]; rfl, HB.out⟩
  go_wp2_with fail
  clear p0 p1 p2 p3 p4
  with_reducible refine (H2.out _).mono ?_
  rintro r2 w2 ⟨rfl, hb⟩
  have HPX := HP.out.below hb HP.out.lt
  have HBX := HB.out.trans (hb.mono HB.out.size)
  clear hb HP HB
  have HP := Lib.hid HPX; have HB := Lib.hid HBX
  have p0 := HPX.cell 0; have p1 := HPX.cell 1; have p2 := HPX.cell 2; have p3 := HPX.cell 3; have p4 := HPX.cell 4
  simp only [List.getElem?_toArray, List.getElem?_cons_zero, List.getElem?_cons_succ] at p0 p1 p2 p3 p4
  clear HPX HBX
  cases b2
  · go_wp2
    go_ret
    exact ⟨by rw [HMV.out]; rfl, HB.out⟩
  go_wp2_with fail
  with_reducible refine (W3.out _).mono ?_
  rintro r3 w3 ⟨rfl, rfl⟩
  cases b3
  · go_wp2
    go_ret
    exact ⟨by rw [HMV.out]; rfl, HB.out⟩
  go_wp2_with fail
  with_reducible refine (W4.out _).mono ?_
  rintro r3 w3 ⟨rfl, rfl⟩
  cases b4
  · go_wp2
    go_ret
    exact ⟨by rw [HMV.out]; rfl, HB.out⟩
  go_wp2_with fail
  with_reducible refine (W5.out _).mono ?_
  rintro r3 w3 ⟨rfl, rfl⟩
  cases b5
  · go_wp2
    go_ret
    exact ⟨by rw [HMV.out]; rfl, HB.out⟩
  · go_wp2
    go_ret
    exact ⟨by rw [HMV.out]; rfl, HB.out⟩
set_option maxRecDepth 100000 in
set_option maxHeartbeats 4000000 in
theorem refcheck_walk (l : List Tn.Ten) (a : Option Addr) (len cap : Nat) (w : World) (hl : l.length = len) (hr : RowS w 5 a len cap (l.flatMap tncells)) (h100 : len ≤ 1000) (hz : tnSmall l) :
    Calls Tryd.prog 16 #[.slice a len cap] w fun r w' => r = .returned (.agg #[.int .i64 (Tn.check l).1, .int .i64 (Tn.check l).2]) ∧ Below w.heap.size w w' := by
  have HC0 := Lib.hid (show Tn.check l = if l.length = 0 then (-1, 6) else if 16 < l.length then (16, 2) else Tn.chkL [] l from rfl)
  have HA := Lib.hid (fun k h => Tn.chkL_at l k h)
  have HE := Lib.hid (Tn.chkL_end l l.length (Nat.le_refl _))
  have HZ := Lib.hid (fun k (h : k < l.length) => hz l[k] (List.getElem_mem h))
  have HFR := Lib.hid (fun (w : World) (h : RowS w 5 a len cap (l.flatMap tncells)) k hk => h.front hl k hk)
  generalize Tn.check l = R at *
  subst hl
  have HRW := Lib.hid hr
  clear hz hr
  go_enter Tryd.func16, Tryd.ntmps16
  go_upto_region 1 with (fail)
  have hb := (Below.refl w.heap.size w).alloc (Nat.le_refl _) (.cells #[.int .i64 0, .int .i64 0] 53)
  have HQ := Lib.hid (Has.new w #[.int .i64 0, .int .i64 0] 53)
  have HB := Lib.hid hb
  obtain ⟨q, hq⟩ : ∃ q, q = w.heap.size := ⟨_, rfl⟩
  rw [← hq] at HQ
  rw [← hq]
  have hqw : w.heap.size ≤ q := by omega
  clear hq hb
  generalize w.alloc (.cells #[.int .i64 0, .int .i64 0] 53) = w1 at *
  by_cases h0 : l.length = 0
  · have HF := Lib.hid (show R = (-1, 6) by rw [HC0.out, if_pos h0])
    have h0' : ((l.length : Int) == 0) = true := by simp; exact List.length_eq_zero_iff.1 h0
    clear h0
    have z0 := HQ.out.cell 0; have z1 := HQ.out.cell 1
    have f0 := HQ.out.free 0; have f1 := HQ.out.free 1
    simp only [List.getElem?_toArray, List.getElem?_cons_zero, List.getElem?_cons_succ] at z0 z1
    go_wp2
    (try simp only [Exit.inBlock, Exit.then])
    ((try simp only [Exit.inBlock, Exit.then]); refine bodyPost_ret (v := (.agg #[.int .i64 (-1), .int .i64 6])) ?_ rfl ⟨?_, ?_⟩; (rw [results_cell1 rfl]; go_simp))
    · rw [HF.out]
    · exact tbset1 (tbset1 HB.out _ _ hqw _) _ _ hqw _
  have h0' : ((l.length : Int) == 0) = false := by
    apply Bool.eq_false_iff.2
    intro h
    have := beq_iff_eq.1 h
    omega
  by_cases h16 : 16 < l.length
  · have HF := Lib.hid (show R = (16, 2) by rw [HC0.out, if_neg h0, if_pos h16])
    have h16' : (16 : Int) < (l.length : Int) := by omega
    clear h0
    have z0 := HQ.out.cell 0; have z1 := HQ.out.cell 1
    have f0 := HQ.out.free 0; have f1 := HQ.out.free 1
    simp only [List.getElem?_toArray, List.getElem?_cons_zero, List.getElem?_cons_succ] at z0 z1
    go_wp2
    (try simp only [Exit.inBlock, Exit.then])
    ((try simp only [Exit.inBlock, Exit.then]); refine bodyPost_ret (v := (.agg #[.int .i64 16, .int .i64 2])) ?_ rfl ⟨?_, ?_⟩; (rw [results_cell1 rfl]; go_simp))
    · rw [HF.out]
    · exact tbset1 (tbset1 HB.out _ _ hqw _) _ _ hqw _
  have HRR := Lib.hid (show Tn.chkL (l.take 0) (l.drop 0) = R by rw [HC0.out, if_neg h0, if_neg h16]; rfl)
  have h16' : ¬ (16 : Int) < (l.length : Int) := by omega
  clear h0
  go_wp2_with fail
  go_loopw [17] (fun vi wr => ∃ (k : Nat), k ≤ l.length ∧ vi = .int .i64 k ∧ Tn.chkL (l.take k) (l.drop k) = R ∧ Has wr q #[.int .i64 0, .int .i64 0] 53 ∧ Below w.heap.size w wr) (fun i _ => l.length - (intOf i).toNat)
  case atStart => exact ⟨0, Nat.zero_le _, rfl, HRR.out, HQ.out, HB.out⟩
  case round =>
    obtain ⟨k, hk, rfl, hag, hQ, hB⟩ := hrel
    clear HQ HB HRR
    have HQ := Lib.hid hQ; have HB := Lib.hid hB
    clear hQ hB
    by_cases hlt : k < l.length
    · have hlt' : (k : Int) < (l.length : Int) := by omega
      obtain ⟨b, off, rfl, hb, a0, a1, a2, a3, a4⟩ := (HRW.out.keep HB.out).ten k hlt hlt
      rw [HA.out k hlt] at hag
      have HG := Lib.hid hag
      have hzk := HZ.out k hlt
      have HAT := Lib.hid (fun j (h : j < (l.take k).length) => Tn.again_at (l.take k) l[k] j h)
      have HAE := Lib.hid (fun j h => Tn.again_end (l.take k) l[k] j h)
      have hlk : (l.take k).length = k := by rw [List.length_take]; omega
      generalize l[k] = x at *
      have HMY := Lib.hid (fun w => tnrefmay_walk x w hzk.1 hzk.2)
      obtain ⟨n2, k2, m2, s2, q2⟩ := x
      simp only at a0 a1 a2 a3 a4 HMY
      clear hag hzk
      go_upto_region 8 with (fail)
      have ha := (Below.refl wr.heap.size wr).alloc (Nat.le_refl _) (.cells #[.string n2, .string k2, .int .i64 m2, .int .i64 s2, .int .i64 q2] 61)
      have HB1 := Lib.hid (HB.out.trans (ha.mono HB.out.size))
      have HQ1 := Lib.hid (HQ.out.below ha HQ.out.lt)
      have HX := Lib.hid (Has.new wr #[.string n2, .string k2, .int .i64 m2, .int .i64 s2, .int .i64 q2] 61)
      clear a0 a1 a2 a3 a4 HB hb ha HQ
      generalize wr.heap.size = p at *
      generalize wr.alloc (.cells #[.string n2, .string k2, .int .i64 m2, .int .i64 s2, .int .i64 q2] 61) = w5 at *
      have x0 := HX.out.cell 0; have x1 := HX.out.cell 1; have x2 := HX.out.cell 2; have x3 := HX.out.cell 3; have x4 := HX.out.cell 4
      simp only [List.getElem?_toArray, List.getElem?_cons_zero, List.getElem?_cons_succ] at x0 x1 x2 x3 x4
      go_wp2_with fail
      with_reducible refine (HMY.out _).mono ?_
      rintro r6 w6 ⟨rfl, hb6⟩
      have HB := Lib.hid (HB1.out.trans (hb6.mono HB1.out.size))
      have HX6 := Lib.hid (HX.out.below hb6 HX.out.lt)
      have HQ := Lib.hid (HQ1.out.below hb6 HQ1.out.lt)
      clear hb6 HB1 HQ1 x0 x1 x2 x3 x4 HX HMY
      cases hm : Tn.may ⟨n2, k2, m2, s2, q2⟩ with
      | false =>
        have HF := Lib.hid (show R = ((k : Int), 1) by rw [← HG.out, if_pos hm])
        clear hm HG
        have z0 := HQ.out.cell 0; have z1 := HQ.out.cell 1
        have f0 := HQ.out.free 0; have f1 := HQ.out.free 1
        simp only [List.getElem?_toArray, List.getElem?_cons_zero, List.getElem?_cons_succ] at z0 z1
        go_wp2
        (try simp only [Exit.inBlock, Exit.then])
        ((try simp only [Exit.inBlock, Exit.then]); refine bodyPost_ret (v := (.agg #[.int .i64 (k : Int), .int .i64 1])) ?_ rfl ⟨?_, ?_⟩; (rw [results_cell1 rfl]; go_simp))
        · rw [HF.out]
        · exact tbset1 (tbset1 HB.out _ _ hqw _) _ _ hqw _
      | true =>
        have HG2 := Lib.hid (show (if Tn.again (l.take k) ⟨n2, k2, m2, s2, q2⟩ = true then ((k : Int), 8) else Tn.chkL (l.take (k + 1)) (l.drop (k + 1))) = R by
          have hg := HG.out
          rw [hm, if_neg (by decide)] at hg
          exact hg)
        clear hm HG
        have hcap := (HRW.out.keep HB.out).le
        have HAS := Lib.hid (show Tn.again ((l.take k).drop 0) ⟨n2, k2, m2, s2, q2⟩ = Tn.again (l.take k) ⟨n2, k2, m2, s2, q2⟩ by rw [List.drop_zero])
        generalize Tn.again (l.take k) ⟨n2, k2, m2, s2, q2⟩ = AG at *
        go_wp2_with fail
        go_loopw [31] (fun vj wr2 => ∃ (j : Nat), j ≤ k ∧ vj = .int .i64 j ∧ Tn.again ((l.take k).drop j) ⟨n2, k2, m2, s2, q2⟩ = AG ∧ Has wr2 q #[.int .i64 0, .int .i64 0] 53 ∧ Has wr2 p #[.string n2, .string k2, .int .i64 m2, .int .i64 s2, .int .i64 q2] 61 ∧ Below w.heap.size w wr2) (fun j _ => k - (intOf j).toNat)
        case atStart => exact ⟨0, Nat.zero_le _, rfl, HAS.out, HQ.out, HX6.out, HB.out⟩
        case round =>
          obtain ⟨j, hj, rfl, haj, hQ, hX, hB⟩ := hrel
          clear HQ HB HX6 HAS
          have HQ := Lib.hid hQ; have HB := Lib.hid hB; have HX := Lib.hid hX
          clear hQ hB hX
          by_cases hjk : j < k
          · have hjk' : (j : Int) < (k : Int) := by omega
            obtain ⟨b', off', he, hb, a0, a1, a2, a3, a4⟩ := (HFR.out _ (HRW.out.keep HB.out) k (by omega)).ten j hjk (by omega)
            cases he
            rw [HAT.out j (by omega)] at haj
            generalize (l.take k)[j]'(by omega) = y at *
            obtain ⟨n3, k3, m3, s3, q3⟩ := y
            simp only [Tn.like] at haj
            simp only at a0 a1 a2 a3 a4
            go_upto_region 13 with (fail)
            have ha := (Below.refl wr.heap.size wr).alloc (Nat.le_refl _) (.cells #[.string n3, .string k3, .int .i64 m3, .int .i64 s3, .int .i64 q3] 61)
            have HB2 := Lib.hid (HB.out.trans (ha.mono HB.out.size))
            have HQ2 := Lib.hid (HQ.out.below ha HQ.out.lt)
            have HX2 := Lib.hid (HX.out.below ha HX.out.lt)
            have HY := Has.new wr #[.string n3, .string k3, .int .i64 m3, .int .i64 s3, .int .i64 q3] 61
            clear a0 a1 a2 a3 a4 HB HQ HX ha hb
            generalize wr.heap.size = p3 at *
            generalize wr.alloc (.cells #[.string n3, .string k3, .int .i64 m3, .int .i64 s3, .int .i64 q3] 61) = w7 at *
            have y0 := HY.cell 0; have y1 := HY.cell 1
            have x0 := HX2.out.cell 0; have x1 := HX2.out.cell 1
            simp only [List.getElem?_toArray, List.getElem?_cons_zero, List.getElem?_cons_succ] at y0 y1 x0 x1
            clear HY
            have e1 := tstr_eq n3 n2
            have e2 := tstr_eq k3 k2
            by_cases c1 : n3 = n2
            · have d1 : decide (n3 = n2) = true := decide_eq_true c1
              rw [d1, Bool.true_or, Bool.true_or] at haj
              rw [d1] at e1
              have HF := Lib.hid (show R = ((k : Int), 8) by have := HG2.out; rw [← haj, if_pos rfl] at this; exact this.symm)
              have HQ := HQ2
              have HB := HB2
              clear haj c1 d1 e2 HG2
              have z0 := HQ.out.cell 0; have z1 := HQ.out.cell 1
              have f0 := HQ.out.free 0; have f1 := HQ.out.free 1
              simp only [List.getElem?_toArray, List.getElem?_cons_zero, List.getElem?_cons_succ] at z0 z1
              go_wp2
              (try simp only [Exit.inBlock, Exit.then])
              ((try simp only [Exit.inBlock, Exit.then]); refine bodyPost_ret (v := (.agg #[.int .i64 (k : Int), .int .i64 8])) ?_ rfl ⟨?_, ?_⟩; (rw [results_cell1 rfl]; go_simp))
              · rw [HF.out]
              · exact tbset1 (tbset1 HB.out _ _ hqw _) _ _ hqw _
            · have d1 : decide (n3 = n2) = false := decide_eq_false c1
              rw [d1, Bool.false_or] at haj
              rw [d1] at e1
              clear c1 d1
              by_cases c2 : k3 = k2
              · have d2 : decide (k3 = k2) = true := decide_eq_true c2
                rw [d2, Bool.true_or] at haj
                rw [d2] at e2
                have HF := Lib.hid (show R = ((k : Int), 8) by have := HG2.out; rw [← haj, if_pos rfl] at this; exact this.symm)
                have HQ := HQ2
                have HB := HB2
                clear haj c2 d2 HG2
                have z0 := HQ.out.cell 0; have z1 := HQ.out.cell 1
                have f0 := HQ.out.free 0; have f1 := HQ.out.free 1
                simp only [List.getElem?_toArray, List.getElem?_cons_zero, List.getElem?_cons_succ] at z0 z1
                go_wp2
                (try simp only [Exit.inBlock, Exit.then])
                ((try simp only [Exit.inBlock, Exit.then]); refine bodyPost_ret (v := (.agg #[.int .i64 (k : Int), .int .i64 8])) ?_ rfl ⟨?_, ?_⟩; (rw [results_cell1 rfl]; go_simp))
                · rw [HF.out]
                · exact tbset1 (tbset1 HB.out _ _ hqw _) _ _ hqw _
              · have d2 : decide (k3 = k2) = false := decide_eq_false c2
                rw [d2, Bool.false_or] at haj
                rw [d2] at e2
                have HJ := Lib.hid haj
                clear haj c2 d2
                go_wp2_with fail
                go_roundw
                case rel => exact ⟨j + 1, hjk, by go_num, HJ.out, HQ2.out, HX2.out, HB2.out⟩
                case measure => simp [intOf]; omega
          · have hjk' : ¬ (j : Int) < (k : Int) := by omega
            rw [HAE.out j (by omega)] at haj
            have HF := Lib.hid (show Tn.chkL (l.take (k + 1)) (l.drop (k + 1)) = R by have := HG2.out; rw [← haj, if_neg (by decide)] at this; exact this)
            clear haj HG2
            go_wp2_with fail
            go_roundw
            case rel => exact ⟨k + 1, hlt, by go_num, HF.out, HQ.out, HB.out⟩
            case measure => simp [intOf]; omega
    · have hlt' : ¬ (k : Int) < (l.length : Int) := by omega
      have hke : k = l.length := by omega
      subst hke
      rw [HE.out] at hag
      have HF := Lib.hid hag.symm
      clear hag
      have z0 := HQ.out.cell 0; have z1 := HQ.out.cell 1
      have f0 := HQ.out.free 0; have f1 := HQ.out.free 1
      simp only [List.getElem?_toArray, List.getElem?_cons_zero, List.getElem?_cons_succ] at z0 z1
      go_wp2
      (try simp only [Exit.inBlock, Exit.then])
      ((try simp only [Exit.inBlock, Exit.then]); refine bodyPost_ret (v := (.agg #[.int .i64 (-1), .int .i64 0])) ?_ rfl ⟨?_, ?_⟩; (rw [results_cell1 rfl]; go_simp))
      · rw [HF.out]
      · exact tbset1 (tbset1 HB.out _ _ hqw _) _ _ hqw _
end Go.Proofs.YtajalllecoclcaaDoor
