/- Whether a tenant may be; a number of digits; whether one has its name or token already. -/
import Derived.Test.YtimlmjabdakojaaDoorTnRow
import Derived.Test.YtimlmjabdakojaaDoorTokWalk4
namespace Go.Proofs.YtimlmjabdakojaaDoor
open Go.RowKit
set_option linter.unusedVariables false
set_option linter.unusedSimpArgs false

set_option maxRecDepth 100000 in
set_option maxHeartbeats 400000 in
theorem between_walk (n lo hi : Int) (w : World) : Calls Tryd.prog 24 #[.int .i64 n, .int .i64 lo, .int .i64 hi] w fun r w' => r = .returned (.bool (decide (lo ≤ n) && decide (n ≤ hi))) ∧ w = w' := by
  by_cases c1 : lo ≤ n
  · have e1 : decide (lo ≤ n) = true := decide_eq_true c1
    by_cases c2 : n ≤ hi
    · have e2 : decide (n ≤ hi) = true := decide_eq_true c2
      go_enter Tryd.func24, Tryd.ntmps24
      go_wp2
      go_ret
      exact ⟨by first | rfl | (rw [e1, e2]; rfl) | (rw [e1]; rfl), rfl⟩
    · have e2 : decide (n ≤ hi) = false := decide_eq_false c2
      go_enter Tryd.func24, Tryd.ntmps24
      go_wp2
      go_ret
      exact ⟨by first | rfl | (rw [e1, e2]; rfl), rfl⟩
  · have e1 : decide (lo ≤ n) = false := decide_eq_false c1
    go_enter Tryd.func24, Tryd.ntmps24
    go_wp2
    go_ret
    exact ⟨by first | rfl | (rw [e1]; rfl), rfl⟩
theorem stempty32 (s : ByteArray) : s.toList.isEmpty = decide (s.size = 0) := by
  rw [ByteArray.toList_eq, Bool.eq_iff_iff, decide_eq_true_eq, List.isEmpty_iff, ← Fr.size_list]
  exact ⟨fun h => by rw [h]; rfl, fun h => List.eq_nil_of_length_eq_zero h⟩
set_option maxRecDepth 100000 in
set_option maxHeartbeats 800000 in
theorem tnnumber_walk (s : ByteArray) (w : World) : Calls Tryd.prog 45 #[.string s] w fun e w' => e = .returned (.int .i64 (St.number s.data.toList)) ∧ Below w.heap.size w w' := by
  have hnum : St.number s.data.toList = if s.data.toList = [] ∨ 13 < s.data.toList.length then -1 else St.scan s.data.toList 0 := by unfold St.number; rw [St.scan_eq]
  rw [llen] at hnum
  by_cases h0 : s.size = 0
  · have es : s.toList.isEmpty = true := by rw [stempty32, decide_eq_true h0]
    have HN := Lib.hid (show St.number s.data.toList = -1 by rw [hnum, if_pos (.inl (List.length_eq_zero_iff.1 (by rw [llen]; exact h0)))])
    clear hnum h0
    go_enter Tryd.func45, Tryd.ntmps45
    go_wp2
    go_ret
    exact ⟨by rw [HN.out]; rfl, Below.refl _ _⟩
  · have es : s.toList.isEmpty = false := by rw [stempty32, decide_eq_false h0]
    by_cases h13 : 13 < s.size
    · have h13' : (13 : Int) < (s.size : Int) := by omega
      have HN := Lib.hid (show St.number s.data.toList = -1 by rw [hnum, if_pos (.inr h13)])
      clear hnum h0
      go_enter Tryd.func45, Tryd.ntmps45
      go_wp2
      go_ret
      exact ⟨by rw [HN.out]; rfl, Below.refl _ _⟩
    · have h13' : ¬ (13 : Int) < (s.size : Int) := by omega
      have HN := Lib.hid (show St.scan s.data.toList 0 = St.number s.data.toList by
        rw [hnum, if_neg]
        rintro (h | h)
        · exact h0 (by rw [← llen, h]; rfl)
        · exact h13 h)
      generalize St.number s.data.toList = R at *
      have HS := Lib.hid (show s.size ≤ 13 by omega)
      clear hnum h0 h13
      go_enter Tryd.func45, Tryd.ntmps45
      go_wp2_with fail
      clear es h13'
      go_loopw [3] (fun v wr => ∃ p n : Nat, p ≤ s.size ∧ v = .int .i64 n ∧ n < 10 ^ p ∧ St.scan (s.data.toList.drop p) n = R ∧ ItAt w wr s p) (fun _ w' => s.size - w'.iterPos w.heap.size)
      case atStart => exact ⟨0, 0, Nat.zero_le _, rfl, by decide, HN.out, ItAt.start w s⟩
      case round =>
        obtain ⟨p, n, hk, rfl, hn, hsc, hit⟩ := hrel
        have HI := Lib.hid hit
        have hs := HS.out
        have hpw : (10 : Nat) ^ p ≤ 10 ^ 13 := Nat.pow_le_pow_right (by decide) (by omega)
        have hten : (10 : Nat) ^ 13 = 10000000000000 := by decide
        have hn13 : (n : Int) < 10000000000000 := by omega
        have Hn := Lib.hid hn
        clear HN hpw hn hten
        by_cases hp : p < s.size
        · have hnx : ∀ ty, (Instr.next (.pointer (some ⟨w.heap.size, 0, none⟩)) true ty).run Tryd.prog wr = _ := fun ty => Lib.run_next_any_at wr w.heap.size s p ty hit.it hp
          rw [Tk.decode_d] at hnx
          have hkl : p < s.data.toList.length := by rw [llen]; exact hp
          have hd1 := St.scan_dig s.data.toList p n hkl
          have hd2 := St.scan_no s.data.toList p n hkl
          rw [hsc, lget s p hp] at hd1 hd2
          have hat : Tk.at_ (s.data.toList.drop p) 0 = (s[p]'hp).toNat := by rw [Tk.at_drop, Nat.add_zero, Tk.at_get _ _ hkl, lget s p hp]
          have hb := (s[p]'hp).toNat_lt
          clear hsc hit
          by_cases hdg : St.isDig (s[p]'hp) = true
          · have h2 : 48 ≤ (s[p]'hp).toNat ∧ (s[p]'hp).toNat ≤ 57 := of_decide_eq_true hdg
            have hdd := Tk.d_of1 (s.data.toList.drop p) (by rw [hat]; omega)
            rw [hat] at hdd
            rw [hdd] at hnx
            have c1 : ¬ (((s[p]'hp).toNat : Int) < 48) := by omega
            have c2 : ¬ ((57 : Int) < ((s[p]'hp).toNat : Int)) := by omega
            have HD := Lib.hid (hd1 hdg).symm
            have HN3 := Lib.hid (HI.out.next (p + 1))
            simp only at hnx
            generalize hwn : wr.iterAt w.heap.size s (p + 1) = w3 at *
            clear hwn hd1 hd2 hdg hat hdd
            go_wp2_with fail
            go_roundw
            case rel =>
              have hq := Hn.out
              refine ⟨p + 1, 10 * n + ((s[p]'hp).toNat - 48), hp, by go_num, ?_, HD.out, HN3.out⟩
              rw [Nat.pow_succ]; omega
            case measure => rw [HN3.out.pos, HI.out.pos]; omega
          · have h2 : (s[p]'hp).toNat < 48 ∨ 57 < (s[p]'hp).toNat := by
              apply Classical.byContradiction
              intro h
              exact hdg (decide_eq_true (by omega))
            have HD := Lib.hid (hd2 hdg)
            have hc : ((Tk.d (s.data.toList.drop p)).1 : Int) < 48 ∨ (57 : Int) < ((Tk.d (s.data.toList.drop p)).1 : Int) := by
              by_cases hlo : (s[p]'hp).toNat < 128
              · have hdd := Tk.d_of1 (s.data.toList.drop p) (by rw [hat]; exact hlo)
                rw [hdd, hat]
                simp only
                omega
              · have := Tn.d_hi (s.data.toList.drop p) (by rw [hat]; omega)
                omega
            have hdb := Tk.d_at s.data.toList p hkl
            have HN3 := Lib.hid (HI.out.next (p + (Tk.d (s.data.toList.drop p)).2))
            generalize (Tk.d (s.data.toList.drop p)).1 = c at *
            generalize (Tk.d (s.data.toList.drop p)).2 = k at *
            obtain ⟨q1, q2, q3, q4, -⟩ := hdb
            generalize hwn : wr.iterAt w.heap.size s (p + k) = w3 at *
            clear hwn hd1 hd2 hdg hat h2
            by_cases c1 : (c : Int) < 48
            · clear hc
              go_wp2
              (try simp only [Exit.inBlock, Exit.then])
              go_ret
              exact ⟨by rw [HD.out]; rfl, HN3.out.below⟩
            · have c2 : (57 : Int) < (c : Int) := by omega
              clear hc
              go_wp2
              (try simp only [Exit.inBlock, Exit.then])
              go_ret
              exact ⟨by rw [HD.out]; rfl, HN3.out.below⟩
        · have hnx : ∀ ty, (Instr.next (.pointer (some ⟨w.heap.size, 0, none⟩)) true ty).run Tryd.prog wr = _ := fun ty => Lib.run_next_end_at wr w.heap.size s p ty hit.it hp
          have HD := Lib.hid ((St.scan_end s.data.toList p n (by rw [llen]; omega)).symm.trans hsc)
          clear hsc hit
          go_wp2
          go_ret
          exact ⟨by rw [← HD.out]; rfl, HI.out.below⟩
/-- a tenant's five values -/
def tnV (t : Tn.Ten) : Value := .agg #[.string t.name, .string t.tok, .int .i64 t.mem, .int .i64 t.st, .int .i64 t.qu]
set_option maxRecDepth 100000 in
set_option maxHeartbeats 1600000 in
theorem tnmay_walk (t : Tn.Ten) (w : World) (hT : Tabs w) (h1 : t.name.size ≤ 100000) (h2 : t.tok.size ≤ 100000) : Calls Tryd.prog 10 #[.agg #[.string t.name, .string t.tok, .int .i64 t.mem, .int .i64 t.st, .int .i64 t.qu]] w fun e w' => e = .returned (.bool (Tn.may t)) ∧ Below w.heap.size w w' := by
  have H1 := Lib.hid (fun w h => is_walk t.name w h (by omega))
  have H2 := Lib.hid (fun w h => is_walk t.tok w h (by omega))
  have HMV := Lib.hid (show Tn.may t = (wordB t.name.data.toList && (wordB t.tok.data.toList && (Tn.btw t.mem 0 && (Tn.btw t.st 1 && Tn.btw t.qu 1)))) from rfl)
  have HT := Lib.hid hT
  have HW := Lib.hid (fun n lo w => between_walk n lo 1099511627776 w)
  clear hT h1 h2
  generalize Tn.may t = M at *
  obtain ⟨na, tk, me, st, qu⟩ := t
  simp only at *
  generalize wordB na.data.toList = b1 at *
  generalize wordB tk.data.toList = b2 at *
  unfold Tn.btw at HMV
  have hc : ∀ n lo : Int, ∃ b : Bool, (decide (lo ≤ n) && decide (n ≤ 1099511627776)) = b := fun n lo => ⟨_, rfl⟩
  have W3 := Lib.hid (fun w => HW.out me 0 w); have W4 := Lib.hid (fun w => HW.out st 1 w); have W5 := Lib.hid (fun w => HW.out qu 1 w)
  clear HW hc
  generalize (decide ((0 : Int) ≤ me) && decide (me ≤ 1099511627776)) = b3 at *
  generalize (decide ((1 : Int) ≤ st) && decide (st ≤ 1099511627776)) = b4 at *
  generalize (decide ((1 : Int) ≤ qu) && decide (qu ≤ 1099511627776)) = b5 at *
  go_enter Tryd.func10, Tryd.ntmps10
  go_upto_region 1 with (fail)
  have HP := Lib.hid (Has.new w #[.string na, .string tk, .int .i64 me, .int .i64 st, .int .i64 qu] 26)
  have hb0 := (Below.refl w.heap.size w).alloc (Nat.le_refl _) (.cells #[.string na, .string tk, .int .i64 me, .int .i64 st, .int .i64 qu] 26)
  have ht0 := HT.out.keep hb0
  clear HT
  have HT := Lib.hid ht0
  have HB := Lib.hid hb0
  obtain ⟨q, hq⟩ : ∃ q, q = w.heap.size := ⟨_, rfl⟩
  rw [← hq] at HP
  rw [← hq]
  clear hq hb0 ht0
  generalize w.alloc (.cells #[.string na, .string tk, .int .i64 me, .int .i64 st, .int .i64 qu] 26) = w1 at *
  have p0 := HP.out.cell 0; have p1 := HP.out.cell 1; have p2 := HP.out.cell 2; have p3 := HP.out.cell 3; have p4 := HP.out.cell 4
  simp only [List.getElem?_toArray, List.getElem?_cons_zero, List.getElem?_cons_succ] at p0 p1 p2 p3 p4
  go_wp2_with fail
  clear p0 p1 p2 p3 p4
  with_reducible refine (H1.out _ HT.out).mono ?_
  rintro r2 w2 ⟨rfl, hb⟩
  have HTX := HT.out.keep hb
  have HPX := HP.out.below hb HP.out.lt
  have HBX := HB.out.trans (hb.mono HB.out.size)
  clear hb HT HP HB
  have HT := Lib.hid HTX; have HP := Lib.hid HPX; have HB := Lib.hid HBX
  have p0 := HPX.cell 0; have p1 := HPX.cell 1; have p2 := HPX.cell 2; have p3 := HPX.cell 3; have p4 := HPX.cell 4
  simp only [List.getElem?_toArray, List.getElem?_cons_zero, List.getElem?_cons_succ] at p0 p1 p2 p3 p4
  clear HTX HPX HBX
  cases b1
  · go_wp2
    go_ret
    exact ⟨by rw [HMV.out]; rfl, HB.out⟩
  go_wp2_with fail
  clear p0 p1 p2 p3 p4
  with_reducible refine (H2.out _ HT.out).mono ?_
  rintro r2 w2 ⟨rfl, hb⟩
  have HTX := HT.out.keep hb
  have HPX := HP.out.below hb HP.out.lt
  have HBX := HB.out.trans (hb.mono HB.out.size)
  clear hb HT HP HB
  have HT := Lib.hid HTX; have HP := Lib.hid HPX; have HB := Lib.hid HBX
  have p0 := HPX.cell 0; have p1 := HPX.cell 1; have p2 := HPX.cell 2; have p3 := HPX.cell 3; have p4 := HPX.cell 4
  simp only [List.getElem?_toArray, List.getElem?_cons_zero, List.getElem?_cons_succ] at p0 p1 p2 p3 p4
  clear HTX HPX HBX
  cases b2
  · go_wp2
    go_ret
    exact ⟨by rw [HMV.out]; rfl, HB.out⟩
  go_wp2_with fail
  with_reducible refine (W3.out _).mono ?_
  rintro r3 w3 ⟨rfl, rfl⟩
  cases b3
  · go_wp2
    go_ret
    exact ⟨by rw [HMV.out]; rfl, HB.out⟩
  go_wp2_with fail
  with_reducible refine (W4.out _).mono ?_
  rintro r3 w3 ⟨rfl, rfl⟩
  cases b4
  · go_wp2
    go_ret
    exact ⟨by rw [HMV.out]; rfl, HB.out⟩
  go_wp2_with fail
  with_reducible refine (W5.out _).mono ?_
  rintro r3 w3 ⟨rfl, rfl⟩
  cases b5
  · go_wp2
    go_ret
    exact ⟨by rw [HMV.out]; rfl, HB.out⟩
  · go_wp2
    go_ret
    exact ⟨by rw [HMV.out]; rfl, HB.out⟩
set_option maxRecDepth 100000 in
set_option maxHeartbeats 1600000 in
theorem again_walk (l : List Tn.Ten) (t : Tn.Ten) (a : Option Addr) (len cap : Nat) (w : World) (hl : l.length = len) (hr : RowS w 5 a len cap (l.flatMap tncells)) (h100 : len ≤ 1000) :
    Calls Tryd.prog 27 #[.slice a len cap, .agg #[.string t.name, .string t.tok, .int .i64 t.mem, .int .i64 t.st, .int .i64 t.qu]] w fun r w' => r = .returned (.bool (Tn.again l t)) ∧ Below w.heap.size w w' := by
  have HR := Lib.hid hr
  have HA := Lib.hid (fun k h => Tn.again_at l t k h)
  have HE := Lib.hid (fun k h => Tn.again_end l t k h)
  have HS := Lib.hid (show Tn.again (l.drop 0) t = Tn.again l t by rw [List.drop_zero])
  generalize Tn.again l t = R at *
  obtain ⟨na, tk, me, st, qu⟩ := t
  subst hl
  clear hr
  go_enter Tryd.func27, Tryd.ntmps27
  go_upto_region 1 with (fail)
  have HP := Lib.hid (Has.new w #[.string na, .string tk, .int .i64 me, .int .i64 st, .int .i64 qu] 26)
  have HB := Lib.hid ((Below.refl w.heap.size w).alloc (Nat.le_refl _) (.cells #[.string na, .string tk, .int .i64 me, .int .i64 st, .int .i64 qu] 26))
  obtain ⟨q, hq⟩ : ∃ q, q = w.heap.size := ⟨_, rfl⟩
  rw [← hq] at HP
  rw [← hq]
  clear hq
  generalize w.alloc (.cells #[.string na, .string tk, .int .i64 me, .int .i64 st, .int .i64 qu] 26) = w1 at *
  go_wp2_with fail
  go_loopw [9] (fun vi wr => ∃ (k : Nat), k ≤ l.length ∧ vi = .int .i64 k ∧ Tn.again (l.drop k) ⟨na, tk, me, st, qu⟩ = R ∧ Has wr q #[.string na, .string tk, .int .i64 me, .int .i64 st, .int .i64 qu] 26 ∧ Below w.heap.size w wr) (fun i _ => l.length - (intOf i).toNat)
  case atStart => exact ⟨0, Nat.zero_le _, rfl, HS.out, HP.out, HB.out⟩
  case round =>
    obtain ⟨k, hk, rfl, hag, hP, hB⟩ := hrel
    clear HP HB HS
    have HP := Lib.hid hP; have HB := Lib.hid hB
    clear hP hB
    by_cases hlt : k < l.length
    · have hlt' : (k : Int) < (l.length : Int) := by omega
      obtain ⟨b, off, rfl, hb, a0, a1, a2, a3, a4⟩ := (HR.out.keep HB.out).ten k hlt hlt
      rw [HA.out k hlt] at hag
      generalize l[k] = x at *
      obtain ⟨n2, k2, m2, s2, q2⟩ := x
      simp only at a0 a1 a2 a3 a4
      simp only [Tn.like] at hag
      go_upto_region 4 with (fail)
      have HP1 := Lib.hid (HP.out.alloc (.cells #[.string n2, .string k2, .int .i64 m2, .int .i64 s2, .int .i64 q2] 26))
      have HB1 := Lib.hid (HB.out.alloc HB.out.size (.cells #[.string n2, .string k2, .int .i64 m2, .int .i64 s2, .int .i64 q2] 26))
      have HX := Has.new wr #[.string n2, .string k2, .int .i64 m2, .int .i64 s2, .int .i64 q2] 26
      clear a0 a1 a2 a3 a4 HP HB hb
      generalize wr.heap.size = p at *
      generalize wr.alloc (.cells #[.string n2, .string k2, .int .i64 m2, .int .i64 s2, .int .i64 q2] 26) = w5 at *
      have x0 := HX.cell 0; have x1 := HX.cell 1
      have y0 := HP1.out.cell 0; have y1 := HP1.out.cell 1
      simp only [List.getElem?_toArray, List.getElem?_cons_zero, List.getElem?_cons_succ] at x0 x1 y0 y1
      clear HX
      have e1 := tstr_eq n2 na
      have e2 := tstr_eq k2 tk
      by_cases c1 : n2 = na
      · have d1 : decide (n2 = na) = true := decide_eq_true c1
        rw [d1, Bool.true_or, Bool.true_or] at hag
        rw [d1] at e1
        have HG := Lib.hid hag
        clear hag c1 d1 e2
        go_wp2
        (try simp only [Exit.inBlock, Exit.then])
        go_ret
        exact ⟨by rw [← HG.out]; rfl, HB1.out⟩
      · have d1 : decide (n2 = na) = false := decide_eq_false c1
        rw [d1, Bool.false_or] at hag
        rw [d1] at e1
        clear c1 d1
        by_cases c2 : k2 = tk
        · have d2 : decide (k2 = tk) = true := decide_eq_true c2
          rw [d2, Bool.true_or] at hag
          rw [d2] at e2
          have HG := Lib.hid hag
          clear hag c2 d2
          go_wp2
          (try simp only [Exit.inBlock, Exit.then])
          go_ret
          exact ⟨by rw [← HG.out]; rfl, HB1.out⟩
        · have d2 : decide (k2 = tk) = false := decide_eq_false c2
          rw [d2, Bool.false_or] at hag
          rw [d2] at e2
          have HG := Lib.hid hag
          clear hag c2 d2
          go_wp2_with fail
          go_roundw
          case rel => exact ⟨k + 1, hlt, by go_num, HG.out, HP1.out, HB1.out⟩
          case measure => simp [intOf]; omega
    · have hlt' : ¬ (k : Int) < (l.length : Int) := by omega
      rw [HE.out k (by omega)] at hag
      have HG := Lib.hid hag
      clear hag
      go_wp2
      go_ret
      exact ⟨by rw [← HG.out]; rfl, HB.out⟩
end Go.Proofs.YtimlmjabdakojaaDoor
