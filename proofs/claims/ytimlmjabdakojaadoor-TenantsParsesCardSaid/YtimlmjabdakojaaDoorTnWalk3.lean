/- A tenant's line, and the tenant of a line. -/
import Derived.Test.YtimlmjabdakojaaDoorTnWalk1
import Derived.Test.YtimlmjabdakojaaDoorLater
import Derived.Test.YtimlmjabdakojaaDoorStore
import Derived.Test.YtimlmjabdakojaaDoorStWalk8
namespace Go.Proofs.YtimlmjabdakojaaDoor
open Go.RowKit
set_option linter.unusedVariables false
set_option linter.unusedSimpArgs false

theorem join58 (a b c d e : List UInt8) : Lib.join [a, b, c, d, e] [58] = a ++ 58 :: (b ++ 58 :: (c ++ 58 :: (d ++ 58 :: e))) := by
  rw [Lib.join_cons]
  simp [Lib.joinTail]
theorem dig_call (x : Int) (hx : St.okI x = true) (w : World) : Calls Tryd.prog 43 #[.int .i64 x] w fun r w' => r = .returned (.string (Fr.bs (St.dg x))) ∧ Below w.heap.size w w' := by
  have h2 : 0 ≤ x ∧ x ≤ 1099511627776 := of_decide_eq_true hx
  have e : x = ((x.toNat : Nat) : Int) := by omega
  have := digits_pos x.toNat (by omega) w
  rw [← e] at this
  exact this
theorem dg_len (x : Int) (hx : St.okI x = true) : (St.dg x).length ≤ 13 := by
  have h2 : 0 ≤ x ∧ x ≤ 1099511627776 := of_decide_eq_true hx
  exact St.digs_13 _ (by omega)
set_option maxRecDepth 100000 in
set_option maxHeartbeats 1600000 in
theorem line_walk (t : Tn.Ten) (hm : Tn.may t = true) (h1 : t.name.size ≤ 100000) (h2 : t.tok.size ≤ 100000) (w : World) : Calls Tryd.prog 30 #[.agg #[.string t.name, .string t.tok, .int .i64 t.mem, .int .i64 t.st, .int .i64 t.qu]] w fun r w' => r = .returned (.string (Fr.bs (Tn.lineL t))) ∧ Below w.heap.size w w' := by
  obtain ⟨_, _, o3, o4, o5, _⟩ := Tn.may_ok hm
  obtain ⟨na, tk, me, st, qu⟩ := t
  simp only at *
  have HD3 := Lib.hid (fun w => dig_call me o3 w); have HD4 := Lib.hid (fun w => dig_call st o4 w); have HD5 := Lib.hid (fun w => dig_call qu o5 w)
  have l3 := dg_len me o3; have l4 := dg_len st o4; have l5 := dg_len qu o5
  have e1 : na.data.toList.length = na.size := by simp
  have e2 : tk.data.toList.length = tk.size := by simp
  have HTX := Lib.hid (show (⟨(Lib.join ([na, tk, Fr.bs (St.dg me), Fr.bs (St.dg st), Fr.bs (St.dg qu)].map (·.data.toList)) [58]).toArray⟩ : ByteArray) = Fr.bs (Tn.lineL ⟨na, tk, me, st, qu⟩) by
    simp only [List.map_cons, List.map_nil, Fr.list_bs]
    rw [join58]; rfl)
  have HLn := Lib.hid (show (Lib.join ([na, tk, Fr.bs (St.dg me), Fr.bs (St.dg st), Fr.bs (St.dg qu)].map (·.data.toList)) [58]).length ≤ 140737488355328 by
    simp only [List.map_cons, List.map_nil, Fr.list_bs]
    rw [join58]
    simp only [List.length_append, List.length_cons]
    omega)
  generalize Fr.bs (Tn.lineL ⟨na, tk, me, st, qu⟩) = R at *
  clear o3 o4 o5 l3 l4 l5 e1 e2 hm h1 h2
  generalize Fr.bs (St.dg me) = C at *
  generalize Fr.bs (St.dg st) = D at *
  generalize Fr.bs (St.dg qu) = E at *
  go_enter Tryd.func30, Tryd.ntmps30
  go_upto_region 1 with (fail)
  have HP := Lib.hid (Has.new w #[.string na, .string tk, .int .i64 me, .int .i64 st, .int .i64 qu] 26)
  have HB := Lib.hid ((Below.refl w.heap.size w).alloc (Nat.le_refl _) (.cells #[.string na, .string tk, .int .i64 me, .int .i64 st, .int .i64 qu] 26))
  obtain ⟨q, hq⟩ : ∃ q, q = w.heap.size := ⟨_, rfl⟩
  rw [← hq] at HP
  rw [← hq]
  clear hq
  generalize w.alloc (.cells #[.string na, .string tk, .int .i64 me, .int .i64 st, .int .i64 qu] 26) = w1 at *
  have d0 : ∀ x : Later w1, x.at.cell? ⟨q, 0, none⟩ = some (.string na) := fun x => x.cell (HP.out.cell 0)
  have d1 : ∀ x : Later w1, x.at.cell? ⟨q, 1, none⟩ = some (.string tk) := fun x => x.cell (HP.out.cell 1)
  have d2 : ∀ x : Later w1, x.at.cell? ⟨q, 2, none⟩ = some (.int .i64 me) := fun x => x.cell (HP.out.cell 2)
  have d3 : ∀ x : Later w1, x.at.cell? ⟨q, 3, none⟩ = some (.int .i64 st) := fun x => x.cell (HP.out.cell 3)
  have d4 : ∀ x : Later w1, x.at.cell? ⟨q, 4, none⟩ = some (.int .i64 qu) := fun x => x.cell (HP.out.cell 4)
  have H3 := Lib.hid (fun x : Later w1 => later_call (x := x) (HD3.out x.at))
  have H4 := Lib.hid (fun x : Later w1 => later_call (x := x) (HD4.out x.at))
  have H5 := Lib.hid (fun x : Later w1 => later_call (x := x) (HD5.out x.at))
  refine region_later 13 (by kernel_rfl) (by kernel_rfl) ?_
  simp only [List.take_succ_cons, List.take_zero, List.drop_succ_cons, List.drop_zero]
  repeat (go_big_quiet_step ((first | (with_reducible exact H3.out _) | (with_reducible exact H4.out _) | (with_reducible exact H5.out _))))
  refine wpQuiet_nil ?_
  rintro w' ⟨x, rfl⟩
  have HB2 := Lib.hid (HB.out.trans (x.below.mono HB.out.size))
  clear d0 d1 d2 d3 d4 H3 H4 H5 HD3 HD4 HD5 HP HB
  generalize x.at = w2 at *
  have hh := Has.new w2 #[.string na, .string tk, .string C, .string D, .string E] 9
  have hj := Tryd.strings_Join w2.heap.size 0 5 [na, tk, C, D, E] ⟨#[58]⟩ (w2.alloc (.cells #[.string na, .string tk, .string C, .string D, .string E] 9)) (fun j x hj => by
    rw [Nat.zero_add, hh.cell j]
    have hjl : j < 5 := (List.getElem?_eq_some_iff.1 hj).1
    have : j = 0 ∨ j = 1 ∨ j = 2 ∨ j = 3 ∨ j = 4 := by omega
    rcases this with rfl | rfl | rfl | rfl | rfl <;> (cases hj; rfl)) hh.lt (by simp) (by simp) HLn.out
  rw [show ([na, tk, C, D, E] : List ByteArray).length = 5 from rfl] at hj
  have HJ := Lib.hid hj
  have HB3 := Lib.hid (HB2.out.alloc HB2.out.size (.cells #[.string na, .string tk, .string C, .string D, .string E] 9))
  clear hj hh HLn HB2
  go_wp2_with fail
  with_reducible refine HJ.out.mono ?_
  rintro r4 w4 ⟨rfl, hb4⟩
  have HB4 := Lib.hid (HB3.out.trans (hb4.mono HB3.out.size))
  clear hb4
  go_wp2
  go_ret
  exact ⟨ret_str HTX.out, HB4.out⟩
namespace Tn
def tenV (o : Option Ten) (t' : Ten) : Value := match o with
  | some t => .tuple #[.agg #[.string t.name, .string t.tok, .int .i64 t.mem, .int .i64 t.st, .int .i64 t.qu], .bool true]
  | none => .tuple #[.agg #[.string t'.name, .string t'.tok, .int .i64 t'.mem, .int .i64 t'.st, .int .i64 t'.qu], .bool false]
theorem parse_not (x : List UInt8) (h : (St.splitC 58 x).length ≠ 5) : parseLine x = none := by
  unfold parseLine
  split
  · rename_i e; rw [e] at h; exact absurd rfl h
  · rfl
theorem parse_five (x a b c d e : List UInt8) (h : St.splitC 58 x = [a, b, c, d, e]) : parseLine x = if may ⟨Fr.bs a, Fr.bs b, St.number c, St.number d, St.number e⟩ = true ∧ lineL ⟨Fr.bs a, Fr.bs b, St.number c, St.number d, St.number e⟩ = x then some ⟨Fr.bs a, Fr.bs b, St.number c, St.number d, St.number e⟩ else none := by
  unfold parseLine
  rw [h]
theorem split_le (c : UInt8) : ∀ (s : List UInt8), ∀ x ∈ St.splitC c s, x.length ≤ s.length
  | [], x, h => by
    rw [List.mem_singleton.1 h]; exact Nat.le_refl _
  | b :: l, x, h => by
    have ih := split_le c l
    have hne := St.splitC_ne c l
    unfold St.splitC at h
    cases hq : St.splitC c l with
    | nil => exact absurd hq hne
    | cons y q =>
      rw [hq] at ih h
      by_cases hb : b = c
      · rw [if_pos hb] at h
        rcases List.mem_cons.1 h with rfl | h
        · exact Nat.zero_le _
        · have := ih x h; rw [List.length_cons]; omega
      · rw [if_neg hb] at h
        rcases List.mem_cons.1 h with rfl | h
        · have := ih y (List.mem_cons_self ..)
          show y.length + 1 ≤ l.length + 1
          omega
        · have := ih x (List.mem_cons_of_mem _ h)
          rw [List.length_cons]; omega
end Tn
theorem tnnumber_bs (x : List UInt8) (w : World) : Calls Tryd.prog 45 #[.string (Fr.bs x)] w fun e w' => e = .returned (.int .i64 (St.number x)) ∧ Below w.heap.size w w' := by
  have h := tnnumber_walk (Fr.bs x) w
  rw [Fr.list_bs] at h
  exact h
set_option maxRecDepth 100000 in
set_option maxHeartbeats 3000000 in
theorem tenant_walk (s : ByteArray) (w : World) (hM : MaxL w) (hT : Tabs w) (hs : s.size ≤ 100000) : Calls Tryd.prog 33 #[.string s] w fun r w' => (∃ t', r = .returned (Tn.tenV (Tn.parseLine s.data.toList) t')) ∧ Below w.heap.size w w' := by
  have HM := Lib.hid hM
  have HT := Lib.hid hT
  clear hM hT
  have hspl := fun L hL w hM => split_walk41 s 58 L hL w hM (by omega)
  have hnot := Tn.parse_not s.data.toList
  have hfive := Tn.parse_five s.data.toList
  have hsm := Tn.split_le 58 s.data.toList
  rw [llen] at hsm
  generalize hL : St.splitC 58 s.data.toList = L at *
  have HSP := Lib.hid (fun w hM => hspl L rfl w hM)
  clear hspl hL
  have HR := Has.new w #[.string ⟨#[]⟩, .string ⟨#[]⟩, .int .i64 0, .int .i64 0, .int .i64 0] 26
  have HB := (Below.refl w.heap.size w).alloc (Nat.le_refl _) (.cells #[.string ⟨#[]⟩, .string ⟨#[]⟩, .int .i64 0, .int .i64 0, .int .i64 0] 26)
  by_cases h5 : L.length = 5
  · obtain ⟨x1, x2, x3, x4, x5, rfl⟩ : ∃ x1 x2 x3 x4 x5, L = [x1, x2, x3, x4, x5] := by
      match L, h5 with
      | [x1, x2, x3, x4, x5], _ => exact ⟨x1, x2, x3, x4, x5, rfl⟩
    have hp := hfive x1 x2 x3 x4 x5 rfl
    have k1 := hsm x1 (by simp)
    have k2 := hsm x2 (by simp)
    have b1 : (Fr.bs x1).size ≤ 100000 := by rw [← Fr.size_list, Fr.list_bs]; omega
    have b2 : (Fr.bs x2).size ≤ 100000 := by rw [← Fr.size_list, Fr.list_bs]; omega
    clear hfive hnot h5 hsm k1 k2
    have HMY := Lib.hid (fun w h => tnmay_walk ⟨Fr.bs x1, Fr.bs x2, St.number x3, St.number x4, St.number x5⟩ w h b1 b2)
    have HLN := Lib.hid (fun h w => line_walk ⟨Fr.bs x1, Fr.bs x2, St.number x3, St.number x4, St.number x5⟩ h b1 b2 w)
    have HN3 := Lib.hid (fun w => tnnumber_bs x3 w); have HN4 := Lib.hid (fun w => tnnumber_bs x4 w); have HN5 := Lib.hid (fun w => tnnumber_bs x5 w)
    simp only [List.map_cons, List.map_nil, List.length_cons, List.length_nil] at HSP
    generalize St.number x3 = c at *
    generalize St.number x4 = d at *
    generalize St.number x5 = e at *
    generalize Fr.bs x1 = A1 at *
    generalize Fr.bs x2 = A2 at *
    generalize Fr.bs x3 = A3 at *
    generalize Fr.bs x4 = A4 at *
    generalize Fr.bs x5 = A5 at *
    simp only at HMY HLN
    generalize Tn.parseLine s.data.toList = P at *
    have HP := Lib.hid hp
    clear hp b1 b2
    go_enter Tryd.func33, Tryd.ntmps33
    go_upto_region 1 with (fail)
    have HM1 := Lib.hid (HM.out.keep HB)
    obtain ⟨q, hq⟩ : ∃ q, q = w.heap.size := ⟨_, rfl⟩
    rw [← hq] at HR
    rw [← hq]
    have hqw : w.heap.size ≤ q := by omega
    clear hq HM
    generalize w.alloc (.cells #[.string ⟨#[]⟩, .string ⟨#[]⟩, .int .i64 0, .int .i64 0, .int .i64 0] 26) = w1 at *
    have HRh := Lib.hid HR
    have HBh := Lib.hid HB
    clear HR HB
    go_wp2_with fail
    (with_reducible refine (HSP.out _ HM1.out).mono ?_)
    rintro r2 w2 ⟨rfl, hw2⟩
    have hS := Has.new w1 #[.string A1, .string A2, .string A3, .string A4, .string A5] 9
    have hR2 := HRh.out.alloc (.cells #[.string A1, .string A2, .string A3, .string A4, .string A5] 9)
    have hB2 := HBh.out.alloc HBh.out.size (.cells #[.string A1, .string A2, .string A3, .string A4, .string A5] 9)
    rw [← hw2] at hS hR2 hB2
    have hqs : q ≠ w1.heap.size := Nat.ne_of_lt HRh.out.lt
    generalize w1.heap.size = sq at *
    have HS2 := Lib.hid hS; have HR2 := Lib.hid hR2; have HB2 := Lib.hid hB2
    clear hw2 hS hR2 hB2 HM1 HRh HBh HSP
    go_upto_region 4 with (fail)
    apply Quiet.region_make 19 5 (Psi := fun x w' => ∃ r, x = .pointer (some ⟨r, 0, none⟩) ∧ w2.heap.size ≤ r ∧ Has w' r #[.string ⟨#[]⟩, .string ⟨#[]⟩, .int .i64 0, .int .i64 0, .int .i64 0] 26) (by kernel_rfl) (by kernel_rfl) (by kernel_rfl)
    case H1 =>
      intro wb hwb
      have d0 : ∀ x : Later wb, x.at.cell? ⟨sq, 0, none⟩ = some (.string A1) := fun x => x.cell ((Later.mk hwb).cell (HS2.out.cell 0))
      have d1 : ∀ x : Later wb, x.at.cell? ⟨sq, 1, none⟩ = some (.string A2) := fun x => x.cell ((Later.mk hwb).cell (HS2.out.cell 1))
      have d2 : ∀ x : Later wb, x.at.cell? ⟨sq, 2, none⟩ = some (.string A3) := fun x => x.cell ((Later.mk hwb).cell (HS2.out.cell 2))
      have d3 : ∀ x : Later wb, x.at.cell? ⟨sq, 3, none⟩ = some (.string A4) := fun x => x.cell ((Later.mk hwb).cell (HS2.out.cell 3))
      have d4 : ∀ x : Later wb, x.at.cell? ⟨sq, 4, none⟩ = some (.string A5) := fun x => x.cell ((Later.mk hwb).cell (HS2.out.cell 4))
      have H3 := Lib.hid (fun x : Later wb => later_call (x := x) (HN3.out x.at))
      have H4 := Lib.hid (fun x : Later wb => later_call (x := x) (HN4.out x.at))
      have H5 := Lib.hid (fun x : Later wb => later_call (x := x) (HN5.out x.at))
      show wpQuiet _ _ (fun w' => ∃ x : Later wb, w' = x.at) _ _ _
      simp only [List.take_succ_cons, List.take_zero]
      repeat (go_big_quiet_step (first | (with_reducible exact H3.out _) | (with_reducible exact H4.out _) | (with_reducible exact H5.out _)))
      exact rfl
    case make =>
      intro o ho wa hwa
      obtain rfl := Option.some.inj ho
      refine ⟨.pointer (some ⟨wa.heap.size, 0, none⟩), wa.alloc (.cells #[.string ⟨#[]⟩, .string ⟨#[]⟩, .int .i64 0, .int .i64 0, .int .i64 0] 26), ?_, ?_, ⟨wa.heap.size, rfl, hwa.size, Has.new wa _ _⟩⟩
      · kernel_rfl
      · exact (Below.refl _ _).alloc (Nat.le_refl _) _
    case mono =>
      rintro x wa wb ⟨r, hx, hr, hh⟩ hwb
      exact ⟨r, hx, hr, Has.below hh hwb (Has.lt hh)⟩
    rintro x w3 hl3 ⟨r, rfl, hr1, hh⟩
    simp only [List.drop_succ_cons, List.drop_zero, Act.put, List.setIfInBounds_toArray, List.set_cons_succ, List.set_cons_zero]
    have hR3 := HR2.out.below hl3 HR2.out.lt
    have hB3 := HB2.out.trans (hl3.mono HB2.out.size)
    have hqr : q ≠ r := by have := HR2.out.lt; omega
    have hwr : w.heap.size ≤ r := by have := HB2.out.size; omega
    have HF3 := Lib.hid hh; have HR3 := Lib.hid hR3; have HB3 := Lib.hid hB3
    clear HR2 HB2 HS2 hl3 hh hR3 hB3 HN3 HN4 HN5 hr1 hqs
    have z0 := HF3.out.cell 0; have z1 := HF3.out.cell 1; have z2 := HF3.out.cell 2; have z3 := HF3.out.cell 3; have z4 := HF3.out.cell 4
    have y0 := HF3.out.free 0; have y1 := HF3.out.free 1; have y2 := HF3.out.free 2; have y3 := HF3.out.free 3; have y4 := HF3.out.free 4
    simp only [List.getElem?_toArray, List.getElem?_cons_zero, List.getElem?_cons_succ] at z0 z1 z2 z3 z4
    go_upto_region 5 with (fail)
    have HF4 := Lib.hid (fset5 HF3.out (.string A1) (.string A2) (.int .i64 c) (.int .i64 d) (.int .i64 e))
    have HR4 := Lib.hid (oset5 HR3.out hqr (.string A1) (.string A2) (.int .i64 c) (.int .i64 d) (.int .i64 e))
    have HB4 := Lib.hid (bset5 HB3.out hwr (.string A1) (.string A2) (.int .i64 c) (.int .i64 d) (.int .i64 e))
    clear z0 z1 z2 z3 z4 y0 y1 y2 y3 y4 HF3 HR3 HB3
    generalize ((((w3.setCell ⟨r, 0, none⟩ (.string A1)).setCell ⟨r, 1, none⟩ (.string A2)).setCell ⟨r, 2, none⟩ (.int .i64 c)).setCell ⟨r, 3, none⟩ (.int .i64 d)).setCell ⟨r, 4, none⟩ (.int .i64 e) = w4 at *
    by_cases hm : Tn.may ⟨A1, A2, c, d, e⟩ = true
    · have HL := Lib.hid (fun w => HLN.out hm w)
      rw [hm] at HMY
      by_cases ht : Tn.lineL ⟨A1, A2, c, d, e⟩ = s.data.toList
      · have HV := Lib.hid (show P = some ⟨A1, A2, c, d, e⟩ by rw [HP.out, if_pos ⟨hm, ht⟩])
        have hse : Fr.bs (Tn.lineL ⟨A1, A2, c, d, e⟩) = s := by rw [ht, Fr.bs_list]
        rw [hse] at HL
        clear HLN HP hm ht hse
        have hst : (s.toList == s.toList) = true := by simp
        apply Quiet.region_store 9 (R0 := fun x => (Below w.heap.size w x ∧ Has x r #[.string A1, .string A2, .int .i64 c, .int .i64 d, .int .i64 e] 26) ∧ Has x q #[.string ⟨#[]⟩, .string ⟨#[]⟩, .int .i64 0, .int .i64 0, .int .i64 0] 26) (Psi := fun x => (Below w.heap.size w x ∧ Has x r #[.string A1, .string A2, .int .i64 c, .int .i64 d, .int .i64 e] 26) ∧ Has x q #[.string A1, .string A2, .int .i64 c, .int .i64 d, .int .i64 e] 26) (by kernel_rfl) (by kernel_rfl) (by kernel_rfl) ⟨⟨HB4.out, HF4.out⟩, HR4.out⟩
        case H1 =>
          intro wb hwb
          have hG : Below w.heap.size w wb ∧ Has wb r #[.string A1, .string A2, .int .i64 c, .int .i64 d, .int .i64 e] 26 := by
            rcases hwb with h | h <;> exact h.1
          have q0 : ∀ x : Later wb, x.at.cell? ⟨r, 0, none⟩ = some (.string A1) := fun x => x.cell (hG.2.cell 0)
          have q1 : ∀ x : Later wb, x.at.cell? ⟨r, 1, none⟩ = some (.string A2) := fun x => x.cell (hG.2.cell 1)
          have q2 : ∀ x : Later wb, x.at.cell? ⟨r, 2, none⟩ = some (.int .i64 c) := fun x => x.cell (hG.2.cell 2)
          have q3 : ∀ x : Later wb, x.at.cell? ⟨r, 3, none⟩ = some (.int .i64 d) := fun x => x.cell (hG.2.cell 3)
          have q4 : ∀ x : Later wb, x.at.cell? ⟨r, 4, none⟩ = some (.int .i64 e) := fun x => x.cell (hG.2.cell 4)
          have HY1 := Lib.hid (fun x : Later wb => later_call (x := x) (HMY.out x.at ((HT.out.keep hG.1).keep x.below)))
          have HY2 := Lib.hid (fun x : Later wb => later_call (x := x) (HL.out x.at))
          show wpQuiet _ _ (fun w' => ∃ x : Later wb, w' = x.at) _ _ _
          simp only [List.take_succ_cons, List.take_zero]
          repeat (go_big_quiet_step (first | (with_reducible exact HY1.out _) | (with_reducible exact HY2.out _)))
          exact rfl
        case make =>
          rintro o ho w1 ⟨⟨hb1, hr1⟩, hq1⟩
          obtain rfl := Option.some.inj ho
          have z0 := hq1.cell 0; have z1 := hq1.cell 1; have z2 := hq1.cell 2; have z3 := hq1.cell 3; have z4 := hq1.cell 4
          have f0 := hq1.free 0; have f1 := hq1.free 1; have f2 := hq1.free 2; have f3 := hq1.free 3; have f4 := hq1.free 4
          simp only [List.getElem?_toArray, List.getElem?_cons_zero, List.getElem?_cons_succ] at z0 z1 z2 z3 z4
          refine ⟨_, ?_, ⟨bset5 hb1 hqw (.string A1) (.string A2) (.int .i64 c) (.int .i64 d) (.int .i64 e), oset5 hr1 (Ne.symm hqr) (.string A1) (.string A2) (.int .i64 c) (.int .i64 d) (.int .i64 e)⟩, fset5 hq1 (.string A1) (.string A2) (.int .i64 c) (.int .i64 d) (.int .i64 e)⟩
          clear hq1 hr1 hb1
          go_simp
        case mono0 =>
          rintro w1 w2 ⟨⟨hb1, hr1⟩, hq1⟩ h12
          exact ⟨⟨hb1.trans (h12.mono hb1.size), Has.below hr1 h12 hr1.lt⟩, Has.below hq1 h12 hq1.lt⟩
        case mono =>
          rintro w1 w2 ⟨⟨hb1, hr1⟩, hq1⟩ h12
          exact ⟨⟨hb1.trans (h12.mono hb1.size), Has.below hr1 h12 hr1.lt⟩, Has.below hq1 h12 hq1.lt⟩
        rintro w5 ⟨⟨hb1, hr1⟩, hq1⟩
        simp only [List.drop_succ_cons, List.drop_zero]
        have p0 := hq1.cell 0; have p1 := hq1.cell 1; have p2 := hq1.cell 2; have p3 := hq1.cell 3; have p4 := hq1.cell 4
        simp only [List.getElem?_toArray, List.getElem?_cons_zero, List.getElem?_cons_succ] at p0 p1 p2 p3 p4
        have HBX := Lib.hid hb1
        clear hb1 hr1 hq1
        go_wp2
        ((try simp only [Exit.inBlock, Exit.then]); refine bodyPost_ret (v := (.tuple #[.agg #[.string A1, .string A2, .int .i64 c, .int .i64 d, .int .i64 e], .bool true])) ?_ rfl ⟨?_, ?_⟩; (rw [results_cell_tmp1 rfl]; go_simp))
        · exact ⟨⟨A1, A2, c, d, e⟩, by rw [HV.out]; rfl⟩
        · exact HBX.out
      · have HV := Lib.hid (show P = none by rw [HP.out, if_neg (fun h => ht h.2)])
        have hbb := tstr_ne (a := Fr.bs (Tn.lineL ⟨A1, A2, c, d, e⟩)) (b := s) (fun h => ht (by rw [← h, Fr.list_bs]))
        generalize Fr.bs (Tn.lineL ⟨A1, A2, c, d, e⟩) = X at *
        clear HLN HP hm ht
        apply Quiet.region_store 9 (R0 := fun x => (Below w.heap.size w x ∧ Has x r #[.string A1, .string A2, .int .i64 c, .int .i64 d, .int .i64 e] 26) ∧ Has x q #[.string ⟨#[]⟩, .string ⟨#[]⟩, .int .i64 0, .int .i64 0, .int .i64 0] 26) (Psi := fun x => (Below w.heap.size w x ∧ Has x r #[.string A1, .string A2, .int .i64 c, .int .i64 d, .int .i64 e] 26) ∧ Has x q #[.string A1, .string A2, .int .i64 c, .int .i64 d, .int .i64 e] 26) (by kernel_rfl) (by kernel_rfl) (by kernel_rfl) ⟨⟨HB4.out, HF4.out⟩, HR4.out⟩
        case H1 =>
          intro wb hwb
          have hG : Below w.heap.size w wb ∧ Has wb r #[.string A1, .string A2, .int .i64 c, .int .i64 d, .int .i64 e] 26 := by
            rcases hwb with h | h <;> exact h.1
          have q0 : ∀ x : Later wb, x.at.cell? ⟨r, 0, none⟩ = some (.string A1) := fun x => x.cell (hG.2.cell 0)
          have q1 : ∀ x : Later wb, x.at.cell? ⟨r, 1, none⟩ = some (.string A2) := fun x => x.cell (hG.2.cell 1)
          have q2 : ∀ x : Later wb, x.at.cell? ⟨r, 2, none⟩ = some (.int .i64 c) := fun x => x.cell (hG.2.cell 2)
          have q3 : ∀ x : Later wb, x.at.cell? ⟨r, 3, none⟩ = some (.int .i64 d) := fun x => x.cell (hG.2.cell 3)
          have q4 : ∀ x : Later wb, x.at.cell? ⟨r, 4, none⟩ = some (.int .i64 e) := fun x => x.cell (hG.2.cell 4)
          have HY1 := Lib.hid (fun x : Later wb => later_call (x := x) (HMY.out x.at ((HT.out.keep hG.1).keep x.below)))
          have HY2 := Lib.hid (fun x : Later wb => later_call (x := x) (HL.out x.at))
          show wpQuiet _ _ (fun w' => ∃ x : Later wb, w' = x.at) _ _ _
          simp only [List.take_succ_cons, List.take_zero]
          repeat (go_big_quiet_step (first | (with_reducible exact HY1.out _) | (with_reducible exact HY2.out _)))
          exact rfl
        case make =>
          rintro o ho w1 ⟨⟨hb1, hr1⟩, hq1⟩
          obtain rfl := Option.some.inj ho
          have z0 := hq1.cell 0; have z1 := hq1.cell 1; have z2 := hq1.cell 2; have z3 := hq1.cell 3; have z4 := hq1.cell 4
          have f0 := hq1.free 0; have f1 := hq1.free 1; have f2 := hq1.free 2; have f3 := hq1.free 3; have f4 := hq1.free 4
          simp only [List.getElem?_toArray, List.getElem?_cons_zero, List.getElem?_cons_succ] at z0 z1 z2 z3 z4
          refine ⟨_, ?_, ⟨bset5 hb1 hqw (.string A1) (.string A2) (.int .i64 c) (.int .i64 d) (.int .i64 e), oset5 hr1 (Ne.symm hqr) (.string A1) (.string A2) (.int .i64 c) (.int .i64 d) (.int .i64 e)⟩, fset5 hq1 (.string A1) (.string A2) (.int .i64 c) (.int .i64 d) (.int .i64 e)⟩
          clear hq1 hr1 hb1
          go_simp
        case mono0 =>
          rintro w1 w2 ⟨⟨hb1, hr1⟩, hq1⟩ h12
          exact ⟨⟨hb1.trans (h12.mono hb1.size), Has.below hr1 h12 hr1.lt⟩, Has.below hq1 h12 hq1.lt⟩
        case mono =>
          rintro w1 w2 ⟨⟨hb1, hr1⟩, hq1⟩ h12
          exact ⟨⟨hb1.trans (h12.mono hb1.size), Has.below hr1 h12 hr1.lt⟩, Has.below hq1 h12 hq1.lt⟩
        rintro w5 ⟨⟨hb1, hr1⟩, hq1⟩
        simp only [List.drop_succ_cons, List.drop_zero]
        have p0 := hq1.cell 0; have p1 := hq1.cell 1; have p2 := hq1.cell 2; have p3 := hq1.cell 3; have p4 := hq1.cell 4
        simp only [List.getElem?_toArray, List.getElem?_cons_zero, List.getElem?_cons_succ] at p0 p1 p2 p3 p4
        have HBX := Lib.hid hb1
        clear hb1 hr1 hq1
        go_wp2
        ((try simp only [Exit.inBlock, Exit.then]); refine bodyPost_ret (v := (.tuple #[.agg #[.string A1, .string A2, .int .i64 c, .int .i64 d, .int .i64 e], .bool false])) ?_ rfl ⟨?_, ?_⟩; (rw [results_cell_tmp1 rfl]; go_simp))
        · exact ⟨⟨A1, A2, c, d, e⟩, by rw [HV.out]; rfl⟩
        · exact HBX.out
    · have HV := Lib.hid (show P = none by rw [HP.out, if_neg (fun h => hm h.1)])
      have hm2 : Tn.may ⟨A1, A2, c, d, e⟩ = false := by simpa using hm
      rw [hm2] at HMY
      clear HLN HP hm hm2
      apply Quiet.region_store 9 (R0 := fun x => (Below w.heap.size w x ∧ Has x r #[.string A1, .string A2, .int .i64 c, .int .i64 d, .int .i64 e] 26) ∧ Has x q #[.string ⟨#[]⟩, .string ⟨#[]⟩, .int .i64 0, .int .i64 0, .int .i64 0] 26) (Psi := fun x => (Below w.heap.size w x ∧ Has x r #[.string A1, .string A2, .int .i64 c, .int .i64 d, .int .i64 e] 26) ∧ Has x q #[.string A1, .string A2, .int .i64 c, .int .i64 d, .int .i64 e] 26) (by kernel_rfl) (by kernel_rfl) (by kernel_rfl) ⟨⟨HB4.out, HF4.out⟩, HR4.out⟩
      case H1 =>
        intro wb hwb
        have hG : Below w.heap.size w wb ∧ Has wb r #[.string A1, .string A2, .int .i64 c, .int .i64 d, .int .i64 e] 26 := by
          rcases hwb with h | h <;> exact h.1
        have q0 : ∀ x : Later wb, x.at.cell? ⟨r, 0, none⟩ = some (.string A1) := fun x => x.cell (hG.2.cell 0)
        have q1 : ∀ x : Later wb, x.at.cell? ⟨r, 1, none⟩ = some (.string A2) := fun x => x.cell (hG.2.cell 1)
        have q2 : ∀ x : Later wb, x.at.cell? ⟨r, 2, none⟩ = some (.int .i64 c) := fun x => x.cell (hG.2.cell 2)
        have q3 : ∀ x : Later wb, x.at.cell? ⟨r, 3, none⟩ = some (.int .i64 d) := fun x => x.cell (hG.2.cell 3)
        have q4 : ∀ x : Later wb, x.at.cell? ⟨r, 4, none⟩ = some (.int .i64 e) := fun x => x.cell (hG.2.cell 4)
        have HY1 := Lib.hid (fun x : Later wb => later_call (x := x) (HMY.out x.at ((HT.out.keep hG.1).keep x.below)))
        skip
        show wpQuiet _ _ (fun w' => ∃ x : Later wb, w' = x.at) _ _ _
        simp only [List.take_succ_cons, List.take_zero]
        repeat (go_big_quiet_step (with_reducible exact HY1.out _))
        exact rfl
      case make =>
        rintro o ho w1 ⟨⟨hb1, hr1⟩, hq1⟩
        obtain rfl := Option.some.inj ho
        have z0 := hq1.cell 0; have z1 := hq1.cell 1; have z2 := hq1.cell 2; have z3 := hq1.cell 3; have z4 := hq1.cell 4
        have f0 := hq1.free 0; have f1 := hq1.free 1; have f2 := hq1.free 2; have f3 := hq1.free 3; have f4 := hq1.free 4
        simp only [List.getElem?_toArray, List.getElem?_cons_zero, List.getElem?_cons_succ] at z0 z1 z2 z3 z4
        refine ⟨_, ?_, ⟨bset5 hb1 hqw (.string A1) (.string A2) (.int .i64 c) (.int .i64 d) (.int .i64 e), oset5 hr1 (Ne.symm hqr) (.string A1) (.string A2) (.int .i64 c) (.int .i64 d) (.int .i64 e)⟩, fset5 hq1 (.string A1) (.string A2) (.int .i64 c) (.int .i64 d) (.int .i64 e)⟩
        clear hq1 hr1 hb1
        go_simp
      case mono0 =>
        rintro w1 w2 ⟨⟨hb1, hr1⟩, hq1⟩ h12
        exact ⟨⟨hb1.trans (h12.mono hb1.size), Has.below hr1 h12 hr1.lt⟩, Has.below hq1 h12 hq1.lt⟩
      case mono =>
        rintro w1 w2 ⟨⟨hb1, hr1⟩, hq1⟩ h12
        exact ⟨⟨hb1.trans (h12.mono hb1.size), Has.below hr1 h12 hr1.lt⟩, Has.below hq1 h12 hq1.lt⟩
      rintro w5 ⟨⟨hb1, hr1⟩, hq1⟩
      simp only [List.drop_succ_cons, List.drop_zero]
      have p0 := hq1.cell 0; have p1 := hq1.cell 1; have p2 := hq1.cell 2; have p3 := hq1.cell 3; have p4 := hq1.cell 4
      simp only [List.getElem?_toArray, List.getElem?_cons_zero, List.getElem?_cons_succ] at p0 p1 p2 p3 p4
      have HBX := Lib.hid hb1
      clear hb1 hr1 hq1
      go_wp2
      ((try simp only [Exit.inBlock, Exit.then]); refine bodyPost_ret (v := (.tuple #[.agg #[.string A1, .string A2, .int .i64 c, .int .i64 d, .int .i64 e], .bool false])) ?_ rfl ⟨?_, ?_⟩; (rw [results_cell_tmp1 rfl]; go_simp))
      · exact ⟨⟨A1, A2, c, d, e⟩, by rw [HV.out]; rfl⟩
      · exact HBX.out
  · have HV := Lib.hid (hnot h5)
    clear hnot hfive hsm
    generalize L.length = m at *
    have h5' : ((m : Int) == 5) = false := by simp; omega
    have h5n : ¬ (m : Int) = 5 := by omega
    clear h5
    go_enter Tryd.func33, Tryd.ntmps33
    go_upto_region 1 with (fail)
    have HM1 := Lib.hid (HM.out.keep HB)
    obtain ⟨q, hq⟩ : ∃ q, q = w.heap.size := ⟨_, rfl⟩
    rw [← hq] at HR
    rw [← hq]
    have hqw : w.heap.size ≤ q := by omega
    clear hq HM
    generalize w.alloc (.cells #[.string ⟨#[]⟩, .string ⟨#[]⟩, .int .i64 0, .int .i64 0, .int .i64 0] 26) = w1 at *
    have HRh := Lib.hid HR
    have HBh := Lib.hid HB
    clear HR HB
    go_wp2_with fail
    (with_reducible refine (HSP.out _ HM1.out).mono ?_)
    rintro r2 w2 ⟨rfl, hw2⟩
    generalize (L.map fun x => Value.string (Fr.bs x)).toArray = CS at *
    have hR2 := HRh.out.alloc (.cells CS 9)
    have hB2 := HBh.out.alloc HBh.out.size (.cells CS 9)
    rw [← hw2] at hR2 hB2
    have HR := Lib.hid hR2; have HB2 := Lib.hid hB2
    clear hw2 hR2 hB2 HM1 HRh HBh HSP
    have z0 := HR.out.cell 0; have z1 := HR.out.cell 1; have z2 := HR.out.cell 2; have z3 := HR.out.cell 3; have z4 := HR.out.cell 4
    have f0 := HR.out.free 0; have f1 := HR.out.free 1; have f2 := HR.out.free 2; have f3 := HR.out.free 3; have f4 := HR.out.free 4
    simp only [List.getElem?_toArray, List.getElem?_cons_zero, List.getElem?_cons_succ] at z0 z1 z2 z3 z4
    have hlt := HR.out.lt
    go_wp2
    ((try simp only [Exit.inBlock, Exit.then]); refine bodyPost_ret (v := (.tuple #[.agg #[.string ⟨#[]⟩, .string ⟨#[]⟩, .int .i64 0, .int .i64 0, .int .i64 0], .bool false])) ?_ rfl ⟨?_, ?_⟩; (rw [results_cell_tmp1 rfl]; go_simp))
    · exact ⟨⟨⟨#[]⟩, ⟨#[]⟩, 0, 0, 0⟩, by rw [HV.out]; rfl⟩
    · exact bset5 HB2.out hqw _ _ _ _ _
end Go.Proofs.YtimlmjabdakojaaDoor
