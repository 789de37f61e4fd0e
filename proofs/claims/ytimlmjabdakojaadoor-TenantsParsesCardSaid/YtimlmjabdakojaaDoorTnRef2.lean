/- The reference: a line, a text, the same tenants. -/
import Derived.Test.YtimlmjabdakojaaDoorTnRef1
namespace Go.Proofs.YtimlmjabdakojaaDoor
open Go.RowKit
set_option linter.unusedVariables false
set_option linter.unusedSimpArgs false

theorem refdig_call (x : Int) (hx : St.okI x = true) (w : World) : Calls Tryd.prog 46 #[.int .i64 x] w fun r w' => r = .returned (.string (Fr.bs (St.dg x))) ∧ Below w.heap.size w w' := by
  have h2 : 0 ≤ x ∧ x ≤ 1099511627776 := of_decide_eq_true hx
  have e : x = ((x.toNat : Nat) : Int) := by omega
  have := refdigits_pos x.toNat (by omega) w
  rw [← e] at this
  exact this
set_option maxRecDepth 100000 in
set_option maxHeartbeats 2000000 in
theorem refline_walk (t : Tn.Ten) (hm : Tn.may t = true) (h1 : t.name.size ≤ 100000) (h2 : t.tok.size ≤ 100000) (w : World) : Calls Tryd.prog 34 #[.agg #[.string t.name, .string t.tok, .int .i64 t.mem, .int .i64 t.st, .int .i64 t.qu]] w fun r w' => r = .returned (.string (Fr.bs (Tn.lineL t))) ∧ Below w.heap.size w w' := by
  obtain ⟨_, _, o3, o4, o5, _⟩ := Tn.may_ok hm
  obtain ⟨na, tk, me, st, qu⟩ := t
  simp only at *
  have HD3 := Lib.hid (fun w => refdig_call me o3 w); have HD4 := Lib.hid (fun w => refdig_call st o4 w); have HD5 := Lib.hid (fun w => refdig_call qu o5 w)
  have l3 := dg_len me o3; have l4 := dg_len st o4; have l5 := dg_len qu o5
  have s3 : (Fr.bs (St.dg me)).size ≤ 13 := by rw [← Fr.size_list, Fr.list_bs]; exact l3
  have s4 : (Fr.bs (St.dg st)).size ≤ 13 := by rw [← Fr.size_list, Fr.list_bs]; exact l4
  have s5 : (Fr.bs (St.dg qu)).size ≤ 13 := by rw [← Fr.size_list, Fr.list_bs]; exact l5
  have HTX := Lib.hid (show na ++ (⟨#[58]⟩ : ByteArray) ++ tk ++ (⟨#[58]⟩ : ByteArray) ++ Fr.bs (St.dg me) ++ (⟨#[58]⟩ : ByteArray) ++ Fr.bs (St.dg st) ++ (⟨#[58]⟩ : ByteArray) ++ Fr.bs (St.dg qu) = Fr.bs (Tn.lineL ⟨na, tk, me, st, qu⟩) by
    have e1 : na = Fr.bs na.data.toList := (Fr.bs_list na).symm
    have e2 : tk = Fr.bs tk.data.toList := (Fr.bs_list tk).symm
    rw [show (⟨#[58]⟩ : ByteArray) = Fr.bs [58] from rfl]
    rw [e1, e2]
    simp only [bs_app, Fr.list_bs]
    unfold Tn.lineL
    simp only [Fr.list_bs]
    congr 1
    simp)
  generalize Fr.bs (Tn.lineL ⟨na, tk, me, st, qu⟩) = R at *
  clear o3 o4 o5 l3 l4 l5 hm
  generalize Fr.bs (St.dg me) = C at *
  generalize Fr.bs (St.dg st) = D at *
  generalize Fr.bs (St.dg qu) = E at *
  have s1 : (⟨#[58]⟩ : ByteArray).size = 1 := rfl
  have k1 : ¬ 9223372036854775807 < na.size + (⟨#[58]⟩ : ByteArray).size := by omega
  generalize hX1 : na ++ (⟨#[58]⟩ : ByteArray) = X1 at *
  have z1 : X1.size ≤ 100001 := by rw [← hX1, ByteArray.size_append]; omega
  have k2 : ¬ 9223372036854775807 < X1.size + tk.size := by omega
  generalize hX2 : X1 ++ tk = X2 at *
  have z2 : X2.size ≤ 200001 := by rw [← hX2, ByteArray.size_append]; omega
  have k3 : ¬ 9223372036854775807 < X2.size + (⟨#[58]⟩ : ByteArray).size := by omega
  generalize hX3 : X2 ++ (⟨#[58]⟩ : ByteArray) = X3 at *
  have z3 : X3.size ≤ 200002 := by rw [← hX3, ByteArray.size_append]; omega
  have k4 : ¬ 9223372036854775807 < X3.size + C.size := by omega
  generalize hX4 : X3 ++ C = X4 at *
  have z4 : X4.size ≤ 200015 := by rw [← hX4, ByteArray.size_append]; omega
  have k5 : ¬ 9223372036854775807 < X4.size + (⟨#[58]⟩ : ByteArray).size := by omega
  generalize hX5 : X4 ++ (⟨#[58]⟩ : ByteArray) = X5 at *
  have z5 : X5.size ≤ 200016 := by rw [← hX5, ByteArray.size_append]; omega
  have k6 : ¬ 9223372036854775807 < X5.size + D.size := by omega
  generalize hX6 : X5 ++ D = X6 at *
  have z6 : X6.size ≤ 200029 := by rw [← hX6, ByteArray.size_append]; omega
  have k7 : ¬ 9223372036854775807 < X6.size + (⟨#[58]⟩ : ByteArray).size := by omega
  generalize hX7 : X6 ++ (⟨#[58]⟩ : ByteArray) = X7 at *
  have z7 : X7.size ≤ 200030 := by rw [← hX7, ByteArray.size_append]; omega
  have k8 : ¬ 9223372036854775807 < X7.size + E.size := by omega
  have hX8 := HTX.out
  clear z1 z2 z3 z4 z5 z6 z7 s1 s3 s4 s5 h1 h2 HTX
  go_enter Tryd.func34, Tryd.ntmps34
  go_upto_region 1 with (fail)
  have HP := Lib.hid (Has.new w #[.string na, .string tk, .int .i64 me, .int .i64 st, .int .i64 qu] 26)
  have HB := Lib.hid ((Below.refl w.heap.size w).alloc (Nat.le_refl _) (.cells #[.string na, .string tk, .int .i64 me, .int .i64 st, .int .i64 qu] 26))
  obtain ⟨q, hq⟩ : ∃ q, q = w.heap.size := ⟨_, rfl⟩
  rw [← hq] at HP
  rw [← hq]
  clear hq
  generalize w.alloc (.cells #[.string na, .string tk, .int .i64 me, .int .i64 st, .int .i64 qu] 26) = w1 at *
  have d0 : ∀ x : Later w1, x.at.cell? ⟨q, 0, none⟩ = some (.string na) := fun x => x.cell (HP.out.cell 0)
  have d1 : ∀ x : Later w1, x.at.cell? ⟨q, 1, none⟩ = some (.string tk) := fun x => x.cell (HP.out.cell 1)
  have d2 : ∀ x : Later w1, x.at.cell? ⟨q, 2, none⟩ = some (.int .i64 me) := fun x => x.cell (HP.out.cell 2)
  have d3 : ∀ x : Later w1, x.at.cell? ⟨q, 3, none⟩ = some (.int .i64 st) := fun x => x.cell (HP.out.cell 3)
  have d4 : ∀ x : Later w1, x.at.cell? ⟨q, 4, none⟩ = some (.int .i64 qu) := fun x => x.cell (HP.out.cell 4)
  have H3 := Lib.hid (fun x : Later w1 => later_call (x := x) (HD3.out x.at))
  have H4 := Lib.hid (fun x : Later w1 => later_call (x := x) (HD4.out x.at))
  have H5 := Lib.hid (fun x : Later w1 => later_call (x := x) (HD5.out x.at))
  refine region_later 22 (by kernel_rfl) (by kernel_rfl) ?_
  simp only [List.take_succ_cons, List.take_zero, List.drop_succ_cons, List.drop_zero]
  repeat (go_big_quiet_step ((first | (with_reducible exact H3.out _) | (with_reducible exact H4.out _) | (with_reducible exact H5.out _))))
  refine wpQuiet_nil ?_
  rintro w' ⟨x, rfl⟩
  have HB2 := Lib.hid (HB.out.trans (x.below.mono HB.out.size))
  clear d0 d1 d2 d3 d4 H3 H4 H5
  generalize x.at = w2 at *
  go_wp2
  go_ret
  exact ⟨by first | rfl | simp [hX8], HB2.out⟩
set_option maxRecDepth 100000 in
set_option maxHeartbeats 2000000 in
theorem tnreftext_walk (l : List Tn.Ten) (a : Option Addr) (len cap : Nat) (w : World) (hl : l.length = len) (hr : RowS w 5 a len cap (l.flatMap tncells)) (h100 : len ≤ 1000) (hz : tnSmall l) (hm : ∀ t ∈ l, Tn.may t = true) :
    Calls Tryd.prog 18 #[.slice a len cap] w fun r w' => r = .returned (.string (Fr.bs (Tn.textL l))) ∧ Below w.heap.size w w' := by
  have HR := Lib.hid hr
  have HSP := Lib.hid (fun k (h : k < l.length) => show Tn.textL (l.take (k + 1)) = Tn.textL (l.take k) ++ (Tn.lineL l[k] ++ [10]) by
    unfold Tn.textL
    rw [List.take_add_one, List.getElem?_eq_getElem h, List.flatMap_append]
    simp)
  have HZ := Lib.hid (fun k (h : k < l.length) => hz l[k] (List.getElem_mem h))
  have HMY := Lib.hid (fun k (h : k < l.length) => hm l[k] (List.getElem_mem h))
  have HE := Lib.hid (show Tn.textL (l.take l.length) = Tn.textL l by rw [List.take_length])
  generalize Tn.textL l = TX at *
  subst hl
  clear hr hz hm
  go_enter Tryd.func18, Tryd.ntmps18
  go_wp2_with fail
  go_loopw [3, 8] (fun v i wr => ∃ (k : Nat), k ≤ l.length ∧ i = .int .i64 k ∧ v = .string (Fr.bs (Tn.textL (l.take k))) ∧ (Tn.textL (l.take k)).length ≤ k * 400000 ∧ Below w.heap.size w wr) (fun _ i _ => l.length - (intOf i).toNat)
  case atStart => exact ⟨0, Nat.zero_le _, rfl, rfl, by simp [Tn.textL], Below.refl _ _⟩
  case round =>
    obtain ⟨k, hk, rfl, rfl, hlen, hB⟩ := hrel
    have HB := Lib.hid hB
    clear hB
    by_cases hlt : k < l.length
    · have hk1 : (k : Int) < (l.length : Int) := by omega
      obtain ⟨b, off, rfl, hb, a0, a1, a2, a3, a4⟩ := (HR.out.keep HB.out).ten k hlt hlt
      have hsp := HSP.out k hlt
      have hzk := HZ.out k hlt
      have hmk := HMY.out k hlt
      generalize l[k] = x at *
      have hll := tn_line_len x hmk hzk.1 hzk.2
      have HLN := Lib.hid (fun w => refline_walk x hmk hzk.1 hzk.2 w)
      have hc1 : ¬ 9223372036854775807 < (Fr.bs (Tn.textL (l.take k))).size + (Fr.bs (Tn.lineL x)).size := by
        rw [← Fr.size_list, ← Fr.size_list, Fr.list_bs, Fr.list_bs]
        omega
      have hc2 : ¬ 9223372036854775807 < (Fr.bs (Tn.textL (l.take k)) ++ Fr.bs (Tn.lineL x)).size + (⟨#[10]⟩ : ByteArray).size := by
        rw [ByteArray.size_append, ← Fr.size_list, ← Fr.size_list, Fr.list_bs, Fr.list_bs]
        show ¬ 9223372036854775807 < _ + 1
        omega
      have HLL := Lib.hid (show (Tn.textL (l.take (k + 1))).length ≤ (k + 1) * 400000 by
        rw [hsp, List.length_append, List.length_append]
        show _ + (_ + 1) ≤ _
        omega)
      have HSP2 := Lib.hid (show Fr.bs (Tn.textL (l.take k)) ++ Fr.bs (Tn.lineL x) ++ (⟨#[10]⟩ : ByteArray) = Fr.bs (Tn.textL (l.take (k + 1))) by
        rw [show (⟨#[10]⟩ : ByteArray) = Fr.bs [10] from rfl, bs_app, bs_app, hsp, List.append_assoc])
      generalize Fr.bs (Tn.textL (l.take k)) = TK at *
      generalize Fr.bs (Tn.lineL x) = LX at *
      generalize hTL : TK ++ LX = TL at *
      obtain ⟨n2, k2, m2, s2, q2⟩ := x
      simp only at a0 a1 a2 a3 a4 HLN
      clear hsp hzk hmk hll hlen
      go_upto_region 5 with (fail)
      have HB1 := Lib.hid (HB.out.alloc HB.out.size (.cells #[.string n2, .string k2, .int .i64 m2, .int .i64 s2, .int .i64 q2] 26))
      have HX := Has.new wr #[.string n2, .string k2, .int .i64 m2, .int .i64 s2, .int .i64 q2] 26
      clear a0 a1 a2 a3 a4 HB hb
      generalize wr.heap.size = p at *
      generalize wr.alloc (.cells #[.string n2, .string k2, .int .i64 m2, .int .i64 s2, .int .i64 q2] 26) = w5 at *
      have x0 := HX.cell 0; have x1 := HX.cell 1; have x2 := HX.cell 2; have x3 := HX.cell 3; have x4 := HX.cell 4
      simp only [List.getElem?_toArray, List.getElem?_cons_zero, List.getElem?_cons_succ] at x0 x1 x2 x3 x4
      clear HX
      go_wp2_with fail
      (with_reducible refine (HLN.out _).mono ?_)
      rintro e w6 ⟨rfl, hb6⟩
      have HB6 := Lib.hid (HB1.out.trans (hb6.mono HB1.out.size))
      clear hb6 HB1 x0 x1 x2 x3 x4
      go_wp2
      go_roundw
      case rel => exact ⟨k + 1, hlt, by go_num, by first | rw [HSP2.out] | rw [hTL, HSP2.out], HLL.out, HB6.out⟩
      case measure => simp [intOf]; omega
    · have hlt' : ¬ ((k : Int) < (l.length : Int)) := by omega
      have hke : k = l.length := by omega
      subst hke
      have HE2 := Lib.hid (congrArg Fr.bs HE.out)
      go_wp2
      go_ret
      have HE3 := congrArg Fr.bs (show Tn.textL l = TX by rw [← HE.out, List.take_length])
      exact ⟨by first | exact ret_str HE3 | exact ret_str HE2.out, HB.out⟩
theorem neqten (t : Tn.Ten) (w : World) : (binOp .neq 26 (.agg #[.string t.name, .string t.tok, .int .i64 t.mem, .int .i64 t.st, .int .i64 t.qu]) (.agg #[.string t.name, .string t.tok, .int .i64 t.mem, .int .i64 t.st, .int .i64 t.qu])).run Tryd.prog w = .ok (.bool false) w := by
  have hfs : Tryd.prog.underlying 26 = some (.struct (Tryd.prog.fieldsOf 26)) := by kernel_rfl
  rw [run_neq_struct, run_equalIn_struct w 9999 _ _ _ hfs (by kernel_rfl)]
  clear hfs
  go_simp
set_option maxRecDepth 100000 in
set_option maxHeartbeats 2000000 in
theorem tnsame_walk (l : List Tn.Ten) (a b : Option Addr) (len cap cap2 : Nat) (w : World) (hl : l.length = len) (hr : RowS w 5 a len cap (l.flatMap tncells)) (hr2 : RowS w 5 b len cap2 (l.flatMap tncells)) (h100 : len ≤ 1000) :
    Calls Tryd.prog 19 #[.slice a len cap, .slice b len cap2] w fun r w' => r = .returned (.bool true) ∧ Below w.heap.size w w' := by
  have HR := Lib.hid hr
  have HR2 := Lib.hid hr2
  subst hl
  clear hr hr2
  have hll : ((l.length : Int) != (l.length : Int)) = false := by simp
  go_enter Tryd.func19, Tryd.ntmps19
  go_wp2_with fail
  go_loopw [14] (fun i wr => ∃ (k : Nat), k ≤ l.length ∧ i = .int .i64 k ∧ Below w.heap.size w wr) (fun i _ => l.length - (intOf i).toNat)
  case atStart => exact ⟨0, Nat.zero_le _, rfl, Below.refl _ _⟩
  case round =>
    obtain ⟨k, hk, rfl, hB⟩ := hrel
    have HB := Lib.hid hB
    clear hB
    by_cases hlt : k < l.length
    · have hk1 : (k : Int) < (l.length : Int) := by omega
      obtain ⟨b1, off1, rfl, hb, a0, a1, a2, a3, a4⟩ := (HR.out.keep HB.out).ten k hlt hlt
      obtain ⟨b2, off2, rfl, hb', c0, c1, c2, c3, c4⟩ := (HR2.out.keep HB.out).ten k hlt hlt
      have hNE := neqten l[k]
      generalize l[k] = x at *
      obtain ⟨n2, k2, m2, s2, q2⟩ := x
      simp only at a0 a1 a2 a3 a4 c0 c1 c2 c3 c4 hNE
      go_upto_region 6 with (fail)
      have ha := (Below.refl wr.heap.size wr).alloc (Nat.le_refl _) (.cells #[.string n2, .string k2, .int .i64 m2, .int .i64 s2, .int .i64 q2] 26)
      have HB1 := Lib.hid (HB.out.trans (ha.mono HB.out.size))
      have HX := Lib.hid (Has.new wr #[.string n2, .string k2, .int .i64 m2, .int .i64 s2, .int .i64 q2] 26)
      have cell : ∀ {i v}, wr.cell? ⟨b2, i, none⟩ = some v → (wr.alloc (.cells #[.string n2, .string k2, .int .i64 m2, .int .i64 s2, .int .i64 q2] 26)).cell? ⟨b2, i, none⟩ = some v := fun h => by
        rw [World.cell?_alloc_old _ _ _ (Nat.ne_of_lt (World.block_lt_of_cell? _ _ h))]; exact h
      have e0 := cell c0; have e1 := cell c1; have e2 := cell c2; have e3 := cell c3; have e4 := cell c4
      clear a0 a1 a2 a3 a4 c0 c1 c2 c3 c4 cell HB hb hb' ha
      generalize wr.heap.size = p at *
      generalize wr.alloc (.cells #[.string n2, .string k2, .int .i64 m2, .int .i64 s2, .int .i64 q2] 26) = w5 at *
      have x0 : ∀ y : Later w5, y.at.cell? ⟨p, 0, none⟩ = some (.string n2) := fun y => y.cell (HX.out.cell 0)
      have x1 : ∀ y : Later w5, y.at.cell? ⟨p, 1, none⟩ = some (.string k2) := fun y => y.cell (HX.out.cell 1)
      have x2 : ∀ y : Later w5, y.at.cell? ⟨p, 2, none⟩ = some (.int .i64 m2) := fun y => y.cell (HX.out.cell 2)
      have x3 : ∀ y : Later w5, y.at.cell? ⟨p, 3, none⟩ = some (.int .i64 s2) := fun y => y.cell (HX.out.cell 3)
      have x4 : ∀ y : Later w5, y.at.cell? ⟨p, 4, none⟩ = some (.int .i64 q2) := fun y => y.cell (HX.out.cell 4)
      have y0 : ∀ y : Later w5, y.at.cell? ⟨b2, off2 + k * 5, none⟩ = some (.string n2) := fun y => y.cell e0
      have y1 : ∀ y : Later w5, y.at.cell? ⟨b2, off2 + k * 5 + 1, none⟩ = some (.string k2) := fun y => y.cell e1
      have y2 : ∀ y : Later w5, y.at.cell? ⟨b2, off2 + k * 5 + 2, none⟩ = some (.int .i64 m2) := fun y => y.cell e2
      have y3 : ∀ y : Later w5, y.at.cell? ⟨b2, off2 + k * 5 + 3, none⟩ = some (.int .i64 s2) := fun y => y.cell e3
      have y4 : ∀ y : Later w5, y.at.cell? ⟨b2, off2 + k * 5 + 4, none⟩ = some (.int .i64 q2) := fun y => y.cell e4
      clear e0 e1 e2 e3 e4
      refine region_later 6 (by kernel_rfl) (by kernel_rfl) ?_
      simp only [List.take_succ_cons, List.take_zero, List.drop_succ_cons, List.drop_zero]
      repeat (go_big_quiet_step (fail))
      refine wpQuiet_nil ?_
      rintro w' ⟨y, rfl⟩
      have HB2 := Lib.hid (HB1.out.trans (y.below.mono HB1.out.size))
      clear x0 x1 x2 x3 x4 y0 y1 y2 y3 y4 HX HB1 hNE
      generalize y.at = w6 at *
      go_wp2_with fail
      go_roundw
      case rel => exact ⟨k + 1, hlt, by go_num, HB2.out⟩
      case measure => simp [intOf]; omega
    · have hlt' : ¬ ((k : Int) < (l.length : Int)) := by omega
      go_wp2
      go_ret
      exact ⟨rfl, HB.out⟩
end Go.Proofs.YtimlmjabdakojaaDoor
