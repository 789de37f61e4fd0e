/- A status as text. -/
import Derived.Test.YtcogndjfalomjaaDoorStWalk4
import Derived.Test.YtcogndjfalomjaaDoorRowS
import Derived.Test.YtcogndjfalomjaaDoorShelf
namespace Go.Proofs.YtcogndjfalomjaaDoor
open Go.RowKit
set_option linter.unusedVariables false
set_option linter.unusedSimpArgs false

theorem info_string : (Tryd.prog.info? 9).map (fun i => (i.zero, i.size, i.bytes)) = some (some (.string ⟨#[]⟩), 1, 16) := by kernel_rfl
theorem own_strings {w : World} {B : Nat} {v : Value} {xs : List ByteArray} (h : w.ownsRow B 9 1 v xs.length (xs.map Value.string)) (h0 : 0 < xs.length) :
    ∃ b o c, v = .slice (some ⟨b, o, none⟩) xs.length c ∧ b < w.heap.size ∧ xs.length ≤ c ∧ ∀ (j : Nat) x, xs[j]? = some x → w.cell? ⟨b, o + j, none⟩ = some (.string x) := by
  obtain ⟨a, c, rfl, hr, -⟩ := rowS_owns h
  obtain ⟨b, o, rfl, hb, -⟩ := hr.at 0 h0
  refine ⟨b, o, c, rfl, hb, hr.le, fun j x hx => ?_⟩
  have hj : j < xs.length := (List.getElem?_eq_some_iff.1 hx).1
  obtain ⟨b', o', he, _, hc⟩ := hr.at j hj
  cases he
  have := hc 0 (by decide)
  rw [Nat.mul_one, Nat.add_zero] at this
  rw [this, List.getD_eq_getElem?_getD, List.getElem?_map, hx]
  rfl
theorem join5 (a b c d e : List UInt8) : Lib.join [a, b, c, d, e] [32] = a ++ [32] ++ b ++ [32] ++ c ++ [32] ++ d ++ [32] ++ e := by
  rw [Lib.join_cons]
  simp [Lib.joinTail]
set_option maxRecDepth 100000 in
set_option maxHeartbeats 3200000 in
theorem text_walk41 (n : St.Nums) (hm : St.may n = true) (w : World) : Calls Tryd.prog 22 #[.agg #[.int .i64 n.at', .int .i64 n.jobs, .int .i64 n.used, .int .i64 n.limit, .int .i64 n.left]] w fun r w' => r = .returned (.string (Fr.bs (St.textL n))) ∧ Below w.heap.size w w' := by
  obtain ⟨a, b, c, d, e⟩ := n
  have hok : St.okI a = true ∧ St.okI b = true ∧ St.okI c = true ∧ St.okI d = true ∧ St.okI e = true := by
    unfold St.may at hm
    simp only [Bool.and_eq_true] at hm
    exact ⟨hm.1.1.1.1.1, hm.1.1.1.1.2, hm.1.1.1.2, hm.1.1.2, hm.1.2⟩
  have hdig : ∀ x : Int, St.okI x = true → (∀ w, Calls Tryd.prog 30 #[.int .i64 x] w fun r w' => r = .returned (.string (Fr.bs (St.dg x))) ∧ Below w.heap.size w w') ∧ (St.dg x).length ≤ 13 := by
    intro x hx
    have h2 : 0 ≤ x ∧ x ≤ 1099511627776 := of_decide_eq_true hx
    have e : x = ((x.toNat : Nat) : Int) := by omega
    refine ⟨fun w => ?_, St.digs_13 _ (by omega)⟩
    have := digits_pos x.toNat (by omega) w
    rw [← e] at this
    exact this
  obtain ⟨o1, o2, o3, o4, o5⟩ := hok
  obtain ⟨d1, l1⟩ := hdig a o1
  obtain ⟨d2, l2⟩ := hdig b o2
  obtain ⟨d3, l3⟩ := hdig c o3
  obtain ⟨d4, l4⟩ := hdig d o4
  obtain ⟨d5, l5⟩ := hdig e o5
  have HL := Lib.hid (fun w => list_walk a b c d e w)
  have HT := Lib.hid (show (⟨(Lib.join ([Fr.bs (St.dg a), Fr.bs (St.dg b), Fr.bs (St.dg c), Fr.bs (St.dg d), Fr.bs (St.dg e)].map (·.data.toList)) [32]).toArray⟩ : ByteArray) = Fr.bs (St.textL ⟨a, b, c, d, e⟩) by
    simp only [List.map_cons, List.map_nil, Fr.list_bs]
    rw [join5]; rfl)
  have HLn := Lib.hid (show (Lib.join ([Fr.bs (St.dg a), Fr.bs (St.dg b), Fr.bs (St.dg c), Fr.bs (St.dg d), Fr.bs (St.dg e)].map (·.data.toList)) [32]).length ≤ 140737488355328 by
    simp only [List.map_cons, List.map_nil, Fr.list_bs]
    rw [join5]
    simp only [List.length_append, List.length_cons, List.length_nil]
    omega)
  generalize Fr.bs (St.textL ⟨a, b, c, d, e⟩) = R at *
  simp only at *
  clear hdig o1 o2 o3 o4 o5 l1 l2 l3 l4 l5 hm
  generalize Fr.bs (St.dg a) = A at *
  generalize Fr.bs (St.dg b) = B at *
  generalize Fr.bs (St.dg c) = C at *
  generalize Fr.bs (St.dg d) = D at *
  generalize Fr.bs (St.dg e) = E at *
  have HD1 := Lib.hid d1; have HD2 := Lib.hid d2; have HD3 := Lib.hid d3; have HD4 := Lib.hid d4; have HD5 := Lib.hid d5
  clear d1 d2 d3 d4 d5
  have hix0 : ∀ w : World, (Instr.index 28 (.agg #[.int .i64 a, .int .i64 b, .int .i64 c, .int .i64 d, .int .i64 e]) (.int .i64 0)).run Tryd.prog w = .ok (.int .i64 a) w := fun _ => by kernel_rfl
  have hix1 : ∀ w : World, (Instr.index 28 (.agg #[.int .i64 a, .int .i64 b, .int .i64 c, .int .i64 d, .int .i64 e]) (.int .i64 1)).run Tryd.prog w = .ok (.int .i64 b) w := fun _ => by kernel_rfl
  have hix2 : ∀ w : World, (Instr.index 28 (.agg #[.int .i64 a, .int .i64 b, .int .i64 c, .int .i64 d, .int .i64 e]) (.int .i64 2)).run Tryd.prog w = .ok (.int .i64 c) w := fun _ => by kernel_rfl
  have hix3 : ∀ w : World, (Instr.index 28 (.agg #[.int .i64 a, .int .i64 b, .int .i64 c, .int .i64 d, .int .i64 e]) (.int .i64 3)).run Tryd.prog w = .ok (.int .i64 d) w := fun _ => by kernel_rfl
  have hix4 : ∀ w : World, (Instr.index 28 (.agg #[.int .i64 a, .int .i64 b, .int .i64 c, .int .i64 d, .int .i64 e]) (.int .i64 4)).run Tryd.prog w = .ok (.int .i64 e) w := fun _ => by kernel_rfl
  go_enter Tryd.func22, Tryd.ntmps22
  go_upto_region 1 with (fail)
  have HP := Lib.hid (Has.new w #[.int .i64 a, .int .i64 b, .int .i64 c, .int .i64 d, .int .i64 e] 23)
  have HB0 := Lib.hid ((Below.refl w.heap.size w).alloc (Nat.le_refl _) (.cells #[.int .i64 a, .int .i64 b, .int .i64 c, .int .i64 d, .int .i64 e] 23))
  obtain ⟨q, hq⟩ : ∃ q, q = w.heap.size := ⟨_, rfl⟩
  rw [← hq] at HP
  rw [← hq]
  clear hq
  generalize w.alloc (.cells #[.int .i64 a, .int .i64 b, .int .i64 c, .int .i64 d, .int .i64 e] 23) = w1 at *
  have p0 := HP.out.cell 0; have p1 := HP.out.cell 1; have p2 := HP.out.cell 2; have p3 := HP.out.cell 3; have p4 := HP.out.cell 4
  simp only [List.getElem?_toArray, List.getElem?_cons_zero, List.getElem?_cons_succ] at p0 p1 p2 p3 p4
  go_wp2_with fail
  (with_reducible refine (HL.out _).mono ?_)
  rintro r2 w2 ⟨rfl, hb⟩
  have HB2 := Lib.hid (HB0.out.trans (hb.mono HB0.out.size))
  clear p0 p1 p2 p3 p4 hb HP HB0
  go_wp2_with fail
  go_loopw [3, 8] (fun v i wr => ((i = .int .i64 0 ∧ wr.ownsRow w.heap.size 9 1 v 0 []) ∨ (i = .int .i64 1 ∧ wr.ownsRow w.heap.size 9 1 v 1 [.string A]) ∨ (i = .int .i64 2 ∧ wr.ownsRow w.heap.size 9 1 v 2 [.string A, .string B]) ∨ (i = .int .i64 3 ∧ wr.ownsRow w.heap.size 9 1 v 3 [.string A, .string B, .string C]) ∨ (i = .int .i64 4 ∧ wr.ownsRow w.heap.size 9 1 v 4 [.string A, .string B, .string C, .string D]) ∨ (i = .int .i64 5 ∧ wr.ownsRow w.heap.size 9 1 v 5 [.string A, .string B, .string C, .string D, .string E])) ∧ Below w.heap.size w wr) (fun _ i _ => 5 - (intOf i).toNat)
  case atStart => exact ⟨.inl ⟨rfl, World.ownsRow_nil _ _ _ _⟩, HB2.out⟩
  case round =>
    obtain ⟨hrel, hb⟩ := hrel
    have HB := Lib.hid hb
    clear hb HB2
    rcases hrel with ⟨rfl, ho⟩ | ⟨rfl, ho⟩ | ⟨rfl, ho⟩ | ⟨rfl, ho⟩ | ⟨rfl, ho⟩ | ⟨rfl, ho⟩
    all_goals
      have HO := Lib.hid ho
      clear ho
    · go_wp2_with fail
      refine (HD1.out _).mono ?_
      rintro r w3 ⟨rfl, hb3⟩
      have HO1 := Lib.hid (ownsRow_keep HO.out hb3)
      have HB1 := Lib.hid (HB.out.trans (hb3.mono HB.out.size))
      clear hb3 HO HB
      go_wp2_with (at_builtin; refine appendS Tryd.underlying59 info_string rfl (by decide) rfl _ _ rfl w.heap.size 0 _ _ rfl HO1.out #[Value.string A] rfl (by intro u hu; simp at hu; subst hu; rfl) _ rfl rfl (by unfold maxLen; omega) (by omega) HB1.out.size ?_)
      intro g cap' w4 ho hc hb4 _ _ _
      have HO2 := Lib.hid ho
      have HB2 := Lib.hid (HB1.out.trans hb4)
      clear ho hc hb4 HO1 HB1
      go_wp2
      go_roundw
      case rel => exact ⟨.inr (.inl ⟨rfl, HO2.out⟩), HB2.out⟩
      case measure => decide
    · go_wp2_with fail
      refine (HD2.out _).mono ?_
      rintro r w3 ⟨rfl, hb3⟩
      have HO1 := Lib.hid (ownsRow_keep HO.out hb3)
      have HB1 := Lib.hid (HB.out.trans (hb3.mono HB.out.size))
      clear hb3 HO HB
      go_wp2_with (at_builtin; refine appendS Tryd.underlying59 info_string rfl (by decide) rfl _ _ rfl w.heap.size 1 _ _ rfl HO1.out #[Value.string B] rfl (by intro u hu; simp at hu; subst hu; rfl) _ rfl rfl (by unfold maxLen; omega) (by omega) HB1.out.size ?_)
      intro g cap' w4 ho hc hb4 _ _ _
      have HO2 := Lib.hid ho
      have HB2 := Lib.hid (HB1.out.trans hb4)
      clear ho hc hb4 HO1 HB1
      go_wp2
      go_roundw
      case rel => exact ⟨.inr (.inr (.inl ⟨rfl, HO2.out⟩)), HB2.out⟩
      case measure => decide
    · go_wp2_with fail
      refine (HD3.out _).mono ?_
      rintro r w3 ⟨rfl, hb3⟩
      have HO1 := Lib.hid (ownsRow_keep HO.out hb3)
      have HB1 := Lib.hid (HB.out.trans (hb3.mono HB.out.size))
      clear hb3 HO HB
      go_wp2_with (at_builtin; refine appendS Tryd.underlying59 info_string rfl (by decide) rfl _ _ rfl w.heap.size 2 _ _ rfl HO1.out #[Value.string C] rfl (by intro u hu; simp at hu; subst hu; rfl) _ rfl rfl (by unfold maxLen; omega) (by omega) HB1.out.size ?_)
      intro g cap' w4 ho hc hb4 _ _ _
      have HO2 := Lib.hid ho
      have HB2 := Lib.hid (HB1.out.trans hb4)
      clear ho hc hb4 HO1 HB1
      go_wp2
      go_roundw
      case rel => exact ⟨.inr (.inr (.inr (.inl ⟨rfl, HO2.out⟩))), HB2.out⟩
      case measure => decide
    · go_wp2_with fail
      refine (HD4.out _).mono ?_
      rintro r w3 ⟨rfl, hb3⟩
      have HO1 := Lib.hid (ownsRow_keep HO.out hb3)
      have HB1 := Lib.hid (HB.out.trans (hb3.mono HB.out.size))
      clear hb3 HO HB
      go_wp2_with (at_builtin; refine appendS Tryd.underlying59 info_string rfl (by decide) rfl _ _ rfl w.heap.size 3 _ _ rfl HO1.out #[Value.string D] rfl (by intro u hu; simp at hu; subst hu; rfl) _ rfl rfl (by unfold maxLen; omega) (by omega) HB1.out.size ?_)
      intro g cap' w4 ho hc hb4 _ _ _
      have HO2 := Lib.hid ho
      have HB2 := Lib.hid (HB1.out.trans hb4)
      clear ho hc hb4 HO1 HB1
      go_wp2
      go_roundw
      case rel => exact ⟨.inr (.inr (.inr (.inr (.inl ⟨rfl, HO2.out⟩)))), HB2.out⟩
      case measure => decide
    · go_wp2_with fail
      refine (HD5.out _).mono ?_
      rintro r w3 ⟨rfl, hb3⟩
      have HO1 := Lib.hid (ownsRow_keep HO.out hb3)
      have HB1 := Lib.hid (HB.out.trans (hb3.mono HB.out.size))
      clear hb3 HO HB
      go_wp2_with (at_builtin; refine appendS Tryd.underlying59 info_string rfl (by decide) rfl _ _ rfl w.heap.size 4 _ _ rfl HO1.out #[Value.string E] rfl (by intro u hu; simp at hu; subst hu; rfl) _ rfl rfl (by unfold maxLen; omega) (by omega) HB1.out.size ?_)
      intro g cap' w4 ho hc hb4 _ _ _
      have HO2 := Lib.hid ho
      have HB2 := Lib.hid (HB1.out.trans hb4)
      clear ho hc hb4 HO1 HB1
      go_wp2
      go_roundw
      case rel => exact ⟨.inr (.inr (.inr (.inr (.inr ⟨rfl, HO2.out⟩)))), HB2.out⟩
      case measure => decide
    · obtain ⟨bk, o, cp, hv, hbk, hcp, hcl⟩ := own_strings (xs := [A, B, C, D, E]) HO.out (by simp)
      subst hv
      have hj := Tryd.strings_Join bk o cp [A, B, C, D, E] ⟨#[32]⟩ _ hcl hbk (by simp) hcp HLn.out
      rw [show ([A, B, C, D, E] : List ByteArray).length = 5 from rfl] at hj
      have HJ := Lib.hid hj
      clear hj
      clear hcl HO
      go_wp2_with fail
      with_reducible refine HJ.out.mono ?_
      rintro r w3 ⟨rfl, hb3⟩
      have HB3 := Lib.hid (HB.out.trans (hb3.mono HB.out.size))
      clear hb3
      go_wp2
      go_ret
      exact ⟨ret_str HT.out, HB3.out⟩
end Go.Proofs.YtcogndjfalomjaaDoor
