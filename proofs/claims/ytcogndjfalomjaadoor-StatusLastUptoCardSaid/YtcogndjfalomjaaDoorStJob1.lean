/- The answers as the reference takes them; the places of a job's answers. -/
import Derived.Test.YtcogndjfalomjaaDoorStIn
namespace Go.Proofs.YtcogndjfalomjaaDoor
open Go.RowKit
set_option linter.unusedVariables false
set_option linter.unusedSimpArgs false

set_option maxRecDepth 100000 in
set_option maxHeartbeats 2000000 in
theorem refs_walk (l : List St.Ans) (a : Option Addr) (len cap : Nat) (w : World) (hl : l.length = len) (hr : RowS w 4 a len cap (l.flatMap ancells)) (h100 : len ≤ 1000) :
    Calls Tryd.prog 19 #[.slice a len cap] w fun r w' => ∃ v, r = .returned v ∧ w'.ownsRow w.heap.size 65 4 v l.length (l.flatMap ancells) ∧ Below w.heap.size w w' := by
  have HR := Lib.hid hr
  subst hl
  clear hr
  go_enter Tryd.func19, Tryd.ntmps19
  go_wp2_with fail
  go_loopw [3, 8] (fun v vi wr => ∃ (k : Nat), k ≤ l.length ∧ vi = .int .i64 k ∧ wr.ownsRow w.heap.size 65 4 v k ((l.take k).flatMap ancells) ∧ Below w.heap.size w wr) (fun _ i _ => l.length - (intOf i).toNat)
  case atStart => exact ⟨0, Nat.zero_le _, rfl, World.ownsRow_nil _ _ _ _, Below.refl _ _⟩
  case round =>
    obtain ⟨k, hk, rfl, hO, hB⟩ := hrel
    have HO := Lib.hid hO; have HB := Lib.hid hB
    clear hO hB
    by_cases hlt : k < l.length
    · have hlt' : (k : Int) < (l.length : Int) := by omega
      obtain ⟨b, off, rfl, hb, a0, a1, a2, a3⟩ := (HR.out.keep HB.out).ans k hlt rfl
      have HT := Lib.hid (show (l.take (k + 1)).flatMap ancells = (l.take k).flatMap ancells ++ ancells l[k] by
        rw [List.take_add_one, List.getElem?_eq_getElem hlt, List.flatMap_append]; simp)
      generalize l[k] = x at *
      obtain ⟨t, j, d, e⟩ := x
      simp only at a0 a1 a2 a3
      go_upto_region 5 with (fail)
      have HO1 := Lib.hid (HO.out.alloc (.cells #[.int .i64 t, .int .i64 j, .string d, .int .i64 e] 46))
      have HB1 := Lib.hid (HB.out.alloc HB.out.size (.cells #[.int .i64 t, .int .i64 j, .string d, .int .i64 e] 46))
      have HX := Has.new wr #[.int .i64 t, .int .i64 j, .string d, .int .i64 e] 46
      clear a0 a1 a2 a3 HO HB hb
      generalize wr.heap.size = p at *
      generalize wr.alloc (.cells #[.int .i64 t, .int .i64 j, .string d, .int .i64 e] 46) = w5 at *
      have x0 := HX.cell 0; have x1 := HX.cell 1; have x2 := HX.cell 2; have x3 := HX.cell 3
      simp only [List.getElem?_toArray, List.getElem?_cons_zero, List.getElem?_cons_succ] at x0 x1 x2 x3
      clear HX
      go_wp2_with (at_builtin; refine appendS Tryd.underlying50 info_rans41 rfl (by decide) rfl _ _ rfl w.heap.size k _ _ rfl HO1.out #[Value.int .i64 t, Value.int .i64 j, Value.string d, Value.int .i64 e] rfl (by intro u hu; simp at hu; rcases hu with rfl | rfl | rfl | rfl <;> rfl) _ rfl rfl (by unfold maxLen; omega) (by omega) HB1.out.size ?_)
      intro g cap' w6 ho hc hb6 _ _ _
      have HO6 := Lib.hid (show w6.ownsRow w.heap.size 65 4 (.slice (some ⟨g, 0, none⟩) (k + 1) cap') (k + 1) ((l.take (k + 1)).flatMap ancells) by rw [HT.out]; exact ho)
      have HB6 := Lib.hid (HB1.out.trans hb6)
      clear ho hc hb6 x0 x1 x2 x3 HO1 HB1 HT
      go_wp2
      go_roundw
      case rel => exact ⟨k + 1, hlt, by go_num, HO6.out, HB6.out⟩
      case measure => simp [intOf]; omega
    · have hlt' : ¬ (k : Int) < (l.length : Int) := by omega
      have hke : k = l.length := by omega
      subst hke
      rw [List.take_length] at HO
      go_wp2
      go_ret
      exact ⟨_, rfl, HO.out, HB.out⟩
namespace St
/-- does an answer count for a job? -/
def okJ (id : Int) (a : Ans) : Bool := decide (a.j = id) && (decide (a.t = 66) || decide (a.t = 67) || decide (a.t = 68) || decide (a.t = 69))
/-- the places behind k of those that count -/
def places (p : Ans → Bool) : List Ans → Nat → List Nat
  | [], _ => []
  | a :: l, k => if p a = true then k :: places p l (k + 1) else places p l (k + 1)
theorem places_app (p : Ans → Bool) : ∀ (l m : List Ans) (k : Nat), places p (l ++ m) k = places p l k ++ places p m (k + l.length)
  | [], m, k => rfl
  | a :: l, m, k => by
    rw [List.cons_append, places, places, places_app p l m]
    rw [List.length_cons, show k + 1 + l.length = k + (l.length + 1) by omega]
    split <;> rfl
theorem places_take (p : Ans → Bool) (l : List Ans) (k : Nat) (h : k < l.length) : places p (l.take (k + 1)) 0 = if p l[k] = true then places p (l.take k) 0 ++ [k] else places p (l.take k) 0 := by
  rw [List.take_add_one, List.getElem?_eq_getElem h, places_app]
  have e : (List.take k l).length = k := by rw [List.length_take]; omega
  rw [e, Nat.zero_add]
  have e2 : places p (some l[k]).toList k = if p l[k] = true then [k] else [] := rfl
  rw [e2]
  split
  · rfl
  · exact List.append_nil _
theorem places_len (p : Ans → Bool) : ∀ (l : List Ans) (k : Nat), (places p l k).length ≤ l.length
  | [], _ => Nat.le_refl _
  | a :: l, k => by
    rw [places]
    have := places_len p l (k + 1)
    split <;> simp only [List.length_cons] <;> omega
/-- the i-th place leads to the i-th of those that count -/
theorem places_at (p : Ans → Bool) : ∀ (l : List Ans) (k i : Nat) (h : i < (places p l k).length), ∃ (q : Nat) (hq : q < l.length) (hf : i < (l.filter p).length), (places p l k)[i] = k + q ∧ (l.filter p)[i] = l[q]
  | [], k, i, h => absurd h (Nat.not_lt_zero _)
  | a :: l, k, i, h => by
    by_cases hp : p a = true
    · have e1 : places p (a :: l) k = k :: places p l (k + 1) := by rw [places, if_pos hp]
      have e2 : (a :: l).filter p = a :: l.filter p := List.filter_cons_of_pos hp
      cases i with
      | zero => exact ⟨0, by simp, by rw [e2]; simp, by simp [e1], by simp [e2]⟩
      | succ i =>
        rw [e1, List.length_cons] at h
        obtain ⟨q, hq, hf, h1, h2⟩ := places_at p l (k + 1) i (by omega)
        refine ⟨q + 1, by simp; exact hq, by rw [e2, List.length_cons]; omega, ?_, ?_⟩
        · simp only [e1, List.getElem_cons_succ]; rw [h1]; omega
        · simp only [e2, List.getElem_cons_succ]; exact h2
    · have e1 : places p (a :: l) k = places p l (k + 1) := by rw [places, if_neg hp]
      have e2 : (a :: l).filter p = l.filter p := List.filter_cons_of_neg hp
      rw [e1] at h
      obtain ⟨q, hq, hf, h1, h2⟩ := places_at p l (k + 1) i h
      refine ⟨q + 1, by simp; exact hq, by rw [e2]; exact hf, ?_, ?_⟩
      · simp only [e1]; rw [h1]; omega
      · simp only [e2, List.getElem_cons_succ]; exact h2
theorem places_filter (p : Ans → Bool) : ∀ (l : List Ans) (k : Nat), (places p l k).length = (l.filter p).length
  | [], _ => rfl
  | a :: l, k => by
    rw [places, List.filter_cons]
    have := places_filter p l (k + 1)
    split <;> simp only [List.length_cons, this]
end St
theorem info_int41b : (Tryd.prog.info? 3).map (fun i => (i.zero, i.size, i.bytes)) = some (some (.int .i64 0), 1, 8) := by kernel_rfl
def pcell (k : Nat) : Value := .int .i64 (k : Int)
set_option maxRecDepth 100000 in
set_option maxHeartbeats 3000000 in
theorem refjob_walk (l : List St.Ans) (id : Int) (a : Option Addr) (len cap : Nat) (w : World) (hl : l.length = len) (hr : RowS w 4 a len cap (l.flatMap ancells)) (h100 : len ≤ 1000) :
    Calls Tryd.prog 21 #[.slice a len cap, .int .i64 id] w fun r w' => ∃ v, r = .returned v ∧ w'.ownsRow w.heap.size 3 1 v (St.places (St.okJ id) l 0).length ((St.places (St.okJ id) l 0).map pcell) ∧ Below w.heap.size w w' := by
  have HR := Lib.hid hr
  subst hl
  clear hr
  go_enter Tryd.func21, Tryd.ntmps21
  go_wp2_with fail
  go_loopw [5, 10] (fun v vi wr => ∃ (k : Nat), k ≤ l.length ∧ vi = .int .i64 k ∧ wr.ownsRow w.heap.size 3 1 v (St.places (St.okJ id) (l.take k) 0).length ((St.places (St.okJ id) (l.take k) 0).map pcell) ∧ Below w.heap.size w wr) (fun _ i _ => l.length - (intOf i).toNat)
  case atStart => exact ⟨0, Nat.zero_le _, rfl, World.ownsRow_nil _ _ _ _, Below.refl _ _⟩
  case round =>
    obtain ⟨k, hk, rfl, hO, hB⟩ := hrel
    have HO := Lib.hid hO; have HB := Lib.hid hB
    clear hO hB
    by_cases hlt : k < l.length
    · have hlt' : (k : Int) < (l.length : Int) := by omega
      obtain ⟨b, off, rfl, hb, a0, a1, a2, a3⟩ := (HR.out.keep HB.out).ans k hlt rfl
      have HT := Lib.hid (St.places_take (St.okJ id) l k hlt)
      have HPL := Lib.hid (show (St.places (St.okJ id) (l.take k) 0).length ≤ 1000 by
        have := St.places_len (St.okJ id) (l.take k) 0
        rw [List.length_take] at this; omega)
      generalize l[k] = x at *
      obtain ⟨t, j, d, e⟩ := x
      simp only at a0 a1 a2 a3
      go_upto_region 5 with (fail)
      have HO1 := Lib.hid (HO.out.alloc (.cells #[.int .i64 t, .int .i64 j, .string d, .int .i64 e] 65))
      have HB1 := Lib.hid (HB.out.alloc HB.out.size (.cells #[.int .i64 t, .int .i64 j, .string d, .int .i64 e] 65))
      have HX := Has.new wr #[.int .i64 t, .int .i64 j, .string d, .int .i64 e] 65
      clear a0 a1 a2 a3 HO HB hb
      generalize wr.heap.size = p at *
      generalize wr.alloc (.cells #[.int .i64 t, .int .i64 j, .string d, .int .i64 e] 65) = w5 at *
      have x0 := HX.cell 0; have x1 := HX.cell 1
      simp only [List.getElem?_toArray, List.getElem?_cons_zero, List.getElem?_cons_succ] at x0 x1
      clear HX
      by_cases cj : j = id
      · subst cj
        by_cases c66 : t = 66
        · subst c66
          have hyes : St.okJ j ⟨66, j, d, e⟩ = true := by simp [St.okJ]
          have HT2 := Lib.hid (show St.places (St.okJ j) (l.take (k + 1)) 0 = St.places (St.okJ j) (l.take k) 0 ++ [k] by rw [HT.out, if_pos hyes])
          have hpl := HPL.out
          clear HT hyes
          go_wp2_with (at_builtin; refine appendS Tryd.underlying54 info_int41b rfl (by decide) rfl _ _ rfl w.heap.size (St.places (St.okJ j) (l.take k) 0).length _ _ rfl HO1.out #[Value.int .i64 (k : Int)] rfl (by intro u hu; simp at hu; subst hu; rfl) _ rfl rfl (by unfold maxLen; omega) (by omega) HB1.out.size ?_)
          intro g cap' w6 ho hc hb6 _ _ _
          have HO6 := Lib.hid (show w6.ownsRow w.heap.size 3 1 (.slice (some ⟨g, 0, none⟩) ((St.places (St.okJ j) (l.take k) 0).length + 1) cap') (St.places (St.okJ j) (l.take (k + 1)) 0).length ((St.places (St.okJ j) (l.take (k + 1)) 0).map pcell) by
            rw [HT2.out, List.length_append, List.map_append]; exact ho)
          have HB6 := Lib.hid (HB1.out.trans hb6)
          clear ho hc hb6 x0 x1 HO1 HB1 HT2
          go_wp2
          go_roundw
          case rel => exact ⟨k + 1, hlt, by go_num, HO6.out, HB6.out⟩
          case measure => simp [intOf]; omega
        have e66 : (t == 66) = false := by simpa using c66
        by_cases c67 : t = 67
        · subst c67
          clear c66
          have hyes : St.okJ j ⟨67, j, d, e⟩ = true := by simp [St.okJ]
          have HT2 := Lib.hid (show St.places (St.okJ j) (l.take (k + 1)) 0 = St.places (St.okJ j) (l.take k) 0 ++ [k] by rw [HT.out, if_pos hyes])
          have hpl := HPL.out
          clear HT hyes
          go_wp2_with (at_builtin; refine appendS Tryd.underlying54 info_int41b rfl (by decide) rfl _ _ rfl w.heap.size (St.places (St.okJ j) (l.take k) 0).length _ _ rfl HO1.out #[Value.int .i64 (k : Int)] rfl (by intro u hu; simp at hu; subst hu; rfl) _ rfl rfl (by unfold maxLen; omega) (by omega) HB1.out.size ?_)
          intro g cap' w6 ho hc hb6 _ _ _
          have HO6 := Lib.hid (show w6.ownsRow w.heap.size 3 1 (.slice (some ⟨g, 0, none⟩) ((St.places (St.okJ j) (l.take k) 0).length + 1) cap') (St.places (St.okJ j) (l.take (k + 1)) 0).length ((St.places (St.okJ j) (l.take (k + 1)) 0).map pcell) by
            rw [HT2.out, List.length_append, List.map_append]; exact ho)
          have HB6 := Lib.hid (HB1.out.trans hb6)
          clear ho hc hb6 x0 x1 HO1 HB1 HT2
          go_wp2
          go_roundw
          case rel => exact ⟨k + 1, hlt, by go_num, HO6.out, HB6.out⟩
          case measure => simp [intOf]; omega
        have e67 : (t == 67) = false := by simpa using c67
        by_cases c68 : t = 68
        · subst c68
          clear c66 c67
          have hyes : St.okJ j ⟨68, j, d, e⟩ = true := by simp [St.okJ]
          have HT2 := Lib.hid (show St.places (St.okJ j) (l.take (k + 1)) 0 = St.places (St.okJ j) (l.take k) 0 ++ [k] by rw [HT.out, if_pos hyes])
          have hpl := HPL.out
          clear HT hyes
          go_wp2_with (at_builtin; refine appendS Tryd.underlying54 info_int41b rfl (by decide) rfl _ _ rfl w.heap.size (St.places (St.okJ j) (l.take k) 0).length _ _ rfl HO1.out #[Value.int .i64 (k : Int)] rfl (by intro u hu; simp at hu; subst hu; rfl) _ rfl rfl (by unfold maxLen; omega) (by omega) HB1.out.size ?_)
          intro g cap' w6 ho hc hb6 _ _ _
          have HO6 := Lib.hid (show w6.ownsRow w.heap.size 3 1 (.slice (some ⟨g, 0, none⟩) ((St.places (St.okJ j) (l.take k) 0).length + 1) cap') (St.places (St.okJ j) (l.take (k + 1)) 0).length ((St.places (St.okJ j) (l.take (k + 1)) 0).map pcell) by
            rw [HT2.out, List.length_append, List.map_append]; exact ho)
          have HB6 := Lib.hid (HB1.out.trans hb6)
          clear ho hc hb6 x0 x1 HO1 HB1 HT2
          go_wp2
          go_roundw
          case rel => exact ⟨k + 1, hlt, by go_num, HO6.out, HB6.out⟩
          case measure => simp [intOf]; omega
        have e68 : (t == 68) = false := by simpa using c68
        by_cases c69 : t = 69
        · subst c69
          clear c66 c67 c68
          have hyes : St.okJ j ⟨69, j, d, e⟩ = true := by simp [St.okJ]
          have HT2 := Lib.hid (show St.places (St.okJ j) (l.take (k + 1)) 0 = St.places (St.okJ j) (l.take k) 0 ++ [k] by rw [HT.out, if_pos hyes])
          have hpl := HPL.out
          clear HT hyes
          go_wp2_with (at_builtin; refine appendS Tryd.underlying54 info_int41b rfl (by decide) rfl _ _ rfl w.heap.size (St.places (St.okJ j) (l.take k) 0).length _ _ rfl HO1.out #[Value.int .i64 (k : Int)] rfl (by intro u hu; simp at hu; subst hu; rfl) _ rfl rfl (by unfold maxLen; omega) (by omega) HB1.out.size ?_)
          intro g cap' w6 ho hc hb6 _ _ _
          have HO6 := Lib.hid (show w6.ownsRow w.heap.size 3 1 (.slice (some ⟨g, 0, none⟩) ((St.places (St.okJ j) (l.take k) 0).length + 1) cap') (St.places (St.okJ j) (l.take (k + 1)) 0).length ((St.places (St.okJ j) (l.take (k + 1)) 0).map pcell) by
            rw [HT2.out, List.length_append, List.map_append]; exact ho)
          have HB6 := Lib.hid (HB1.out.trans hb6)
          clear ho hc hb6 x0 x1 HO1 HB1 HT2
          go_wp2
          go_roundw
          case rel => exact ⟨k + 1, hlt, by go_num, HO6.out, HB6.out⟩
          case measure => simp [intOf]; omega
        have e69 : (t == 69) = false := by simpa using c69
        have hNO : ¬ St.okJ j ⟨t, j, d, e⟩ = true := by simp [St.okJ, c66, c67, c68, c69]
        clear c66 c67 c68 c69
        have HO5 := Lib.hid (show w5.ownsRow w.heap.size 3 1 u5 (St.places (St.okJ j) (l.take (k + 1)) 0).length ((St.places (St.okJ j) (l.take (k + 1)) 0).map pcell) by
          rw [HT.out, if_neg hNO]; exact HO1.out)
        clear hNO HT HO1
        go_wp2_with fail
        go_roundw
        case rel => exact ⟨k + 1, hlt, by go_num, HO5.out, HB1.out⟩
        case measure => simp [intOf]; omega
      · have ej : (j == id) = false := by simpa using cj
        have hNO : ¬ St.okJ id ⟨t, j, d, e⟩ = true := by simp [St.okJ, cj]
        clear cj
        have HO5 := Lib.hid (show w5.ownsRow w.heap.size 3 1 u5 (St.places (St.okJ id) (l.take (k + 1)) 0).length ((St.places (St.okJ id) (l.take (k + 1)) 0).map pcell) by
          rw [HT.out, if_neg hNO]; exact HO1.out)
        clear hNO HT HO1
        go_wp2_with fail
        go_roundw
        case rel => exact ⟨k + 1, hlt, by go_num, HO5.out, HB1.out⟩
        case measure => simp [intOf]; omega
    · have hlt' : ¬ (k : Int) < (l.length : Int) := by omega
      have hke : k = l.length := by omega
      subst hke
      rw [List.take_length] at HO
      go_wp2
      go_ret
      exact ⟨_, rfl, HO.out, HB.out⟩
end Go.Proofs.YtcogndjfalomjaaDoor
