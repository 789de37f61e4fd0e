/- Those answers that count: for each closure. -/
import Derived.Test.YtcogndjfalomjaaDoorStJob1
namespace Go.Proofs.YtcogndjfalomjaaDoor
open Go.RowKit
set_option linter.unusedVariables false
set_option linter.unusedSimpArgs false

namespace St
theorem filter_take (p : Ans → Bool) (l : List Ans) (k : Nat) (h : k < l.length) : (l.take (k + 1)).filter p = if p l[k] = true then (l.take k).filter p ++ [l[k]] else (l.take k).filter p := by
  rw [List.take_add_one, List.getElem?_eq_getElem h, List.filter_append]
  have e2 : (some l[k]).toList.filter p = if p l[k] = true then [l[k]] else [] := by
    show [l[k]].filter p = _
    by_cases hp : p l[k] = true
    · rw [if_pos hp, List.filter_cons_of_pos hp]; rfl
    · rw [if_neg hp, List.filter_cons_of_neg hp]; rfl
  rw [e2]
  split
  · rfl
  · exact List.append_nil _
def okT (a : Ans) : Bool := a.t == 70
theorem okJ_eq (id t : Int) (d : ByteArray) (e : Int) : okJ id ⟨t, id, d, e⟩ = (decide ((66 : Int) ≤ t) && decide (t ≤ (69 : Int))) := by
  unfold okJ
  rw [Bool.eq_iff_iff]
  simp only [Bool.and_eq_true, Bool.or_eq_true, decide_eq_true_eq, true_and]
  constructor <;> intro h <;> omega
end St
set_option maxRecDepth 100000 in
set_option maxHeartbeats 800000 in
theorem last1_walk (x : St.Ans) (w : World) : Calls Tryd.prog 28 #[.agg #[.int .i64 x.t, .int .i64 x.j, .string x.d, .int .i64 x.e]] w fun r w' => r = .returned (.bool (St.okT x)) ∧ Below w.heap.size w w' := by
  obtain ⟨t, j, d, e⟩ := x
  simp only [St.okT]
  go_enter Tryd.func28, Tryd.ntmps28
  go_upto_region 1 with (fail)
  have HB := Lib.hid ((Below.refl w.heap.size w).alloc (Nat.le_refl _) (.cells #[.int .i64 t, .int .i64 j, .string d, .int .i64 e] 46))
  have x0 := (Has.new w #[.int .i64 t, .int .i64 j, .string d, .int .i64 e] 46).cell 0
  generalize w.alloc (.cells #[.int .i64 t, .int .i64 j, .string d, .int .i64 e] 46) = w2 at *
  simp only [List.getElem?_toArray, List.getElem?_cons_zero, List.getElem?_cons_succ] at x0
  go_wp2
  go_ret
  exact ⟨rfl, HB.out⟩
set_option maxRecDepth 100000 in
set_option maxHeartbeats 800000 in
theorem job1_walk (x : St.Ans) (id : Int) (c : Addr) (w : World) (hc : w.cell? c = some (.int .i64 id)) : Calls Tryd.prog 29 #[.agg #[.int .i64 x.t, .int .i64 x.j, .string x.d, .int .i64 x.e], .pointer (some c)] w fun r w' => r = .returned (.bool (St.okJ id x)) ∧ Below w.heap.size w w' := by
  obtain ⟨t, j, d, e⟩ := x
  have hc2 : (w.alloc (.cells #[.int .i64 t, .int .i64 j, .string d, .int .i64 e] 46)).cell? c = some (.int .i64 id) := by
    rw [World.cell?_alloc_old _ _ _ (Nat.ne_of_lt (World.block_lt_of_cell? _ _ hc))]; exact hc
  clear hc
  go_enter Tryd.func29, Tryd.ntmps29
  go_upto_region 1 with (fail)
  have HB := Lib.hid ((Below.refl w.heap.size w).alloc (Nat.le_refl _) (.cells #[.int .i64 t, .int .i64 j, .string d, .int .i64 e] 46))
  have x0 := (Has.new w #[.int .i64 t, .int .i64 j, .string d, .int .i64 e] 46).cell 0
  have x1 := (Has.new w #[.int .i64 t, .int .i64 j, .string d, .int .i64 e] 46).cell 1
  generalize w.alloc (.cells #[.int .i64 t, .int .i64 j, .string d, .int .i64 e] 46) = w2 at *
  simp only [List.getElem?_toArray, List.getElem?_cons_zero, List.getElem?_cons_succ] at x0 x1
  by_cases cj : j = id
  · subst cj
    have HE := Lib.hid (St.okJ_eq j t d e)
    by_cases c1 : (66 : Int) ≤ t
    · have e1 : decide ((66 : Int) ≤ t) = true := decide_eq_true c1
      go_wp2
      go_ret
      exact ⟨by rw [HE.out, e1]; rfl, HB.out⟩
    · have e1 : decide ((66 : Int) ≤ t) = false := decide_eq_false c1
      go_wp2
      go_ret
      exact ⟨by rw [HE.out, e1]; rfl, HB.out⟩
  · have ej : (j == id) = false := by simpa using cj
    have HE := Lib.hid (show St.okJ id ⟨t, j, d, e⟩ = false by simp [St.okJ, cj])
    clear cj
    go_wp2
    go_ret
    exact ⟨by rw [HE.out]; rfl, HB.out⟩
set_option maxRecDepth 100000 in
set_option maxHeartbeats 3000000 in
theorem those_last (p : St.Ans → Bool) (hp : p = St.okT) (l : List St.Ans) (a : Option Addr) (len cap : Nat) (w : World) (hl : l.length = len) (hr : RowS w 4 a len cap (l.flatMap ancells)) (h100 : len ≤ 1000) :
    Calls Tryd.prog 27 #[.slice a len cap, .func (.func 28) #[] #[]] w fun r w' => ∃ v, r = .returned v ∧ w'.ownsRow w.heap.size 46 4 v (l.filter p).length ((l.filter p).flatMap ancells) ∧ Below w.heap.size w w' := by
  have HR := Lib.hid hr
  subst hl
  have HS := Lib.hid (fun (x : St.Ans) (w2 : World) (_ : True) => last1_walk x w2)
  rw [← hp] at HS
  have HI := Lib.hid (fun (w2 : World) (_ : Below w.heap.size w w2) => True.intro)
  clear hr hp
  go_enter Tryd.func27, Tryd.ntmps27
  go_wp2_with fail
  go_loopw [5, 10] (fun v vi wr => ∃ (k : Nat), k ≤ l.length ∧ vi = .int .i64 k ∧ wr.ownsRow w.heap.size 46 4 v ((l.take k).filter p).length (((l.take k).filter p).flatMap ancells) ∧ Below w.heap.size w wr) (fun _ i _ => l.length - (intOf i).toNat)
  case atStart => exact ⟨0, Nat.zero_le _, rfl, World.ownsRow_nil _ _ _ _, Below.refl _ _⟩
  case round =>
    obtain ⟨k, hk, rfl, hO, hB⟩ := hrel
    have HO := Lib.hid hO; have HB := Lib.hid hB
    clear hO hB
    by_cases hlt : k < l.length
    · have hlt' : (k : Int) < (l.length : Int) := by omega
      obtain ⟨b, off, rfl, hb, a0, a1, a2, a3⟩ := (HR.out.keep HB.out).ans k hlt rfl
      have HT := Lib.hid (St.filter_take p l k hlt)
      have HPL := Lib.hid (show ((l.take k).filter p).length ≤ 1000 by
        have := List.length_filter_le p (l.take k)
        rw [List.length_take] at this; omega)
      generalize l[k] = x at *
      have HC := Lib.hid (fun w2 h => HS.out x w2 h)
      obtain ⟨t, j, d, e⟩ := x
      simp only at a0 a1 a2 a3 HC
      go_upto_region 5 with (fail)
      have HO1 := Lib.hid (HO.out.alloc (.cells #[.int .i64 t, .int .i64 j, .string d, .int .i64 e] 46))
      have HB1 := Lib.hid (HB.out.alloc HB.out.size (.cells #[.int .i64 t, .int .i64 j, .string d, .int .i64 e] 46))
      have HX := Lib.hid (Has.new wr #[.int .i64 t, .int .i64 j, .string d, .int .i64 e] 46)
      have HN1 := Lib.hid (own_not HO.out (.inr (Nat.le_refl wr.heap.size)))
      clear a0 a1 a2 a3 HO HB hb
      generalize wr.heap.size = q at *
      generalize wr.alloc (.cells #[.int .i64 t, .int .i64 j, .string d, .int .i64 e] 46) = w5 at *
      have x0 := HX.out.cell 0; have x1 := HX.out.cell 1; have x2 := HX.out.cell 2; have x3 := HX.out.cell 3
      simp only [List.getElem?_toArray, List.getElem?_cons_zero, List.getElem?_cons_succ] at x0 x1 x2 x3
      go_wp2_with fail
      with_reducible refine (HC.out _ (HI.out _ HB1.out)).mono ?_
      rintro r6 w6 ⟨rfl, hb⟩
      have HO6 := Lib.hid (ownsRow_keep HO1.out hb)
      have HX6 := Lib.hid (HX.out.below hb HX.out.lt)
      have HB6 := Lib.hid (HB1.out.trans (hb.mono HB1.out.size))
      clear x0 x1 x2 x3 HO1 HX HB1 hb HC
      by_cases hp : p ⟨t, j, d, e⟩ = true
      · rw [hp]
        have HT2 := Lib.hid (show (l.take (k + 1)).filter p = (l.take k).filter p ++ [⟨t, j, d, e⟩] by rw [HT.out, if_pos hp])
        have hpl := HPL.out
        clear HT hp
        have x0 := HX6.out.cell 0; have x1 := HX6.out.cell 1; have x2 := HX6.out.cell 2; have x3 := HX6.out.cell 3
        simp only [List.getElem?_toArray, List.getElem?_cons_zero, List.getElem?_cons_succ] at x0 x1 x2 x3
        go_wp2_with (at_builtin; refine appendS Tryd.underlying39 info_ans41 rfl (by decide) rfl _ _ rfl w.heap.size ((l.take k).filter p).length _ _ rfl HO6.out #[Value.int .i64 t, Value.int .i64 j, Value.string d, Value.int .i64 e] rfl (by intro u hu; simp at hu; rcases hu with rfl | rfl | rfl | rfl <;> rfl) _ rfl rfl (by unfold maxLen; omega) (by omega) HB6.out.size ?_)
        intro g cap' w7 ho hc hb7 _ _ _
        have HO7 := Lib.hid (show w7.ownsRow w.heap.size 46 4 (.slice (some ⟨g, 0, none⟩) (((l.take k).filter p).length + 1) cap') ((l.take (k + 1)).filter p).length (((l.take (k + 1)).filter p).flatMap ancells) by
          rw [HT2.out, List.length_append, List.flatMap_append]; exact ho)
        have HB7 := Lib.hid (HB6.out.trans hb7)
        clear ho hc hb7 x0 x1 x2 x3 HO6 HB6 HT2 HX6
        go_wp2
        go_roundw
        case rel => exact ⟨k + 1, hlt, by go_num, HO7.out, HB7.out⟩
        case measure => simp [intOf]; omega
      · have hp2 : p ⟨t, j, d, e⟩ = false := by simpa using hp
        rw [hp2]
        have HO7 := Lib.hid (show w6.ownsRow w.heap.size 46 4 u5 ((l.take (k + 1)).filter p).length (((l.take (k + 1)).filter p).flatMap ancells) by
          rw [HT.out, if_neg hp]; exact HO6.out)
        clear HT hp hp2 HO6 HX6
        go_wp2_with fail
        go_roundw
        case rel => exact ⟨k + 1, hlt, by go_num, HO7.out, HB6.out⟩
        case measure => simp [intOf]; omega
    · have hlt' : ¬ (k : Int) < (l.length : Int) := by omega
      have hke : k = l.length := by omega
      subst hke
      rw [List.take_length] at HO
      go_wp2
      go_ret
      exact ⟨_, rfl, HO.out, HB.out⟩
set_option maxRecDepth 100000 in
set_option maxHeartbeats 3000000 in
theorem those_job (id : Int) (c : Addr) (p : St.Ans → Bool) (hp : p = St.okJ id) (l : List St.Ans) (a : Option Addr) (len cap : Nat) (w : World) (hl : l.length = len) (hr : RowS w 4 a len cap (l.flatMap ancells)) (h100 : len ≤ 1000) (hc : w.cell? c = some (.int .i64 id)) :
    Calls Tryd.prog 27 #[.slice a len cap, .func (.func 29) #[] #[.pointer (some c)]] w fun r w' => ∃ v, r = .returned v ∧ w'.ownsRow w.heap.size 46 4 v (l.filter p).length ((l.filter p).flatMap ancells) ∧ Below w.heap.size w w' := by
  have HR := Lib.hid hr
  subst hl
  have HS := Lib.hid (fun (x : St.Ans) (w2 : World) (h : w2.cell? c = some (.int .i64 id)) => job1_walk x id c w2 h)
  rw [← hp] at HS
  have HI := Lib.hid (fun (w2 : World) (h : Below w.heap.size w w2) => show w2.cell? c = some (.int .i64 id) by rw [h.cell (p := c) (World.block_lt_of_cell? _ _ hc)]; exact hc)
  clear hr hp hc
  go_enter Tryd.func27, Tryd.ntmps27
  go_wp2_with fail
  go_loopw [5, 10] (fun v vi wr => ∃ (k : Nat), k ≤ l.length ∧ vi = .int .i64 k ∧ wr.ownsRow w.heap.size 46 4 v ((l.take k).filter p).length (((l.take k).filter p).flatMap ancells) ∧ Below w.heap.size w wr) (fun _ i _ => l.length - (intOf i).toNat)
  case atStart => exact ⟨0, Nat.zero_le _, rfl, World.ownsRow_nil _ _ _ _, Below.refl _ _⟩
  case round =>
    obtain ⟨k, hk, rfl, hO, hB⟩ := hrel
    have HO := Lib.hid hO; have HB := Lib.hid hB
    clear hO hB
    by_cases hlt : k < l.length
    · have hlt' : (k : Int) < (l.length : Int) := by omega
      obtain ⟨b, off, rfl, hb, a0, a1, a2, a3⟩ := (HR.out.keep HB.out).ans k hlt rfl
      have HT := Lib.hid (St.filter_take p l k hlt)
      have HPL := Lib.hid (show ((l.take k).filter p).length ≤ 1000 by
        have := List.length_filter_le p (l.take k)
        rw [List.length_take] at this; omega)
      generalize l[k] = x at *
      have HC := Lib.hid (fun w2 h => HS.out x w2 h)
      obtain ⟨t, j, d, e⟩ := x
      simp only at a0 a1 a2 a3 HC
      go_upto_region 5 with (fail)
      have HO1 := Lib.hid (HO.out.alloc (.cells #[.int .i64 t, .int .i64 j, .string d, .int .i64 e] 46))
      have HB1 := Lib.hid (HB.out.alloc HB.out.size (.cells #[.int .i64 t, .int .i64 j, .string d, .int .i64 e] 46))
      have HX := Lib.hid (Has.new wr #[.int .i64 t, .int .i64 j, .string d, .int .i64 e] 46)
      have HN1 := Lib.hid (own_not HO.out (.inr (Nat.le_refl wr.heap.size)))
      clear a0 a1 a2 a3 HO HB hb
      generalize wr.heap.size = q at *
      generalize wr.alloc (.cells #[.int .i64 t, .int .i64 j, .string d, .int .i64 e] 46) = w5 at *
      have x0 := HX.out.cell 0; have x1 := HX.out.cell 1; have x2 := HX.out.cell 2; have x3 := HX.out.cell 3
      simp only [List.getElem?_toArray, List.getElem?_cons_zero, List.getElem?_cons_succ] at x0 x1 x2 x3
      go_wp2_with fail
      with_reducible refine (HC.out _ (HI.out _ HB1.out)).mono ?_
      rintro r6 w6 ⟨rfl, hb⟩
      have HO6 := Lib.hid (ownsRow_keep HO1.out hb)
      have HX6 := Lib.hid (HX.out.below hb HX.out.lt)
      have HB6 := Lib.hid (HB1.out.trans (hb.mono HB1.out.size))
      clear x0 x1 x2 x3 HO1 HX HB1 hb HC
      by_cases hp : p ⟨t, j, d, e⟩ = true
      · rw [hp]
        have HT2 := Lib.hid (show (l.take (k + 1)).filter p = (l.take k).filter p ++ [⟨t, j, d, e⟩] by rw [HT.out, if_pos hp])
        have hpl := HPL.out
        clear HT hp
        have x0 := HX6.out.cell 0; have x1 := HX6.out.cell 1; have x2 := HX6.out.cell 2; have x3 := HX6.out.cell 3
        simp only [List.getElem?_toArray, List.getElem?_cons_zero, List.getElem?_cons_succ] at x0 x1 x2 x3
        go_wp2_with (at_builtin; refine appendS Tryd.underlying39 info_ans41 rfl (by decide) rfl _ _ rfl w.heap.size ((l.take k).filter p).length _ _ rfl HO6.out #[Value.int .i64 t, Value.int .i64 j, Value.string d, Value.int .i64 e] rfl (by intro u hu; simp at hu; rcases hu with rfl | rfl | rfl | rfl <;> rfl) _ rfl rfl (by unfold maxLen; omega) (by omega) HB6.out.size ?_)
        intro g cap' w7 ho hc hb7 _ _ _
        have HO7 := Lib.hid (show w7.ownsRow w.heap.size 46 4 (.slice (some ⟨g, 0, none⟩) (((l.take k).filter p).length + 1) cap') ((l.take (k + 1)).filter p).length (((l.take (k + 1)).filter p).flatMap ancells) by
          rw [HT2.out, List.length_append, List.flatMap_append]; exact ho)
        have HB7 := Lib.hid (HB6.out.trans hb7)
        clear ho hc hb7 x0 x1 x2 x3 HO6 HB6 HT2 HX6
        go_wp2
        go_roundw
        case rel => exact ⟨k + 1, hlt, by go_num, HO7.out, HB7.out⟩
        case measure => simp [intOf]; omega
      · have hp2 : p ⟨t, j, d, e⟩ = false := by simpa using hp
        rw [hp2]
        have HO7 := Lib.hid (show w6.ownsRow w.heap.size 46 4 u5 ((l.take (k + 1)).filter p).length (((l.take (k + 1)).filter p).flatMap ancells) by
          rw [HT.out, if_neg hp]; exact HO6.out)
        clear HT hp hp2 HO6 HX6
        go_wp2_with fail
        go_roundw
        case rel => exact ⟨k + 1, hlt, by go_num, HO7.out, HB6.out⟩
        case measure => simp [intOf]; omega
    · have hlt' : ¬ (k : Int) < (l.length : Int) := by omega
      have hke : k = l.length := by omega
      subst hke
      rw [List.take_length] at HO
      go_wp2
      go_ret
      exact ⟨_, rfl, HO.out, HB.out⟩
end Go.Proofs.YtcogndjfalomjaaDoor
