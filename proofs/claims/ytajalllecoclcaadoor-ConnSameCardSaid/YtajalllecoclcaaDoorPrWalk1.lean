/- Requests: whole, kind; the reference's whole, open. -/
import Derived.Test.YtajalllecoclcaaDoorPrMath
import Derived.Test.YtajalllecoclcaaDoorFrameWalk1
import Derived.Test.YtajalllecoclcaaDoorRet
namespace Go.Proofs.YtajalllecoclcaaDoor
open Go.RowKit
set_option linter.unusedVariables false
set_option linter.unusedSimpArgs false

theorem results_cell_tmp1 {fn : Func} {p u : Tmp} {ty : TypeId} (h : fn.results = #[.cell p ty, .tmp u]) (tmps : Array Value) (P : Program) (w : World) :
    (results fn tmps).run P w = ((asAddr (tmps.getD p undef)).run P w).andThen fun a w₁ => ((loadVar ty a).run P w₁).andThen fun x w₂ => .ok (.tuple #[x, tmps.getD u undef]) w₂ := by
  simp only [results, h]
  simp [Sem.run_bind, Result.andThen]
set_option maxRecDepth 100000 in
set_option maxHeartbeats 400000 in
theorem pwhole_walk (t j : Int) (d : ByteArray) (w : World) : Calls Tryd.prog 40 #[.agg #[.int .i64 t, .int .i64 j, .string d]] w fun e w' => e = .returned (.bool (Pr.whole ⟨t, j, d⟩)) ∧ Below w.heap.size w w' := by
  unfold Pr.whole
  simp only
  by_cases c1 : 0 ≤ j
  · have e1 : decide (0 ≤ j) = true := by simpa using c1
    by_cases c2 : j ≤ 4294967295
    · have e2 : decide (j ≤ 4294967295) = true := by simpa using c2
      by_cases c3 : d.size ≤ 65536
      · have e3 : decide ((d.size : Int) ≤ 65536) = true := by simp; omega
        rw [decide_eq_true ⟨c1, c2, c3⟩]
        clear c1 c2 c3
        go_enter Tryd.func40, Tryd.ntmps40
        go_wp2
        go_ret
        exact ⟨rfl, (Below.refl _ _).alloc (Nat.le_refl _) _⟩
      · have e3 : decide ((d.size : Int) ≤ 65536) = false := by simp; omega
        rw [decide_eq_false (fun x => c3 x.2.2)]
        clear c1 c2 c3
        go_enter Tryd.func40, Tryd.ntmps40
        go_wp2
        go_ret
        exact ⟨rfl, (Below.refl _ _).alloc (Nat.le_refl _) _⟩
    · have e2 : decide (j ≤ 4294967295) = false := by simpa using c2
      rw [decide_eq_false (fun x => c2 x.2.1)]
      clear c1 c2
      go_enter Tryd.func40, Tryd.ntmps40
      go_wp2
      go_ret
      exact ⟨rfl, (Below.refl _ _).alloc (Nat.le_refl _) _⟩
  · have e1 : decide (0 ≤ j) = false := by simpa using c1
    rw [decide_eq_false (fun x => c1 x.1)]
    clear c1
    go_enter Tryd.func40, Tryd.ntmps40
    go_wp2
    go_ret
    exact ⟨rfl, (Below.refl _ _).alloc (Nat.le_refl _) _⟩
set_option maxRecDepth 100000 in
set_option maxHeartbeats 400000 in
theorem rwhole_walk (t j : Int) (d : ByteArray) (w : World) : Calls Tryd.prog 50 #[.agg #[.int .i64 t, .int .i64 j, .string d]] w fun e w' => e = .returned (.bool (Pr.whole ⟨t, j, d⟩)) ∧ Below w.heap.size w w' := by
  unfold Pr.whole
  simp only
  by_cases c1 : 0 ≤ j
  · have e1 : decide (0 ≤ j) = true := by simpa using c1
    by_cases c2 : j ≤ 4294967295
    · have e2 : decide (j ≤ 4294967295) = true := by simpa using c2
      by_cases c3 : d.size ≤ 65536
      · have e3 : decide ((d.size : Int) ≤ 65536) = true := by simp; omega
        rw [decide_eq_true ⟨c1, c2, c3⟩]
        clear c1 c2 c3
        go_enter Tryd.func50, Tryd.ntmps50
        go_wp2
        go_ret
        exact ⟨rfl, (Below.refl _ _).alloc (Nat.le_refl _) _⟩
      · have e3 : decide ((d.size : Int) ≤ 65536) = false := by simp; omega
        rw [decide_eq_false (fun x => c3 x.2.2)]
        clear c1 c2 c3
        go_enter Tryd.func50, Tryd.ntmps50
        go_wp2
        go_ret
        exact ⟨rfl, (Below.refl _ _).alloc (Nat.le_refl _) _⟩
    · have e2 : decide (j ≤ 4294967295) = false := by simpa using c2
      rw [decide_eq_false (fun x => c2 x.2.1)]
      clear c1 c2
      go_enter Tryd.func50, Tryd.ntmps50
      go_wp2
      go_ret
      exact ⟨rfl, (Below.refl _ _).alloc (Nat.le_refl _) _⟩
  · have e1 : decide (0 ≤ j) = false := by simpa using c1
    rw [decide_eq_false (fun x => c1 x.1)]
    clear c1
    go_enter Tryd.func50, Tryd.ntmps50
    go_wp2
    go_ret
    exact ⟨rfl, (Below.refl _ _).alloc (Nat.le_refl _) _⟩
theorem dstr (d : ByteArray) (x : UInt8) (h : d ≠ ⟨#[x]⟩) : (d.toList == [x]) = false := by
  apply Bool.eq_false_iff.2
  intro e
  apply h
  have e2 : d.data.toList = [x] := by rw [← ByteArray.toList_eq]; exact beq_iff_eq.1 e
  exact Fr.bs_inj e2
/-- the ways of an Open's data -/
theorem kcases (d : ByteArray) : d = ⟨#[120]⟩ ∨ d = ⟨#[116]⟩ ∨ ((d.toList == [120]) = false ∧ (d.toList == [116]) = false ∧
    ((((d.size : Int) == 2) = false ∧ Pr.openK d = (0, 0)) ∨ ∃ (h0 : 0 < d.size) (h1 : 1 < d.size), ((d.size : Int) == 2) = true ∧
      ((((d[0].toNat : Int) == 99) = false ∧ Pr.openK d = (0, 0)) ∨ (((d[0].toNat : Int) == 99) = true ∧
        ((decide ((49 : Int) ≤ (d[1].toNat : Int)) = false ∧ Pr.openK d = (0, 0)) ∨ (decide ((49 : Int) ≤ (d[1].toNat : Int)) = true ∧
          ((decide ((d[1].toNat : Int) ≤ 57) = false ∧ Pr.openK d = (0, 0)) ∨ (decide ((d[1].toNat : Int) ≤ 57) = true ∧ (49 : Int) ≤ (d[1].toNat : Int) ∧ (d[1].toNat : Int) ≤ 57 ∧ Pr.openK d = ((1 : Int), (d[1].toNat : Int) - 48))))))))) := by
  by_cases c1 : d = ⟨#[120]⟩
  · exact .inl c1
  by_cases c2 : d = ⟨#[116]⟩
  · exact .inr (.inl c2)
  refine .inr (.inr ⟨dstr d 120 c1, dstr d 116 c2, ?_⟩)
  unfold Pr.openK
  rw [if_neg c1, if_neg c2]
  by_cases c3 : d.size = 2
  · have h0 : 0 < d.size := by omega
    have h1 : 1 < d.size := by omega
    have g0 : d.data.toList.getD 0 0 = d[0] := by rw [List.getD, List.getElem?_eq_getElem (by rw [llen]; exact h0), lget d 0 h0]; rfl
    have g1 : d.data.toList.getD 1 0 = d[1] := by rw [List.getD, List.getElem?_eq_getElem (by rw [llen]; exact h1), lget d 1 h1]; rfl
    rw [g0, g1]
    refine .inr ⟨h0, h1, by rw [c3]; rfl, ?_⟩
    by_cases c4 : d[0] = 99
    · refine .inr ⟨by rw [c4]; rfl, ?_⟩
      by_cases c5 : 49 ≤ d[1].toNat
      · refine .inr ⟨by simp; omega, ?_⟩
        by_cases c6 : d[1].toNat ≤ 57
        · exact .inr ⟨by simp; omega, by omega, by omega, by rw [if_pos ⟨c3, c4, c5, c6⟩]⟩
        · exact .inl ⟨by simp; omega, by rw [if_neg (fun x => c6 x.2.2.2)]⟩
      · exact .inl ⟨by simp; omega, by rw [if_neg (fun x => c5 x.2.2.1)]⟩
    · refine .inl ⟨?_, by rw [if_neg (fun x => c4 x.2.1)]⟩
      exact u8_ne d[0] 99 c4
  · refine .inl ⟨by simpa using (by omega : (d.size : Int) ≠ 2), by rw [if_neg (fun x => c3 x.1)]⟩
theorem bne_of {a c : Int} {b : Bool} (h : (a == c) = b) : (a != c) = !b := by unfold bne; rw [h]
theorem lt_of_le {a c : Int} {b : Bool} (h : decide (c ≤ a) = b) : decide (a < c) = !b := by
  rw [← h, Bool.eq_iff_iff]
  simp
theorem gt_of_le {a c : Int} {b : Bool} (h : decide (a ≤ c) = b) : decide (c < a) = !b := by
  rw [← h, Bool.eq_iff_iff]
  simp
theorem kx : Pr.openK ⟨#[120]⟩ = (2, 0) := by kernel_rfl
theorem kt : Pr.openK ⟨#[116]⟩ = (3, 0) := by kernel_rfl
set_option maxRecDepth 100000 in
set_option maxHeartbeats 800000 in
theorem kind_walk (d : ByteArray) (w : World) : Calls Tryd.prog 42 #[.string d] w fun e w' => e = .returned (.tuple #[.int .i64 (Pr.openK d).1, .int .i64 (Pr.openK d).2]) ∧ Below w.heap.size w w' := by
  rcases kcases d with rfl | rfl | ⟨q1, q2, ⟨q3, ho⟩ | ⟨h0, h1, q3, ⟨q4, ho⟩ | ⟨q4, ⟨q5, ho⟩ | ⟨q5, ⟨q6, ho⟩ | ⟨q6, q7, q8, ho⟩⟩⟩⟩⟩
  · rw [kx]
    go_enter Tryd.func42, Tryd.ntmps42
    go_wp2
    go_ret2
    exact ⟨rfl, Below.refl _ _⟩
  · rw [kt]
    go_enter Tryd.func42, Tryd.ntmps42
    go_wp2
    go_ret2
    exact ⟨rfl, Below.refl _ _⟩
  · rw [ho]
    clear ho
    go_enter Tryd.func42, Tryd.ntmps42
    go_wp2
    go_ret2
    exact ⟨rfl, Below.refl _ _⟩
  · have h0' : (0 : Int) < (d.size : Int) := by omega
    have h1' : (1 : Int) < (d.size : Int) := by omega
    rw [ho]
    clear ho
    go_enter Tryd.func42, Tryd.ntmps42
    go_wp2
    go_ret2
    exact ⟨rfl, Below.refl _ _⟩
  · have h0' : (0 : Int) < (d.size : Int) := by omega
    have h1' : (1 : Int) < (d.size : Int) := by omega
    rw [ho]
    clear ho
    go_enter Tryd.func42, Tryd.ntmps42
    go_wp2
    go_ret2
    exact ⟨rfl, Below.refl _ _⟩
  · have h0' : (0 : Int) < (d.size : Int) := by omega
    have h1' : (1 : Int) < (d.size : Int) := by omega
    rw [ho]
    clear ho
    go_enter Tryd.func42, Tryd.ntmps42
    go_wp2
    go_ret2
    exact ⟨rfl, Below.refl _ _⟩
  · have h0' : (0 : Int) < (d.size : Int) := by omega
    have h1' : (1 : Int) < (d.size : Int) := by omega
    rw [ho]
    clear ho
    go_enter Tryd.func42, Tryd.ntmps42
    go_upto_region 6 with (fail)
    refine region_later 6 (by kernel_rfl) (by kernel_rfl) ?_
    simp only [List.take_succ_cons, List.take_zero, List.drop_succ_cons, List.drop_zero]
    repeat (go_big_quiet_step (fail))
    refine wpQuiet_nil ?_
    rintro w' ⟨x, rfl⟩
    have hb := x.below
    generalize x.at = w2 at *
    go_wp2
    go_ret2
    exact ⟨rfl, hb⟩
/-- a request's cells -/
def rqC (r : Pr.Rq) : List Value := [.int .i64 r.t, .int .i64 r.j, .string r.tok, .string r.txt, .int .i64 r.k, .int .i64 r.lv, .int .i64 r.n]
def askV (o : Option Pr.Rq) : Value := match o with
  | some r => .agg #[.int .i64 r.t, .int .i64 r.j, .string r.tok, .string r.txt, .int .i64 r.k, .int .i64 r.lv, .int .i64 r.n, .bool true]
  | none => .agg #[.int .i64 0, .int .i64 0, .string ⟨#[]⟩, .string ⟨#[]⟩, .int .i64 0, .int .i64 0, .int .i64 0, .bool false]
def openV (j : Int) (d : ByteArray) : Option Pr.Rq := if (Pr.openK d).1 = 0 then none else some ⟨2, j, Pr.e0, Pr.e0, (Pr.openK d).1, (Pr.openK d).2, 0⟩
end Go.Proofs.YtajalllecoclcaaDoor
