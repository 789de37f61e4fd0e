/- Structs that are not the same. -/
import Derived.Test.YtckdbkbecelgcaaDoorPrMath
import Derived.WalkKit
import Derived.Laws.StructEq
namespace Go.Proofs.YtckdbkbecelgcaaDoor
open Go.RowKit
set_option linter.unusedVariables false
set_option linter.unusedSimpArgs false

def rqV (r : Pr.Rq) : Value := .agg #[.int .i64 r.t, .int .i64 r.j, .string r.tok, .string r.txt, .int .i64 r.k, .int .i64 r.lv, .int .i64 r.n]
def anV (a : Pr.An) : Value := .agg #[.int .i64 a.t, .int .i64 a.j, .string a.txt, .int .i64 a.err]
set_option maxRecDepth 100000 in
set_option maxHeartbeats 800000 in
theorem rq_neq (x r : Pr.Rq) (h : x ≠ r) (w : World) : (binOp .neq 27 (rqV x) (rqV r)).run Tryd.prog w = .ok (.bool true) w := by
  obtain ⟨t, j, tok, txt, k, lv, n⟩ := x
  obtain ⟨t', j', tok', txt', k', lv', n'⟩ := r
  unfold rqV
  simp only
  have hfs : Tryd.prog.underlying 27 = some (.struct (Tryd.prog.fieldsOf 27)) := by kernel_rfl
  rw [run_neq_struct, run_equalIn_struct w 9999 _ _ _ hfs (by kernel_rfl)]
  clear hfs
  have e2 : ∀ a b : ByteArray, a ≠ b → (a.toList == b.toList) = false := fun a b hab => by
    apply Bool.eq_false_iff.2
    intro e
    apply hab
    have e3 := beq_iff_eq.1 e
    rw [ByteArray.toList_eq, ByteArray.toList_eq] at e3
    exact Fr.bs_inj e3
  by_cases a1 : t = t'
  · subst a1
    by_cases a2 : j = j'
    · subst a2
      by_cases a3 : tok = tok'
      · subst a3
        by_cases a4 : txt = txt'
        · subst a4
          by_cases a5 : k = k'
          · subst a5
            by_cases a6 : lv = lv'
            · subst a6
              have a7 : n ≠ n' := fun e => h (by rw [e])
              have f : (n == n') = false := by simpa using a7
              clear h e2
              go_simp
            · have f : (lv == lv') = false := by simpa using a6
              clear h e2
              go_simp
          · have f : (k == k') = false := by simpa using a5
            clear h e2
            go_simp
        · have f := e2 _ _ a4
          clear h e2
          go_simp
      · have f := e2 _ _ a3
        clear h e2
        go_simp
    · have f : (j == j') = false := by simpa using a2
      clear h e2
      go_simp
  · have f : (t == t') = false := by simpa using a1
    clear h e2
    go_simp
set_option maxRecDepth 100000 in
set_option maxHeartbeats 800000 in
theorem rrq_neq (x r : Pr.Rq) (h : x ≠ r) (w : World) : (binOp .neq 31 (rqV x) (rqV r)).run Tryd.prog w = .ok (.bool true) w := by
  obtain ⟨t, j, tok, txt, k, lv, n⟩ := x
  obtain ⟨t', j', tok', txt', k', lv', n'⟩ := r
  unfold rqV
  simp only
  have hfs : Tryd.prog.underlying 31 = some (.struct (Tryd.prog.fieldsOf 31)) := by kernel_rfl
  rw [run_neq_struct, run_equalIn_struct w 9999 _ _ _ hfs (by kernel_rfl)]
  clear hfs
  have e2 : ∀ a b : ByteArray, a ≠ b → (a.toList == b.toList) = false := fun a b hab => by
    apply Bool.eq_false_iff.2
    intro e
    apply hab
    have e3 := beq_iff_eq.1 e
    rw [ByteArray.toList_eq, ByteArray.toList_eq] at e3
    exact Fr.bs_inj e3
  by_cases a1 : t = t'
  · subst a1
    by_cases a2 : j = j'
    · subst a2
      by_cases a3 : tok = tok'
      · subst a3
        by_cases a4 : txt = txt'
        · subst a4
          by_cases a5 : k = k'
          · subst a5
            by_cases a6 : lv = lv'
            · subst a6
              have a7 : n ≠ n' := fun e => h (by rw [e])
              have f : (n == n') = false := by simpa using a7
              clear h e2
              go_simp
            · have f : (lv == lv') = false := by simpa using a6
              clear h e2
              go_simp
          · have f : (k == k') = false := by simpa using a5
            clear h e2
            go_simp
        · have f := e2 _ _ a4
          clear h e2
          go_simp
      · have f := e2 _ _ a3
        clear h e2
        go_simp
    · have f : (j == j') = false := by simpa using a2
      clear h e2
      go_simp
  · have f : (t == t') = false := by simpa using a1
    clear h e2
    go_simp
set_option maxRecDepth 100000 in
set_option maxHeartbeats 800000 in
theorem an_neq (x y : Pr.An) (h : x ≠ y) (w : World) : (binOp .neq 42 (anV x) (anV y)).run Tryd.prog w = .ok (.bool true) w := by
  obtain ⟨t, j, txt, r⟩ := x
  obtain ⟨t', j', txt', r'⟩ := y
  unfold anV
  simp only
  have hfs : Tryd.prog.underlying 42 = some (.struct (Tryd.prog.fieldsOf 42)) := by kernel_rfl
  rw [run_neq_struct, run_equalIn_struct w 9999 _ _ _ hfs (by kernel_rfl)]
  clear hfs
  have e2 : ∀ a b : ByteArray, a ≠ b → (a.toList == b.toList) = false := fun a b hab => by
    apply Bool.eq_false_iff.2
    intro e
    apply hab
    have e3 := beq_iff_eq.1 e
    rw [ByteArray.toList_eq, ByteArray.toList_eq] at e3
    exact Fr.bs_inj e3
  by_cases a1 : t = t'
  · subst a1
    by_cases a2 : j = j'
    · subst a2
      by_cases a3 : txt = txt'
      · subst a3
        have a4 : r ≠ r' := fun e => h (by rw [e])
        have f : (r == r') = false := by simpa using a4
        clear h e2
        go_simp
      · have f := e2 _ _ a3
        clear h e2
        go_simp
    · have f : (j == j') = false := by simpa using a2
      clear h e2
      go_simp
  · have f : (t == t') = false := by simpa using a1
    clear h e2
    go_simp
set_option maxRecDepth 100000 in
set_option maxHeartbeats 800000 in
theorem ran_neq (x y : Pr.An) (h : x ≠ y) (w : World) : (binOp .neq 45 (anV x) (anV y)).run Tryd.prog w = .ok (.bool true) w := by
  obtain ⟨t, j, txt, r⟩ := x
  obtain ⟨t', j', txt', r'⟩ := y
  unfold anV
  simp only
  have hfs : Tryd.prog.underlying 45 = some (.struct (Tryd.prog.fieldsOf 45)) := by kernel_rfl
  rw [run_neq_struct, run_equalIn_struct w 9999 _ _ _ hfs (by kernel_rfl)]
  clear hfs
  have e2 : ∀ a b : ByteArray, a ≠ b → (a.toList == b.toList) = false := fun a b hab => by
    apply Bool.eq_false_iff.2
    intro e
    apply hab
    have e3 := beq_iff_eq.1 e
    rw [ByteArray.toList_eq, ByteArray.toList_eq] at e3
    exact Fr.bs_inj e3
  by_cases a1 : t = t'
  · subst a1
    by_cases a2 : j = j'
    · subst a2
      by_cases a3 : txt = txt'
      · subst a3
        have a4 : r ≠ r' := fun e => h (by rw [e])
        have f : (r == r') = false := by simpa using a4
        clear h e2
        go_simp
      · have f := e2 _ _ a3
        clear h e2
        go_simp
    · have f : (j == j') = false := by simpa using a2
      clear h e2
      go_simp
  · have f : (t == t') = false := by simpa using a1
    clear h e2
    go_simp
end Go.Proofs.YtckdbkbecelgcaaDoor
