/- A job's answers. -/
import Derived.Test.YtcogndjfalomjaaDoorStJob2
namespace Go.Proofs.YtcogndjfalomjaaDoor
open Go.RowKit
set_option linter.unusedVariables false
set_option linter.unusedSimpArgs false

set_option maxRecDepth 100000 in
set_option maxHeartbeats 1000000 in
theorem job_no (l : List St.Ans) (id : Int) (a : Option Addr) (len cap : Nat) (w : World) (hl : l.length = len) (hr : RowS w 4 a len cap (l.flatMap ancells)) (h : id < 0 ∨ 4294967295 < id) :
    Calls Tryd.prog 20 #[.slice a len cap, .int .i64 id] w fun r w' => r = .returned (.tuple #[.slice none 0 0, .int .i64 1]) ∧ Below w.heap.size w w' := by
  go_enter Tryd.func20, Tryd.ntmps20
  go_upto_region 1 with (fail)
  have hb := (Below.refl w.heap.size w).alloc (Nat.le_refl _) (.cells #[.int .i64 id] 3)
  have HR := Lib.hid (hr.keep hb)
  have HB := Lib.hid hb
  have c0 := (Has.new w #[.int .i64 id] 3).cell 0
  obtain ⟨q, hq⟩ : ∃ q, q = w.heap.size := ⟨_, rfl⟩
  rw [← hq] at c0
  rw [← hq]
  clear hq hr hb
  generalize w.alloc (.cells #[.int .i64 id] 3) = w1 at *
  simp only [List.getElem?_toArray, List.getElem?_cons_zero, List.getElem?_cons_succ] at c0
  by_cases c : id < 0
  · clear h
    go_wp2
    refine bodyPost_ret (results_tmp2 rfl _ _ _) rfl ?_
    exact ⟨rfl, HB.out⟩
  · have c2 : 4294967295 < id := by omega
    clear h
    go_wp2
    refine bodyPost_ret (results_tmp2 rfl _ _ _) rfl ?_
    exact ⟨rfl, HB.out⟩
set_option maxRecDepth 100000 in
set_option maxHeartbeats 1000000 in
theorem job_yes (l : List St.Ans) (id : Int) (a : Option Addr) (len cap : Nat) (w : World) (hl : l.length = len) (hr : RowS w 4 a len cap (l.flatMap ancells)) (h100 : len ≤ 1000) (h0 : ¬ id < 0) (h1 : ¬ 4294967295 < id) :
    Calls Tryd.prog 20 #[.slice a len cap, .int .i64 id] w fun r w' => ∃ v, r = .returned (.tuple #[v, .int .i64 0]) ∧ w'.ownsRow w.heap.size 46 4 v (l.filter (St.okJ id)).length ((l.filter (St.okJ id)).flatMap ancells) ∧ Below w.heap.size w w' := by
  have HJ := Lib.hid (fun c w hr hc => those_job id c (St.okJ id) rfl l a len cap w hl hr h100 hc)
  go_enter Tryd.func20, Tryd.ntmps20
  go_upto_region 1 with (fail)
  have hb := (Below.refl w.heap.size w).alloc (Nat.le_refl _) (.cells #[.int .i64 id] 3)
  have HR := Lib.hid (hr.keep hb)
  have HB := Lib.hid hb
  have c0 := (Has.new w #[.int .i64 id] 3).cell 0
  obtain ⟨q, hq⟩ : ∃ q, q = w.heap.size := ⟨_, rfl⟩
  rw [← hq] at c0
  rw [← hq]
  clear hq hr hb
  generalize w.alloc (.cells #[.int .i64 id] 3) = w1 at *
  simp only [List.getElem?_toArray, List.getElem?_cons_zero, List.getElem?_cons_succ] at c0
  go_wp2_with fail
  with_reducible refine (HJ.out _ _ HR.out c0).mono ?_
  rintro r2 w2 ⟨v, rfl, ho, hb⟩
  have HO := Lib.hid (ownsRow_mono ho HB.out.size)
  have HB2 := Lib.hid (HB.out.trans (hb.mono HB.out.size))
  clear ho hb
  go_wp2
  refine bodyPost_ret (results_tmp2 rfl _ _ _) rfl ?_
  exact ⟨_, rfl, HO.out, HB2.out⟩
end Go.Proofs.YtcogndjfalomjaaDoor
