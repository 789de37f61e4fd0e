/- The reference's acts: Tenant, Had, Opened, refuse. The reference's acts: login, open, Step. The reference's acts: open, Step. -/
import Derived.Test.YtajalllecoclcaaDoorCnKey
import Derived.Test.YtajalllecoclcaaDoorPrReadR
import Derived.Test.YtajalllecoclcaaDoorTnFindR
namespace Go.Proofs.YtajalllecoclcaaDoor
open Go.RowKit
set_option linter.unusedVariables false
set_option linter.unusedSimpArgs false

namespace Cn
theorem tenant_at (L : List Act) (k : Nat) (h : k < L.length) : tenant (L.drop k) = if L[k].what = 2 then L[k].ten else tenant (L.drop (k + 1)) := by
  rw [List.drop_eq_getElem_cons h]; rfl
theorem tenant_end (L : List Act) (k : Nat) (h : L.length ≤ k) : tenant (L.drop k) = -1 := by rw [List.drop_eq_nil_of_le h]; rfl
theorem had_at (L : List Act) (q j : Int) (k : Nat) (h : k < L.length) : had (L.drop k) q j = ((decide (L[k].what = q) && decide (L[k].job = j)) || had (L.drop (k + 1)) q j) := by
  rw [List.drop_eq_getElem_cons h]; rfl
theorem had_end (L : List Act) (q j : Int) (k : Nat) (h : L.length ≤ k) : had (L.drop k) q j = false := by rw [List.drop_eq_nil_of_le h]; rfl
theorem opened_at (L : List Act) (k : Nat) (h : k < L.length) : opened (L.drop k) = (if L[k].what = 3 then 1 else 0) + opened (L.drop (k + 1)) := by
  rw [List.drop_eq_getElem_cons h]
  unfold opened
  rw [List.countP_cons]
  by_cases c : L[k].what = 3
  · simp [c, Nat.add_comm]
  · simp [c]
theorem opened_end (L : List Act) (k : Nat) (h : L.length ≤ k) : opened (L.drop k) = 0 := by rw [List.drop_eq_nil_of_le h]; rfl
theorem opened_le (L : List Act) : opened L ≤ L.length := List.countP_le_length
end Cn
set_option maxRecDepth 100000 in
set_option maxHeartbeats 1000000 in
theorem reftenant_walk (L : List Cn.Act) (ta : Option Addr) (tl tc : Nat) (la : Option Addr) (lc : Nat) (w : World) (hr : RowS w 8 la L.length lc (L.flatMap accells)) (h60 : L.length ≤ 60) :
    Calls Tryd.prog 20 #[.agg #[.slice ta tl tc, .slice la L.length lc]] w fun r w' => r = .returned (.int .i64 (Cn.tenant L)) ∧ Below w.heap.size w w' := by
  have HR0 := Lib.hid hr
  have HQ := Lib.hid h60
  have HAT := Lib.hid (fun k h => Cn.tenant_at L k h)
  have HE := Lib.hid (fun k h => Cn.tenant_end L k h)
  have HS := Lib.hid (show Cn.tenant (L.drop 0) = Cn.tenant L by rw [List.drop_zero])
  generalize Cn.tenant L = R at *
  clear hr h60
  go_enter Tryd.func20, Tryd.ntmps20
  go_upto_region 1 with (fail)
  have HB0 := Lib.hid ((Below.refl _ w).alloc (Nat.le_refl _) (.cells #[.slice ta tl tc, .slice la L.length lc] 33))
  have HA := Lib.hid (Has.new w #[.slice ta tl tc, .slice la L.length lc] 33)
  generalize w.alloc (.cells #[.slice ta tl tc, .slice la L.length lc] 33) = w1 at *
  have a1 := HA.out.cell 1
  simp only [List.getElem?_toArray, List.getElem?_cons_zero, List.getElem?_cons_succ] at a1
  go_wp2_with fail
  clear a1 HA
  have HR := Lib.hid (HR0.out.keep HB0.out)
  go_loopw [8] (fun vi wr => ∃ (k : Nat), k ≤ L.length ∧ vi = .int .i64 k ∧ Cn.tenant (L.drop k) = R ∧ Below w1.heap.size w1 wr) (fun i _ => L.length - (intOf i).toNat)
  case atStart => exact ⟨0, Nat.zero_le _, rfl, HS.out, Below.refl _ _⟩
  case round =>
    obtain ⟨k, hk, rfl, hag, hB⟩ := hrel
    have HB := Lib.hid hB
    clear hB HS
    by_cases hlt : k < L.length
    · have hlt' : (k : Int) < (L.length : Int) := by omega
      have hw := large_wrap k _ HQ.out hlt
      obtain ⟨b, off, rfl, hb, c0, c1, c2, c3, c4, c5, c6, c7⟩ := (HR.out.keep HB.out).act k hlt hlt
      rw [HAT.out k hlt] at hag
      generalize L[k] = x at *
      obtain ⟨x0, x1, x2, x3, x4, x5, x6, x7⟩ := x
      simp only at c0 c1 c2 c3 c4 c5 c6 c7 hag
      go_upto_region 4 with (fail)
      have HB1 := Lib.hid (HB.out.alloc HB.out.size (.cells #[.int .i64 x0, .int .i64 x1, .int .i64 x2, .int .i64 x3, .int .i64 x4, .int .i64 x5, .string x6, .int .i64 x7] 44))
      have HX := Has.new wr #[.int .i64 x0, .int .i64 x1, .int .i64 x2, .int .i64 x3, .int .i64 x4, .int .i64 x5, .string x6, .int .i64 x7] 44
      clear c0 c1 c2 c3 c4 c5 c6 c7 HB hb
      generalize wr.heap.size = p at *
      generalize wr.alloc (.cells #[.int .i64 x0, .int .i64 x1, .int .i64 x2, .int .i64 x3, .int .i64 x4, .int .i64 x5, .string x6, .int .i64 x7] 44) = w5 at *
      have c0 := HX.cell 0; have c1 := HX.cell 1; have c2 := HX.cell 2
      simp only [List.getElem?_toArray, List.getElem?_cons_zero, List.getElem?_cons_succ] at c0 c1 c2
      clear HX
      by_cases c : x0 = 2
      · rw [if_pos c] at hag
        have HF := Lib.hid hag
        subst c
        clear hag
        go_wp2
        go_ret
        exact ⟨by rw [← HF.out]; rfl, HB0.out.trans (HB1.out.mono HB0.out.size)⟩
      · rw [if_neg c] at hag
        have HG := Lib.hid hag
        have q : (x0 == 2) = false := by simpa using c
        clear hag c
        go_wp2_with fail
        go_roundw
        case rel => exact ⟨k + 1, hlt, by go_num, HG.out, HB1.out⟩
        case measure => rw [hw]; exact large_meas k _ hlt
    · have hlt' : ¬ (k : Int) < (L.length : Int) := by omega
      rw [HE.out k (by omega)] at hag
      have HF := Lib.hid hag
      clear hag
      go_wp2
      go_ret
      exact ⟨by rw [← HF.out]; rfl, HB0.out.trans (HB.out.mono HB0.out.size)⟩
set_option maxRecDepth 100000 in
set_option maxHeartbeats 1000000 in
theorem refhad_walk (L : List Cn.Act) (ta : Option Addr) (tl tc : Nat) (la : Option Addr) (lc : Nat) (q j : Int) (w : World) (hr : RowS w 8 la L.length lc (L.flatMap accells)) (h60 : L.length ≤ 60) :
    Calls Tryd.prog 23 #[.agg #[.slice ta tl tc, .slice la L.length lc], .int .i64 q, .int .i64 j] w fun r w' => r = .returned (.bool (Cn.had L q j)) ∧ Below w.heap.size w w' := by
  have HR0 := Lib.hid hr
  have HQ := Lib.hid h60
  have HAT := Lib.hid (fun k h => Cn.had_at L q j k h)
  have HE := Lib.hid (fun k h => Cn.had_end L q j k h)
  have HS := Lib.hid (show Cn.had (L.drop 0) q j = Cn.had L q j by rw [List.drop_zero])
  generalize Cn.had L q j = R at *
  clear hr h60
  go_enter Tryd.func23, Tryd.ntmps23
  go_upto_region 1 with (fail)
  have HB0 := Lib.hid ((Below.refl _ w).alloc (Nat.le_refl _) (.cells #[.slice ta tl tc, .slice la L.length lc] 33))
  have HA := Lib.hid (Has.new w #[.slice ta tl tc, .slice la L.length lc] 33)
  generalize w.alloc (.cells #[.slice ta tl tc, .slice la L.length lc] 33) = w1 at *
  have a1 := HA.out.cell 1
  simp only [List.getElem?_toArray, List.getElem?_cons_zero, List.getElem?_cons_succ] at a1
  go_wp2_with fail
  clear a1 HA
  have HR := Lib.hid (HR0.out.keep HB0.out)
  go_loopw [12] (fun vi wr => ∃ (k : Nat), k ≤ L.length ∧ vi = .int .i64 k ∧ Cn.had (L.drop k) q j = R ∧ Below w1.heap.size w1 wr) (fun i _ => L.length - (intOf i).toNat)
  case atStart => exact ⟨0, Nat.zero_le _, rfl, HS.out, Below.refl _ _⟩
  case round =>
    obtain ⟨k, hk, rfl, hag, hB⟩ := hrel
    have HB := Lib.hid hB
    clear hB HS
    by_cases hlt : k < L.length
    · have hlt' : (k : Int) < (L.length : Int) := by omega
      have hw := large_wrap k _ HQ.out hlt
      obtain ⟨b, off, rfl, hb, c0, c1, c2, c3, c4, c5, c6, c7⟩ := (HR.out.keep HB.out).act k hlt hlt
      rw [HAT.out k hlt] at hag
      generalize L[k] = x at *
      obtain ⟨x0, x1, x2, x3, x4, x5, x6, x7⟩ := x
      simp only at c0 c1 c2 c3 c4 c5 c6 c7 hag
      go_upto_region 4 with (fail)
      have HB1 := Lib.hid (HB.out.alloc HB.out.size (.cells #[.int .i64 x0, .int .i64 x1, .int .i64 x2, .int .i64 x3, .int .i64 x4, .int .i64 x5, .string x6, .int .i64 x7] 44))
      have HX := Has.new wr #[.int .i64 x0, .int .i64 x1, .int .i64 x2, .int .i64 x3, .int .i64 x4, .int .i64 x5, .string x6, .int .i64 x7] 44
      clear c0 c1 c2 c3 c4 c5 c6 c7 HB hb
      generalize wr.heap.size = p at *
      generalize wr.alloc (.cells #[.int .i64 x0, .int .i64 x1, .int .i64 x2, .int .i64 x3, .int .i64 x4, .int .i64 x5, .string x6, .int .i64 x7] 44) = w5 at *
      have c0 := HX.cell 0; have c1 := HX.cell 1; have c2 := HX.cell 2
      simp only [List.getElem?_toArray, List.getElem?_cons_zero, List.getElem?_cons_succ] at c0 c1 c2
      clear HX
      by_cases d1 : x0 = q
      · by_cases d2 : x1 = j
        · rw [decide_eq_true d1, decide_eq_true d2, Bool.true_and, Bool.true_or] at hag
          have HF := Lib.hid hag
          subst d1 d2
          clear hag
          go_wp2
          go_ret
          exact ⟨by rw [← HF.out]; rfl, HB0.out.trans (HB1.out.mono HB0.out.size)⟩
        · rw [decide_eq_false d2, Bool.and_false, Bool.false_or] at hag
          have HG := Lib.hid hag
          have q1 : (x1 == j) = false := by simpa using d2
          subst d1
          clear hag d2
          go_wp2_with fail
          go_roundw
          case rel => exact ⟨k + 1, hlt, by go_num, HG.out, HB1.out⟩
          case measure => rw [hw]; exact large_meas k _ hlt
      · rw [decide_eq_false d1, Bool.false_and, Bool.false_or] at hag
        have HG := Lib.hid hag
        have q1 : (x0 == q) = false := by simpa using d1
        clear hag d1
        go_wp2_with fail
        go_roundw
        case rel => exact ⟨k + 1, hlt, by go_num, HG.out, HB1.out⟩
        case measure => rw [hw]; exact large_meas k _ hlt
    · have hlt' : ¬ (k : Int) < (L.length : Int) := by omega
      rw [HE.out k (by omega)] at hag
      have HF := Lib.hid hag
      clear hag
      go_wp2
      go_ret
      exact ⟨by rw [← HF.out]; rfl, HB0.out.trans (HB.out.mono HB0.out.size)⟩
theorem opened_next (c k R r n x : Nat) (h : c + (x + r) = R) (hc : c ≤ k) (hx : x ≤ 1) : (c + x) + r = R ∧ c + x ≤ k + 1 := by omega
theorem opened_wrap (c k n : Nat) (hc : c ≤ k) (hk : k < n) (hn : n ≤ 60) : wrap64 ((c : Int) + 1) = (c : Int) + 1 := by unfold wrap64; omega
set_option maxRecDepth 100000 in
set_option maxHeartbeats 1000000 in
theorem refopened_walk (L : List Cn.Act) (ta : Option Addr) (tl tc : Nat) (la : Option Addr) (lc : Nat) (w : World) (hr : RowS w 8 la L.length lc (L.flatMap accells)) (h60 : L.length ≤ 60) :
    Calls Tryd.prog 21 #[.agg #[.slice ta tl tc, .slice la L.length lc]] w fun r w' => r = .returned (.int .i64 (Cn.opened L)) ∧ Below w.heap.size w w' := by
  have HR0 := Lib.hid hr
  have HQ := Lib.hid h60
  have HAT := Lib.hid (fun k h => Cn.opened_at L k h)
  have HE := Lib.hid (fun k h => Cn.opened_end L k h)
  have HS := Lib.hid (show 0 + Cn.opened (L.drop 0) = Cn.opened L by rw [List.drop_zero, Nat.zero_add])
  generalize Cn.opened L = R at *
  clear hr h60
  go_enter Tryd.func21, Tryd.ntmps21
  go_upto_region 2 with (fail)
  have HB0 := Lib.hid ((Below.refl _ w).alloc (Nat.le_refl _) (.cells #[.slice ta tl tc, .slice la L.length lc] 33))
  have HA := Lib.hid (Has.new w #[.slice ta tl tc, .slice la L.length lc] 33)
  generalize w.alloc (.cells #[.slice ta tl tc, .slice la L.length lc] 33) = w1 at *
  have a1 := HA.out.cell 1
  simp only [List.getElem?_toArray, List.getElem?_cons_zero, List.getElem?_cons_succ] at a1
  go_wp2_with fail
  clear a1 HA
  have HR := Lib.hid (HR0.out.keep HB0.out)
  go_loopw [3, 9] (fun vc vi wr => ∃ (k c : Nat), k ≤ L.length ∧ c ≤ k ∧ vc = .int .i64 c ∧ vi = .int .i64 k ∧ c + Cn.opened (L.drop k) = R ∧ Below w1.heap.size w1 wr) (fun _ i _ => L.length - (intOf i).toNat)
  case atStart => exact ⟨0, 0, Nat.zero_le _, Nat.le_refl _, rfl, rfl, HS.out, Below.refl _ _⟩
  case round =>
    obtain ⟨k, c, hk, hck, rfl, rfl, hag, hB⟩ := hrel
    have HB := Lib.hid hB
    have HCK := Lib.hid hck
    clear hB HS hck
    by_cases hlt : k < L.length
    · have hwc := opened_wrap c k _ HCK.out hlt HQ.out
      have hlt' : (k : Int) < (L.length : Int) := by omega
      have hw := large_wrap k _ HQ.out hlt
      obtain ⟨b, off, rfl, hb, c0, c1, c2, c3, c4, c5, c6, c7⟩ := (HR.out.keep HB.out).act k hlt hlt
      rw [HAT.out k hlt] at hag
      generalize L[k] = x at *
      obtain ⟨x0, x1, x2, x3, x4, x5, x6, x7⟩ := x
      simp only at c0 c1 c2 c3 c4 c5 c6 c7 hag
      go_upto_region 5 with (fail)
      have HB1 := Lib.hid (HB.out.alloc HB.out.size (.cells #[.int .i64 x0, .int .i64 x1, .int .i64 x2, .int .i64 x3, .int .i64 x4, .int .i64 x5, .string x6, .int .i64 x7] 44))
      have HX := Has.new wr #[.int .i64 x0, .int .i64 x1, .int .i64 x2, .int .i64 x3, .int .i64 x4, .int .i64 x5, .string x6, .int .i64 x7] 44
      clear c0 c1 c2 c3 c4 c5 c6 c7 HB hb
      generalize wr.heap.size = p at *
      generalize wr.alloc (.cells #[.int .i64 x0, .int .i64 x1, .int .i64 x2, .int .i64 x3, .int .i64 x4, .int .i64 x5, .string x6, .int .i64 x7] 44) = w5 at *
      have c0 := HX.cell 0; have c1 := HX.cell 1; have c2 := HX.cell 2
      simp only [List.getElem?_toArray, List.getElem?_cons_zero, List.getElem?_cons_succ] at c0 c1 c2
      clear HX
      by_cases d : x0 = 3
      · rw [if_pos d] at hag
        have HG := Lib.hid (opened_next _ _ _ _ 0 1 hag HCK.out (Nat.le_refl _))
        subst d
        clear hag
        go_wp2_with fail
        go_roundw
        case rel => exact ⟨k + 1, c + 1, hlt, HG.out.2, by go_num, by go_num, HG.out.1, HB1.out⟩
        case measure => rw [hw]; exact large_meas k _ hlt
      · rw [if_neg d] at hag
        have HG := Lib.hid (opened_next _ _ _ _ 0 0 hag HCK.out (Nat.zero_le _))
        have q : (x0 == 3) = false := by simpa using d
        clear hag d
        go_wp2_with fail
        go_roundw
        case rel => exact ⟨k + 1, c, hlt, HG.out.2, rfl, by go_num, HG.out.1, HB1.out⟩
        case measure => rw [hw]; exact large_meas k _ hlt
    · have hlt' : ¬ (k : Int) < (L.length : Int) := by omega
      rw [HE.out k (by omega), Nat.add_zero] at hag
      have HF := Lib.hid hag
      clear hag
      go_wp2
      go_ret
      exact ⟨by rw [← HF.out]; rfl, HB0.out.trans (HB.out.mono HB0.out.size)⟩
set_option maxRecDepth 100000 in
set_option maxHeartbeats 400000 in
theorem refrefuse_walk (t j e : Int) (d : ByteArray) (w : World) : Calls Tryd.prog 34 #[.agg #[.int .i64 t, .int .i64 j, .string d], .int .i64 e] w fun r w' =>
    r = .returned (.agg #[.int .i64 1, .int .i64 j, .int .i64 0, .int .i64 0, .int .i64 0, .int .i64 0, .string ⟨#[]⟩, .int .i64 e]) ∧ Below w.heap.size w w' := by
  go_enter Tryd.func34, Tryd.ntmps34
  go_wp2
  ((try simp only [Exit.inBlock, Exit.then]); refine bodyPost_ret (v := (.agg #[.int .i64 1, .int .i64 j, .int .i64 0, .int .i64 0, .int .i64 0, .int .i64 0, .string ⟨#[]⟩, .int .i64 e])) ?_ rfl ⟨?_, ?_⟩; (rw [results_cell1 rfl]; go_simp))
  · rfl
  · (repeat (first | (with_reducible exact (two_below w _ _)) | refine Below.setCell ?_ (by first | exact Nat.le_refl _ | exact Nat.le_succ _) _))
end Go.Proofs.YtajalllecoclcaaDoor
namespace Go.Proofs.YtajalllecoclcaaDoor
open Go.RowKit
set_option linter.unusedVariables false
set_option linter.unusedSimpArgs false

set_option maxRecDepth 100000 in
set_option maxHeartbeats 1600000 in
theorem reflogin_walk (l : List Tn.Ten) (L : List Cn.Act) (ta : Option Addr) (tc : Nat) (la : Option Addr) (lc : Nat) (t j : Int) (d : ByteArray) (w : World) (hrt : RowS w 5 ta l.length tc (l.flatMap tncells)) (hl : l.length ≤ 1000) :
    Calls Tryd.prog 32 #[.agg #[.slice ta l.length tc, .slice la L.length lc], .agg #[.int .i64 t, .int .i64 j, .string d]] w fun r w' => r = .returned (actV (Cn.login l ⟨t, j, d⟩)) ∧ Below w.heap.size w w' := by
  have HRT := Lib.hid hrt
  have HRD := Lib.hid (fun w => rread_walk t j d w)
  have LN := login_no l ⟨t, j, d⟩; have LT := login_t l ⟨t, j, d⟩; have LF := login_f l ⟨t, j, d⟩; have LY := login_y l ⟨t, j, d⟩
  generalize Cn.login l ⟨t, j, d⟩ = X at *
  clear hrt
  cases hr : Pr.rd ⟨t, j, d⟩ with
  | none =>
    rw [LN hr]
    rw [hr] at HRD
    simp only [askV] at HRD
    have HFI := Lib.hid (fun w hrow => reffind_walk l ⟨#[]⟩ ta l.length tc w rfl hrow hl)
    clear LN LT LF LY hr
    go_enter Tryd.func32, Tryd.ntmps32
    go_upto_region 1 with (fail)
    have H3 := Lib.hid (T3.new w #[.slice ta l.length tc, .slice la L.length lc] #[.int .i64 t, .int .i64 j, .string d] #[.int .i64 0, .int .i64 0, .int .i64 0, .int .i64 0, .int .i64 0, .int .i64 0, .string ⟨#[]⟩, .int .i64 0] 33 42 44)
    generalize ((w.alloc (.cells #[.slice ta l.length tc, .slice la L.length lc] 33)).alloc (.cells #[.int .i64 t, .int .i64 j, .string d] 42)).alloc (.cells #[.int .i64 0, .int .i64 0, .int .i64 0, .int .i64 0, .int .i64 0, .int .i64 0, .string ⟨#[]⟩, .int .i64 0] 44) = w1 at *
    have p0 := H3.out.hp.cell 0; have p1 := H3.out.hp.cell 1
    have q0 := H3.out.hr.cell 0; have q1 := H3.out.hr.cell 1; have q2 := H3.out.hr.cell 2
    have z0 := H3.out.ha.cell 0; have z1 := H3.out.ha.cell 1; have z2 := H3.out.ha.cell 2; have z3 := H3.out.ha.cell 3; have z4 := H3.out.ha.cell 4; have z5 := H3.out.ha.cell 5; have z6 := H3.out.ha.cell 6; have z7 := H3.out.ha.cell 7
    have g0 := H3.out.ha.free 0; have g1 := H3.out.ha.free 1; have g2 := H3.out.ha.free 2; have g3 := H3.out.ha.free 3; have g4 := H3.out.ha.free 4; have g5 := H3.out.ha.free 5; have g6 := H3.out.ha.free 6; have g7 := H3.out.ha.free 7
    simp only [List.getElem?_toArray, List.getElem?_cons_zero, List.getElem?_cons_succ] at p0 p1 q0 q1 q2 z0 z1 z2 z3 z4 z5 z6 z7
    go_wp2_with fail
    with_reducible refine (HRD.out _).mono ?_
    rintro r2 w2 ⟨rfl, hb⟩
    clear p0 p1 q0 q1 q2 z0 z1 z2 z3 z4 z5 z6 z7 g0 g1 g2 g3 g4 g5 g6 g7
    have H3b := Lib.hid (H3.out.keep hb)
    clear H3
    have H3 := H3b
    clear H3b
    clear hb HRD
    go_upto_region 2 with (fail)
    have hb := (Below.refl _ w2).alloc (Nat.le_refl _) (.cells #[.int .i64 0, .int .i64 0, .string ⟨#[]⟩, .string ⟨#[]⟩, .int .i64 0, .int .i64 0, .int .i64 0, .bool false] 78)
    have HV := Lib.hid (Has.new w2 #[.int .i64 0, .int .i64 0, .string ⟨#[]⟩, .string ⟨#[]⟩, .int .i64 0, .int .i64 0, .int .i64 0, .bool false] 78)
    have H3b := Lib.hid (H3.out.keep hb)
    clear H3
    have H3 := H3b
    clear H3b
    clear hb
    generalize w2.alloc (.cells #[.int .i64 0, .int .i64 0, .string ⟨#[]⟩, .string ⟨#[]⟩, .int .i64 0, .int .i64 0, .int .i64 0, .bool false] 78) = w3 at *
    generalize w2.heap.size = pv at *
    have p0 := H3.out.hp.cell 0; have p1 := H3.out.hp.cell 1
    have q0 := H3.out.hr.cell 0; have q1 := H3.out.hr.cell 1; have q2 := H3.out.hr.cell 2
    have z0 := H3.out.ha.cell 0; have z1 := H3.out.ha.cell 1; have z2 := H3.out.ha.cell 2; have z3 := H3.out.ha.cell 3; have z4 := H3.out.ha.cell 4; have z5 := H3.out.ha.cell 5; have z6 := H3.out.ha.cell 6; have z7 := H3.out.ha.cell 7
    have g0 := H3.out.ha.free 0; have g1 := H3.out.ha.free 1; have g2 := H3.out.ha.free 2; have g3 := H3.out.ha.free 3; have g4 := H3.out.ha.free 4; have g5 := H3.out.ha.free 5; have g6 := H3.out.ha.free 6; have g7 := H3.out.ha.free 7
    simp only [List.getElem?_toArray, List.getElem?_cons_zero, List.getElem?_cons_succ] at p0 p1 q0 q1 q2 z0 z1 z2 z3 z4 z5 z6 z7
    have v0 := HV.out.cell 0; have v1 := HV.out.cell 1; have v2 := HV.out.cell 2; have v3 := HV.out.cell 3; have v4 := HV.out.cell 4; have v5 := HV.out.cell 5; have v6 := HV.out.cell 6; have v7 := HV.out.cell 7
    simp only [List.getElem?_toArray, List.getElem?_cons_zero, List.getElem?_cons_succ] at v0 v1 v2 v3 v4 v5 v6 v7
    go_wp2_with fail
    with_reducible refine (HFI.out _ (HRT.out.keep H3.out.hb)).mono ?_
    rintro r4 w4 ⟨rfl, hb⟩
    clear p0 p1 q0 q1 q2 z0 z1 z2 z3 z4 z5 z6 z7 g0 g1 g2 g3 g4 g5 g6 g7
    clear v0 v1 v2 v3 v4 v5 v6 v7
    have H3b := Lib.hid (H3.out.keep hb)
    clear H3
    have H3 := H3b
    clear H3b
    have HVb := Lib.hid (HV.out.below hb HV.out.lt)
    clear HV
    have HV := HVb
    clear HVb
    clear hb HFI
    have p0 := H3.out.hp.cell 0; have p1 := H3.out.hp.cell 1
    have q0 := H3.out.hr.cell 0; have q1 := H3.out.hr.cell 1; have q2 := H3.out.hr.cell 2
    have z0 := H3.out.ha.cell 0; have z1 := H3.out.ha.cell 1; have z2 := H3.out.ha.cell 2; have z3 := H3.out.ha.cell 3; have z4 := H3.out.ha.cell 4; have z5 := H3.out.ha.cell 5; have z6 := H3.out.ha.cell 6; have z7 := H3.out.ha.cell 7
    have g0 := H3.out.ha.free 0; have g1 := H3.out.ha.free 1; have g2 := H3.out.ha.free 2; have g3 := H3.out.ha.free 3; have g4 := H3.out.ha.free 4; have g5 := H3.out.ha.free 5; have g6 := H3.out.ha.free 6; have g7 := H3.out.ha.free 7
    simp only [List.getElem?_toArray, List.getElem?_cons_zero, List.getElem?_cons_succ] at p0 p1 q0 q1 q2 z0 z1 z2 z3 z4 z5 z6 z7
    have v0 := HV.out.cell 0; have v1 := HV.out.cell 1; have v2 := HV.out.cell 2; have v3 := HV.out.cell 3; have v4 := HV.out.cell 4; have v5 := HV.out.cell 5; have v6 := HV.out.cell 6; have v7 := HV.out.cell 7
    simp only [List.getElem?_toArray, List.getElem?_cons_zero, List.getElem?_cons_succ] at v0 v1 v2 v3 v4 v5 v6 v7
    go_wp2_with fail
    clear v0 v1 v2 v3 v4 v5 v6 v7
    with_reducible refine (refrefuse_walk _ _ _ _ _).mono ?_
    rintro r5 w5 ⟨rfl, hb⟩
    clear p0 p1 q0 q1 q2 z0 z1 z2 z3 z4 z5 z6 z7 g0 g1 g2 g3 g4 g5 g6 g7
    have H3b := Lib.hid (H3.out.keep hb)
    clear H3
    have H3 := H3b
    clear H3b
    clear hb
    have p0 := H3.out.hp.cell 0; have p1 := H3.out.hp.cell 1
    have q0 := H3.out.hr.cell 0; have q1 := H3.out.hr.cell 1; have q2 := H3.out.hr.cell 2
    have z0 := H3.out.ha.cell 0; have z1 := H3.out.ha.cell 1; have z2 := H3.out.ha.cell 2; have z3 := H3.out.ha.cell 3; have z4 := H3.out.ha.cell 4; have z5 := H3.out.ha.cell 5; have z6 := H3.out.ha.cell 6; have z7 := H3.out.ha.cell 7
    have g0 := H3.out.ha.free 0; have g1 := H3.out.ha.free 1; have g2 := H3.out.ha.free 2; have g3 := H3.out.ha.free 3; have g4 := H3.out.ha.free 4; have g5 := H3.out.ha.free 5; have g6 := H3.out.ha.free 6; have g7 := H3.out.ha.free 7
    simp only [List.getElem?_toArray, List.getElem?_cons_zero, List.getElem?_cons_succ] at p0 p1 q0 q1 q2 z0 z1 z2 z3 z4 z5 z6 z7
    have HBX := Lib.hid H3.out.hb
    go_wp2
    ((try simp only [Exit.inBlock, Exit.then]); refine bodyPost_ret (v := (.agg #[.int .i64 1, .int .i64 j, .int .i64 0, .int .i64 0, .int .i64 0, .int .i64 0, .string ⟨#[]⟩, .int .i64 30])) ?_ rfl ⟨?_, ?_⟩; (rw [results_cell1 rfl]; go_simp))
    · rfl
    · repeat (first | (with_reducible exact HBX.out) | refine below_set ?_ _ _ (by omega) _)
  | some r =>
    rw [hr] at HRD
    simp only [askV] at HRD
    have hrd := Pr.rd_data _ _ hr
    simp only at hrd
    obtain ⟨rt, rj, tok, txt, k, lv, n⟩ := r
    simp only at hrd HRD LT LF LY
    obtain ⟨rfl, rfl, -⟩ := hrd
    have HFI := Lib.hid (fun w hrow => reffind_walk l tok ta l.length tc w rfl hrow hl)
    have hfb := Tn.findL_bd tok l 0
    change Tn.find l tok = -1 ∨ 0 ≤ Tn.find l tok at hfb
    by_cases t1 : rt = 1
    · by_cases hf : Tn.find l tok = -1
      · rw [LF _ hr hf]
        rw [hf] at HFI
        subst t1
        clear LN LT LF LY hr hf hfb
        generalize rj = j at *
        go_enter Tryd.func32, Tryd.ntmps32
        go_upto_region 1 with (fail)
        have H3 := Lib.hid (T3.new w #[.slice ta l.length tc, .slice la L.length lc] #[.int .i64 1, .int .i64 j, .string d] #[.int .i64 0, .int .i64 0, .int .i64 0, .int .i64 0, .int .i64 0, .int .i64 0, .string ⟨#[]⟩, .int .i64 0] 33 42 44)
        generalize ((w.alloc (.cells #[.slice ta l.length tc, .slice la L.length lc] 33)).alloc (.cells #[.int .i64 1, .int .i64 j, .string d] 42)).alloc (.cells #[.int .i64 0, .int .i64 0, .int .i64 0, .int .i64 0, .int .i64 0, .int .i64 0, .string ⟨#[]⟩, .int .i64 0] 44) = w1 at *
        have p0 := H3.out.hp.cell 0; have p1 := H3.out.hp.cell 1
        have q0 := H3.out.hr.cell 0; have q1 := H3.out.hr.cell 1; have q2 := H3.out.hr.cell 2
        have z0 := H3.out.ha.cell 0; have z1 := H3.out.ha.cell 1; have z2 := H3.out.ha.cell 2; have z3 := H3.out.ha.cell 3; have z4 := H3.out.ha.cell 4; have z5 := H3.out.ha.cell 5; have z6 := H3.out.ha.cell 6; have z7 := H3.out.ha.cell 7
        have g0 := H3.out.ha.free 0; have g1 := H3.out.ha.free 1; have g2 := H3.out.ha.free 2; have g3 := H3.out.ha.free 3; have g4 := H3.out.ha.free 4; have g5 := H3.out.ha.free 5; have g6 := H3.out.ha.free 6; have g7 := H3.out.ha.free 7
        simp only [List.getElem?_toArray, List.getElem?_cons_zero, List.getElem?_cons_succ] at p0 p1 q0 q1 q2 z0 z1 z2 z3 z4 z5 z6 z7
        go_wp2_with fail
        with_reducible refine (HRD.out _).mono ?_
        rintro r2 w2 ⟨rfl, hb⟩
        clear p0 p1 q0 q1 q2 z0 z1 z2 z3 z4 z5 z6 z7 g0 g1 g2 g3 g4 g5 g6 g7
        have H3b := Lib.hid (H3.out.keep hb)
        clear H3
        have H3 := H3b
        clear H3b
        clear hb HRD
        go_upto_region 2 with (fail)
        have hb := (Below.refl _ w2).alloc (Nat.le_refl _) (.cells #[.int .i64 1, .int .i64 j, .string tok, .string txt, .int .i64 k, .int .i64 lv, .int .i64 n, .bool true] 78)
        have HV := Lib.hid (Has.new w2 #[.int .i64 1, .int .i64 j, .string tok, .string txt, .int .i64 k, .int .i64 lv, .int .i64 n, .bool true] 78)
        have H3b := Lib.hid (H3.out.keep hb)
        clear H3
        have H3 := H3b
        clear H3b
        clear hb
        generalize w2.alloc (.cells #[.int .i64 1, .int .i64 j, .string tok, .string txt, .int .i64 k, .int .i64 lv, .int .i64 n, .bool true] 78) = w3 at *
        generalize w2.heap.size = pv at *
        have p0 := H3.out.hp.cell 0; have p1 := H3.out.hp.cell 1
        have q0 := H3.out.hr.cell 0; have q1 := H3.out.hr.cell 1; have q2 := H3.out.hr.cell 2
        have z0 := H3.out.ha.cell 0; have z1 := H3.out.ha.cell 1; have z2 := H3.out.ha.cell 2; have z3 := H3.out.ha.cell 3; have z4 := H3.out.ha.cell 4; have z5 := H3.out.ha.cell 5; have z6 := H3.out.ha.cell 6; have z7 := H3.out.ha.cell 7
        have g0 := H3.out.ha.free 0; have g1 := H3.out.ha.free 1; have g2 := H3.out.ha.free 2; have g3 := H3.out.ha.free 3; have g4 := H3.out.ha.free 4; have g5 := H3.out.ha.free 5; have g6 := H3.out.ha.free 6; have g7 := H3.out.ha.free 7
        simp only [List.getElem?_toArray, List.getElem?_cons_zero, List.getElem?_cons_succ] at p0 p1 q0 q1 q2 z0 z1 z2 z3 z4 z5 z6 z7
        have v0 := HV.out.cell 0; have v1 := HV.out.cell 1; have v2 := HV.out.cell 2; have v3 := HV.out.cell 3; have v4 := HV.out.cell 4; have v5 := HV.out.cell 5; have v6 := HV.out.cell 6; have v7 := HV.out.cell 7
        simp only [List.getElem?_toArray, List.getElem?_cons_zero, List.getElem?_cons_succ] at v0 v1 v2 v3 v4 v5 v6 v7
        go_wp2_with fail
        with_reducible refine (HFI.out _ (HRT.out.keep H3.out.hb)).mono ?_
        rintro r4 w4 ⟨rfl, hb⟩
        clear p0 p1 q0 q1 q2 z0 z1 z2 z3 z4 z5 z6 z7 g0 g1 g2 g3 g4 g5 g6 g7
        clear v0 v1 v2 v3 v4 v5 v6 v7
        have H3b := Lib.hid (H3.out.keep hb)
        clear H3
        have H3 := H3b
        clear H3b
        have HVb := Lib.hid (HV.out.below hb HV.out.lt)
        clear HV
        have HV := HVb
        clear HVb
        clear hb HFI
        have p0 := H3.out.hp.cell 0; have p1 := H3.out.hp.cell 1
        have q0 := H3.out.hr.cell 0; have q1 := H3.out.hr.cell 1; have q2 := H3.out.hr.cell 2
        have z0 := H3.out.ha.cell 0; have z1 := H3.out.ha.cell 1; have z2 := H3.out.ha.cell 2; have z3 := H3.out.ha.cell 3; have z4 := H3.out.ha.cell 4; have z5 := H3.out.ha.cell 5; have z6 := H3.out.ha.cell 6; have z7 := H3.out.ha.cell 7
        have g0 := H3.out.ha.free 0; have g1 := H3.out.ha.free 1; have g2 := H3.out.ha.free 2; have g3 := H3.out.ha.free 3; have g4 := H3.out.ha.free 4; have g5 := H3.out.ha.free 5; have g6 := H3.out.ha.free 6; have g7 := H3.out.ha.free 7
        simp only [List.getElem?_toArray, List.getElem?_cons_zero, List.getElem?_cons_succ] at p0 p1 q0 q1 q2 z0 z1 z2 z3 z4 z5 z6 z7
        have v0 := HV.out.cell 0; have v1 := HV.out.cell 1; have v2 := HV.out.cell 2; have v3 := HV.out.cell 3; have v4 := HV.out.cell 4; have v5 := HV.out.cell 5; have v6 := HV.out.cell 6; have v7 := HV.out.cell 7
        simp only [List.getElem?_toArray, List.getElem?_cons_zero, List.getElem?_cons_succ] at v0 v1 v2 v3 v4 v5 v6 v7
        go_wp2_with fail
        clear v0 v1 v2 v3 v4 v5 v6 v7
        with_reducible refine (refrefuse_walk _ _ _ _ _).mono ?_
        rintro r5 w5 ⟨rfl, hb⟩
        clear p0 p1 q0 q1 q2 z0 z1 z2 z3 z4 z5 z6 z7 g0 g1 g2 g3 g4 g5 g6 g7
        have H3b := Lib.hid (H3.out.keep hb)
        clear H3
        have H3 := H3b
        clear H3b
        clear hb
        have p0 := H3.out.hp.cell 0; have p1 := H3.out.hp.cell 1
        have q0 := H3.out.hr.cell 0; have q1 := H3.out.hr.cell 1; have q2 := H3.out.hr.cell 2
        have z0 := H3.out.ha.cell 0; have z1 := H3.out.ha.cell 1; have z2 := H3.out.ha.cell 2; have z3 := H3.out.ha.cell 3; have z4 := H3.out.ha.cell 4; have z5 := H3.out.ha.cell 5; have z6 := H3.out.ha.cell 6; have z7 := H3.out.ha.cell 7
        have g0 := H3.out.ha.free 0; have g1 := H3.out.ha.free 1; have g2 := H3.out.ha.free 2; have g3 := H3.out.ha.free 3; have g4 := H3.out.ha.free 4; have g5 := H3.out.ha.free 5; have g6 := H3.out.ha.free 6; have g7 := H3.out.ha.free 7
        simp only [List.getElem?_toArray, List.getElem?_cons_zero, List.getElem?_cons_succ] at p0 p1 q0 q1 q2 z0 z1 z2 z3 z4 z5 z6 z7
        have HBX := Lib.hid H3.out.hb
        go_wp2
        ((try simp only [Exit.inBlock, Exit.then]); refine bodyPost_ret (v := (.agg #[.int .i64 1, .int .i64 j, .int .i64 0, .int .i64 0, .int .i64 0, .int .i64 0, .string ⟨#[]⟩, .int .i64 30])) ?_ rfl ⟨?_, ?_⟩; (rw [results_cell1 rfl]; go_simp))
        · rfl
        · repeat (first | (with_reducible exact HBX.out) | refine below_set ?_ _ _ (by omega) _)
      · rw [LY _ hr t1 hf]
        simp only
        have hf0 : ¬ Tn.find l tok < 0 := by omega
        generalize Tn.find l tok = R at *
        subst t1
        clear LN LT LF LY hr hf hfb
        generalize rj = j at *
        go_enter Tryd.func32, Tryd.ntmps32
        go_upto_region 1 with (fail)
        have H3 := Lib.hid (T3.new w #[.slice ta l.length tc, .slice la L.length lc] #[.int .i64 1, .int .i64 j, .string d] #[.int .i64 0, .int .i64 0, .int .i64 0, .int .i64 0, .int .i64 0, .int .i64 0, .string ⟨#[]⟩, .int .i64 0] 33 42 44)
        generalize ((w.alloc (.cells #[.slice ta l.length tc, .slice la L.length lc] 33)).alloc (.cells #[.int .i64 1, .int .i64 j, .string d] 42)).alloc (.cells #[.int .i64 0, .int .i64 0, .int .i64 0, .int .i64 0, .int .i64 0, .int .i64 0, .string ⟨#[]⟩, .int .i64 0] 44) = w1 at *
        have p0 := H3.out.hp.cell 0; have p1 := H3.out.hp.cell 1
        have q0 := H3.out.hr.cell 0; have q1 := H3.out.hr.cell 1; have q2 := H3.out.hr.cell 2
        have z0 := H3.out.ha.cell 0; have z1 := H3.out.ha.cell 1; have z2 := H3.out.ha.cell 2; have z3 := H3.out.ha.cell 3; have z4 := H3.out.ha.cell 4; have z5 := H3.out.ha.cell 5; have z6 := H3.out.ha.cell 6; have z7 := H3.out.ha.cell 7
        have g0 := H3.out.ha.free 0; have g1 := H3.out.ha.free 1; have g2 := H3.out.ha.free 2; have g3 := H3.out.ha.free 3; have g4 := H3.out.ha.free 4; have g5 := H3.out.ha.free 5; have g6 := H3.out.ha.free 6; have g7 := H3.out.ha.free 7
        simp only [List.getElem?_toArray, List.getElem?_cons_zero, List.getElem?_cons_succ] at p0 p1 q0 q1 q2 z0 z1 z2 z3 z4 z5 z6 z7
        go_wp2_with fail
        with_reducible refine (HRD.out _).mono ?_
        rintro r2 w2 ⟨rfl, hb⟩
        clear p0 p1 q0 q1 q2 z0 z1 z2 z3 z4 z5 z6 z7 g0 g1 g2 g3 g4 g5 g6 g7
        have H3b := Lib.hid (H3.out.keep hb)
        clear H3
        have H3 := H3b
        clear H3b
        clear hb HRD
        go_upto_region 2 with (fail)
        have hb := (Below.refl _ w2).alloc (Nat.le_refl _) (.cells #[.int .i64 1, .int .i64 j, .string tok, .string txt, .int .i64 k, .int .i64 lv, .int .i64 n, .bool true] 78)
        have HV := Lib.hid (Has.new w2 #[.int .i64 1, .int .i64 j, .string tok, .string txt, .int .i64 k, .int .i64 lv, .int .i64 n, .bool true] 78)
        have H3b := Lib.hid (H3.out.keep hb)
        clear H3
        have H3 := H3b
        clear H3b
        clear hb
        generalize w2.alloc (.cells #[.int .i64 1, .int .i64 j, .string tok, .string txt, .int .i64 k, .int .i64 lv, .int .i64 n, .bool true] 78) = w3 at *
        generalize w2.heap.size = pv at *
        have p0 := H3.out.hp.cell 0; have p1 := H3.out.hp.cell 1
        have q0 := H3.out.hr.cell 0; have q1 := H3.out.hr.cell 1; have q2 := H3.out.hr.cell 2
        have z0 := H3.out.ha.cell 0; have z1 := H3.out.ha.cell 1; have z2 := H3.out.ha.cell 2; have z3 := H3.out.ha.cell 3; have z4 := H3.out.ha.cell 4; have z5 := H3.out.ha.cell 5; have z6 := H3.out.ha.cell 6; have z7 := H3.out.ha.cell 7
        have g0 := H3.out.ha.free 0; have g1 := H3.out.ha.free 1; have g2 := H3.out.ha.free 2; have g3 := H3.out.ha.free 3; have g4 := H3.out.ha.free 4; have g5 := H3.out.ha.free 5; have g6 := H3.out.ha.free 6; have g7 := H3.out.ha.free 7
        simp only [List.getElem?_toArray, List.getElem?_cons_zero, List.getElem?_cons_succ] at p0 p1 q0 q1 q2 z0 z1 z2 z3 z4 z5 z6 z7
        have v0 := HV.out.cell 0; have v1 := HV.out.cell 1; have v2 := HV.out.cell 2; have v3 := HV.out.cell 3; have v4 := HV.out.cell 4; have v5 := HV.out.cell 5; have v6 := HV.out.cell 6; have v7 := HV.out.cell 7
        simp only [List.getElem?_toArray, List.getElem?_cons_zero, List.getElem?_cons_succ] at v0 v1 v2 v3 v4 v5 v6 v7
        go_wp2_with fail
        with_reducible refine (HFI.out _ (HRT.out.keep H3.out.hb)).mono ?_
        rintro r4 w4 ⟨rfl, hb⟩
        clear p0 p1 q0 q1 q2 z0 z1 z2 z3 z4 z5 z6 z7 g0 g1 g2 g3 g4 g5 g6 g7
        clear v0 v1 v2 v3 v4 v5 v6 v7
        have H3b := Lib.hid (H3.out.keep hb)
        clear H3
        have H3 := H3b
        clear H3b
        have HVb := Lib.hid (HV.out.below hb HV.out.lt)
        clear HV
        have HV := HVb
        clear HVb
        clear hb HFI
        have p0 := H3.out.hp.cell 0; have p1 := H3.out.hp.cell 1
        have q0 := H3.out.hr.cell 0; have q1 := H3.out.hr.cell 1; have q2 := H3.out.hr.cell 2
        have z0 := H3.out.ha.cell 0; have z1 := H3.out.ha.cell 1; have z2 := H3.out.ha.cell 2; have z3 := H3.out.ha.cell 3; have z4 := H3.out.ha.cell 4; have z5 := H3.out.ha.cell 5; have z6 := H3.out.ha.cell 6; have z7 := H3.out.ha.cell 7
        have g0 := H3.out.ha.free 0; have g1 := H3.out.ha.free 1; have g2 := H3.out.ha.free 2; have g3 := H3.out.ha.free 3; have g4 := H3.out.ha.free 4; have g5 := H3.out.ha.free 5; have g6 := H3.out.ha.free 6; have g7 := H3.out.ha.free 7
        simp only [List.getElem?_toArray, List.getElem?_cons_zero, List.getElem?_cons_succ] at p0 p1 q0 q1 q2 z0 z1 z2 z3 z4 z5 z6 z7
        have v0 := HV.out.cell 0; have v1 := HV.out.cell 1; have v2 := HV.out.cell 2; have v3 := HV.out.cell 3; have v4 := HV.out.cell 4; have v5 := HV.out.cell 5; have v6 := HV.out.cell 6; have v7 := HV.out.cell 7
        simp only [List.getElem?_toArray, List.getElem?_cons_zero, List.getElem?_cons_succ] at v0 v1 v2 v3 v4 v5 v6 v7
        have HBX := Lib.hid H3.out.hb
        go_wp2
        ((try simp only [Exit.inBlock, Exit.then]); refine bodyPost_ret (v := (.agg #[.int .i64 2, .int .i64 0, .int .i64 R, .int .i64 0, .int .i64 0, .int .i64 0, .string ⟨#[]⟩, .int .i64 0])) ?_ rfl ⟨?_, ?_⟩; (rw [results_cell1 rfl]; go_simp))
        · rfl
        · repeat (first | (with_reducible exact HBX.out) | refine below_set ?_ _ _ (by omega) _)
    · rw [LT _ hr t1]
      have t1' : (rt != 1) = true := by simpa using t1
      generalize Tn.find l tok = R at *
      clear LN LT LF LY hr t1 hfb
      generalize rj = j at *
      generalize rt = t at *
      go_enter Tryd.func32, Tryd.ntmps32
      go_upto_region 1 with (fail)
      have H3 := Lib.hid (T3.new w #[.slice ta l.length tc, .slice la L.length lc] #[.int .i64 t, .int .i64 j, .string d] #[.int .i64 0, .int .i64 0, .int .i64 0, .int .i64 0, .int .i64 0, .int .i64 0, .string ⟨#[]⟩, .int .i64 0] 33 42 44)
      generalize ((w.alloc (.cells #[.slice ta l.length tc, .slice la L.length lc] 33)).alloc (.cells #[.int .i64 t, .int .i64 j, .string d] 42)).alloc (.cells #[.int .i64 0, .int .i64 0, .int .i64 0, .int .i64 0, .int .i64 0, .int .i64 0, .string ⟨#[]⟩, .int .i64 0] 44) = w1 at *
      have p0 := H3.out.hp.cell 0; have p1 := H3.out.hp.cell 1
      have q0 := H3.out.hr.cell 0; have q1 := H3.out.hr.cell 1; have q2 := H3.out.hr.cell 2
      have z0 := H3.out.ha.cell 0; have z1 := H3.out.ha.cell 1; have z2 := H3.out.ha.cell 2; have z3 := H3.out.ha.cell 3; have z4 := H3.out.ha.cell 4; have z5 := H3.out.ha.cell 5; have z6 := H3.out.ha.cell 6; have z7 := H3.out.ha.cell 7
      have g0 := H3.out.ha.free 0; have g1 := H3.out.ha.free 1; have g2 := H3.out.ha.free 2; have g3 := H3.out.ha.free 3; have g4 := H3.out.ha.free 4; have g5 := H3.out.ha.free 5; have g6 := H3.out.ha.free 6; have g7 := H3.out.ha.free 7
      simp only [List.getElem?_toArray, List.getElem?_cons_zero, List.getElem?_cons_succ] at p0 p1 q0 q1 q2 z0 z1 z2 z3 z4 z5 z6 z7
      go_wp2_with fail
      with_reducible refine (HRD.out _).mono ?_
      rintro r2 w2 ⟨rfl, hb⟩
      clear p0 p1 q0 q1 q2 z0 z1 z2 z3 z4 z5 z6 z7 g0 g1 g2 g3 g4 g5 g6 g7
      have H3b := Lib.hid (H3.out.keep hb)
      clear H3
      have H3 := H3b
      clear H3b
      clear hb HRD
      go_upto_region 2 with (fail)
      have hb := (Below.refl _ w2).alloc (Nat.le_refl _) (.cells #[.int .i64 t, .int .i64 j, .string tok, .string txt, .int .i64 k, .int .i64 lv, .int .i64 n, .bool true] 78)
      have HV := Lib.hid (Has.new w2 #[.int .i64 t, .int .i64 j, .string tok, .string txt, .int .i64 k, .int .i64 lv, .int .i64 n, .bool true] 78)
      have H3b := Lib.hid (H3.out.keep hb)
      clear H3
      have H3 := H3b
      clear H3b
      clear hb
      generalize w2.alloc (.cells #[.int .i64 t, .int .i64 j, .string tok, .string txt, .int .i64 k, .int .i64 lv, .int .i64 n, .bool true] 78) = w3 at *
      generalize w2.heap.size = pv at *
      have p0 := H3.out.hp.cell 0; have p1 := H3.out.hp.cell 1
      have q0 := H3.out.hr.cell 0; have q1 := H3.out.hr.cell 1; have q2 := H3.out.hr.cell 2
      have z0 := H3.out.ha.cell 0; have z1 := H3.out.ha.cell 1; have z2 := H3.out.ha.cell 2; have z3 := H3.out.ha.cell 3; have z4 := H3.out.ha.cell 4; have z5 := H3.out.ha.cell 5; have z6 := H3.out.ha.cell 6; have z7 := H3.out.ha.cell 7
      have g0 := H3.out.ha.free 0; have g1 := H3.out.ha.free 1; have g2 := H3.out.ha.free 2; have g3 := H3.out.ha.free 3; have g4 := H3.out.ha.free 4; have g5 := H3.out.ha.free 5; have g6 := H3.out.ha.free 6; have g7 := H3.out.ha.free 7
      simp only [List.getElem?_toArray, List.getElem?_cons_zero, List.getElem?_cons_succ] at p0 p1 q0 q1 q2 z0 z1 z2 z3 z4 z5 z6 z7
      have v0 := HV.out.cell 0; have v1 := HV.out.cell 1; have v2 := HV.out.cell 2; have v3 := HV.out.cell 3; have v4 := HV.out.cell 4; have v5 := HV.out.cell 5; have v6 := HV.out.cell 6; have v7 := HV.out.cell 7
      simp only [List.getElem?_toArray, List.getElem?_cons_zero, List.getElem?_cons_succ] at v0 v1 v2 v3 v4 v5 v6 v7
      go_wp2_with fail
      with_reducible refine (HFI.out _ (HRT.out.keep H3.out.hb)).mono ?_
      rintro r4 w4 ⟨rfl, hb⟩
      clear p0 p1 q0 q1 q2 z0 z1 z2 z3 z4 z5 z6 z7 g0 g1 g2 g3 g4 g5 g6 g7
      clear v0 v1 v2 v3 v4 v5 v6 v7
      have H3b := Lib.hid (H3.out.keep hb)
      clear H3
      have H3 := H3b
      clear H3b
      have HVb := Lib.hid (HV.out.below hb HV.out.lt)
      clear HV
      have HV := HVb
      clear HVb
      clear hb HFI
      have p0 := H3.out.hp.cell 0; have p1 := H3.out.hp.cell 1
      have q0 := H3.out.hr.cell 0; have q1 := H3.out.hr.cell 1; have q2 := H3.out.hr.cell 2
      have z0 := H3.out.ha.cell 0; have z1 := H3.out.ha.cell 1; have z2 := H3.out.ha.cell 2; have z3 := H3.out.ha.cell 3; have z4 := H3.out.ha.cell 4; have z5 := H3.out.ha.cell 5; have z6 := H3.out.ha.cell 6; have z7 := H3.out.ha.cell 7
      have g0 := H3.out.ha.free 0; have g1 := H3.out.ha.free 1; have g2 := H3.out.ha.free 2; have g3 := H3.out.ha.free 3; have g4 := H3.out.ha.free 4; have g5 := H3.out.ha.free 5; have g6 := H3.out.ha.free 6; have g7 := H3.out.ha.free 7
      simp only [List.getElem?_toArray, List.getElem?_cons_zero, List.getElem?_cons_succ] at p0 p1 q0 q1 q2 z0 z1 z2 z3 z4 z5 z6 z7
      have v0 := HV.out.cell 0; have v1 := HV.out.cell 1; have v2 := HV.out.cell 2; have v3 := HV.out.cell 3; have v4 := HV.out.cell 4; have v5 := HV.out.cell 5; have v6 := HV.out.cell 6; have v7 := HV.out.cell 7
      simp only [List.getElem?_toArray, List.getElem?_cons_zero, List.getElem?_cons_succ] at v0 v1 v2 v3 v4 v5 v6 v7
      go_wp2_with fail
      clear v0 v1 v2 v3 v4 v5 v6 v7
      with_reducible refine (refrefuse_walk _ _ _ _ _).mono ?_
      rintro r5 w5 ⟨rfl, hb⟩
      clear p0 p1 q0 q1 q2 z0 z1 z2 z3 z4 z5 z6 z7 g0 g1 g2 g3 g4 g5 g6 g7
      have H3b := Lib.hid (H3.out.keep hb)
      clear H3
      have H3 := H3b
      clear H3b
      clear hb
      have p0 := H3.out.hp.cell 0; have p1 := H3.out.hp.cell 1
      have q0 := H3.out.hr.cell 0; have q1 := H3.out.hr.cell 1; have q2 := H3.out.hr.cell 2
      have z0 := H3.out.ha.cell 0; have z1 := H3.out.ha.cell 1; have z2 := H3.out.ha.cell 2; have z3 := H3.out.ha.cell 3; have z4 := H3.out.ha.cell 4; have z5 := H3.out.ha.cell 5; have z6 := H3.out.ha.cell 6; have z7 := H3.out.ha.cell 7
      have g0 := H3.out.ha.free 0; have g1 := H3.out.ha.free 1; have g2 := H3.out.ha.free 2; have g3 := H3.out.ha.free 3; have g4 := H3.out.ha.free 4; have g5 := H3.out.ha.free 5; have g6 := H3.out.ha.free 6; have g7 := H3.out.ha.free 7
      simp only [List.getElem?_toArray, List.getElem?_cons_zero, List.getElem?_cons_succ] at p0 p1 q0 q1 q2 z0 z1 z2 z3 z4 z5 z6 z7
      have HBX := Lib.hid H3.out.hb
      go_wp2
      ((try simp only [Exit.inBlock, Exit.then]); refine bodyPost_ret (v := (.agg #[.int .i64 1, .int .i64 j, .int .i64 0, .int .i64 0, .int .i64 0, .int .i64 0, .string ⟨#[]⟩, .int .i64 30])) ?_ rfl ⟨?_, ?_⟩; (rw [results_cell1 rfl]; go_simp))
      · rfl
      · repeat (first | (with_reducible exact HBX.out) | refine below_set ?_ _ _ (by omega) _)
end Go.Proofs.YtajalllecoclcaaDoor
namespace Go.Proofs.YtajalllecoclcaaDoor
open Go.RowKit
set_option linter.unusedVariables false
set_option linter.unusedSimpArgs false

/-- four blocks of the call's own -/
structure T4 (w w' : World) (ps rs qs cs : Array Value) (TP TR TQ TA : TypeId) : Prop where
  hp : Has w' w.heap.size ps TP
  hr : Has w' (w.heap.size + 1) rs TR
  hq : Has w' (w.heap.size + 1 + 1) qs TQ
  ha : Has w' (w.heap.size + 1 + 1 + 1) cs TA
  hb : Below w.heap.size w w'
theorem T4.new (w : World) (ps rs qs cs : Array Value) (TP TR TQ TA : TypeId) : T4 w ((((w.alloc (.cells ps TP)).alloc (.cells rs TR)).alloc (.cells qs TQ)).alloc (.cells cs TA)) ps rs qs cs TP TR TQ TA := by
  obtain ⟨h1, h2, h3, h4⟩ := rn_three w ps rs qs TP TR TQ
  refine ⟨h1.alloc _, h2.alloc _, h3.alloc _, ?_, h4.alloc (by rw [World.size_alloc, World.size_alloc, World.size_alloc]; omega) _⟩
  have := Has.new (((w.alloc (.cells ps TP)).alloc (.cells rs TR)).alloc (.cells qs TQ)) cs TA
  rw [World.size_alloc, World.size_alloc, World.size_alloc] at this
  exact this
theorem T4.keep {w w' w'' : World} {ps rs qs cs : Array Value} {TP TR TQ TA : TypeId} (h : T4 w w' ps rs qs cs TP TR TQ TA) (k : Below w'.heap.size w' w'') : T4 w w'' ps rs qs cs TP TR TQ TA :=
  ⟨h.hp.below k h.hp.lt, h.hr.below k h.hr.lt, h.hq.below k h.hq.lt, h.ha.below k h.ha.lt, h.hb.trans (k.mono h.hb.size)⟩
theorem cnopn_1 (L : List Cn.Act) (r : Pr.Rq) (h : Cn.had L 3 r.j = true) : Cn.opn L r = ⟨1, r.j, 0, 0, 0, 0, Pr.e0, 8⟩ := by unfold Cn.opn; rw [if_pos h]; rfl
theorem cnopn_2 (L : List Cn.Act) (r : Pr.Rq) (h : Cn.had L 3 r.j = false) (h60 : L.length ≤ 60) : Cn.opn L r = ⟨3, r.j, 0, r.k, r.lv, 0, Pr.e0, 0⟩ := by
  unfold Cn.opn
  rw [if_neg (by rw [h]; decide), if_neg (by have := Cn.opened_le L; omega)]
set_option maxRecDepth 100000 in
set_option maxHeartbeats 1600000 in
theorem refopen_walk (l : List Tn.Ten) (L : List Cn.Act) (ta : Option Addr) (tc : Nat) (la : Option Addr) (lc : Nat) (r : Pr.Rq) (t : Int) (d : ByteArray) (w : World) (hr : RowS w 8 la L.length lc (L.flatMap accells)) (h60 : L.length ≤ 60) :
    Calls Tryd.prog 35 #[.agg #[.slice ta l.length tc, .slice la L.length lc], .agg #[.int .i64 t, .int .i64 r.j, .string d], .agg #[.int .i64 r.t, .int .i64 r.j, .string r.tok, .string r.txt, .int .i64 r.k, .int .i64 r.lv, .int .i64 r.n]] w fun e w' => e = .returned (actV (Cn.opn L r)) ∧ Below w.heap.size w w' := by
  have HRL := Lib.hid hr
  have HH3 := Lib.hid (fun w hr => refhad_walk L ta l.length tc la lc 3 r.j w hr h60)
  have HHO := Lib.hid (fun w hr => refopened_walk L ta l.length tc la lc w hr h60)
  have hne : ((Cn.opened L : Int) == 1024) = false := by
    have := Cn.opened_le L
    simp
    omega
  have O1 := cnopn_1 L r; have O2 := fun h => cnopn_2 L r h h60
  obtain ⟨rt, j, tok, txt, k, lv, n⟩ := r
  simp only at O1 O2 HH3
  simp only
  clear hr h60
  cases h3 : Cn.had L 3 j with
  | true =>
    rw [O1 h3]
    rw [h3] at HH3
    simp only [actV]
    clear O1 O2 h3 HHO
    go_enter Tryd.func35, Tryd.ntmps35
    go_upto_region 1 with (fail)
    have H3 := Lib.hid (T4.new w #[.slice ta l.length tc, .slice la L.length lc] #[.int .i64 t, .int .i64 j, .string d] #[.int .i64 rt, .int .i64 j, .string tok, .string txt, .int .i64 k, .int .i64 lv, .int .i64 n] #[.int .i64 0, .int .i64 0, .int .i64 0, .int .i64 0, .int .i64 0, .int .i64 0, .string ⟨#[]⟩, .int .i64 0] 33 42 76 44)
    generalize (((w.alloc (.cells #[.slice ta l.length tc, .slice la L.length lc] 33)).alloc (.cells #[.int .i64 t, .int .i64 j, .string d] 42)).alloc (.cells #[.int .i64 rt, .int .i64 j, .string tok, .string txt, .int .i64 k, .int .i64 lv, .int .i64 n] 76)).alloc (.cells #[.int .i64 0, .int .i64 0, .int .i64 0, .int .i64 0, .int .i64 0, .int .i64 0, .string ⟨#[]⟩, .int .i64 0] 44) = w1 at *
    have p0 := H3.out.hp.cell 0; have p1 := H3.out.hp.cell 1
    have q0 := H3.out.hr.cell 0; have q1 := H3.out.hr.cell 1; have q2 := H3.out.hr.cell 2
    have z0 := H3.out.ha.cell 0; have z1 := H3.out.ha.cell 1; have z2 := H3.out.ha.cell 2; have z3 := H3.out.ha.cell 3; have z4 := H3.out.ha.cell 4; have z5 := H3.out.ha.cell 5; have z6 := H3.out.ha.cell 6; have z7 := H3.out.ha.cell 7
    have g0 := H3.out.ha.free 0; have g1 := H3.out.ha.free 1; have g2 := H3.out.ha.free 2; have g3 := H3.out.ha.free 3; have g4 := H3.out.ha.free 4; have g5 := H3.out.ha.free 5; have g6 := H3.out.ha.free 6; have g7 := H3.out.ha.free 7
    simp only [List.getElem?_toArray, List.getElem?_cons_zero, List.getElem?_cons_succ] at p0 p1 q0 q1 q2 z0 z1 z2 z3 z4 z5 z6 z7
    go_wp2_with fail
    with_reducible refine (HH3.out _ (HRL.out.keep H3.out.hb)).mono ?_
    rintro r3 w3 ⟨rfl, hb⟩
    clear p0 p1 q0 q1 q2 z0 z1 z2 z3 z4 z5 z6 z7 g0 g1 g2 g3 g4 g5 g6 g7
    have H3b := Lib.hid (H3.out.keep hb)
    clear H3
    have H3 := H3b
    clear H3b
    clear hb HH3
    have p0 := H3.out.hp.cell 0; have p1 := H3.out.hp.cell 1
    have q0 := H3.out.hr.cell 0; have q1 := H3.out.hr.cell 1; have q2 := H3.out.hr.cell 2
    have z0 := H3.out.ha.cell 0; have z1 := H3.out.ha.cell 1; have z2 := H3.out.ha.cell 2; have z3 := H3.out.ha.cell 3; have z4 := H3.out.ha.cell 4; have z5 := H3.out.ha.cell 5; have z6 := H3.out.ha.cell 6; have z7 := H3.out.ha.cell 7
    have g0 := H3.out.ha.free 0; have g1 := H3.out.ha.free 1; have g2 := H3.out.ha.free 2; have g3 := H3.out.ha.free 3; have g4 := H3.out.ha.free 4; have g5 := H3.out.ha.free 5; have g6 := H3.out.ha.free 6; have g7 := H3.out.ha.free 7
    simp only [List.getElem?_toArray, List.getElem?_cons_zero, List.getElem?_cons_succ] at p0 p1 q0 q1 q2 z0 z1 z2 z3 z4 z5 z6 z7
    go_wp2_with fail
    with_reducible refine (refrefuse_walk _ _ _ _ _).mono ?_
    rintro r5 w5 ⟨rfl, hb⟩
    clear p0 p1 q0 q1 q2 z0 z1 z2 z3 z4 z5 z6 z7 g0 g1 g2 g3 g4 g5 g6 g7
    have H3b := Lib.hid (H3.out.keep hb)
    clear H3
    have H3 := H3b
    clear H3b
    clear hb
    have p0 := H3.out.hp.cell 0; have p1 := H3.out.hp.cell 1
    have q0 := H3.out.hr.cell 0; have q1 := H3.out.hr.cell 1; have q2 := H3.out.hr.cell 2
    have z0 := H3.out.ha.cell 0; have z1 := H3.out.ha.cell 1; have z2 := H3.out.ha.cell 2; have z3 := H3.out.ha.cell 3; have z4 := H3.out.ha.cell 4; have z5 := H3.out.ha.cell 5; have z6 := H3.out.ha.cell 6; have z7 := H3.out.ha.cell 7
    have g0 := H3.out.ha.free 0; have g1 := H3.out.ha.free 1; have g2 := H3.out.ha.free 2; have g3 := H3.out.ha.free 3; have g4 := H3.out.ha.free 4; have g5 := H3.out.ha.free 5; have g6 := H3.out.ha.free 6; have g7 := H3.out.ha.free 7
    simp only [List.getElem?_toArray, List.getElem?_cons_zero, List.getElem?_cons_succ] at p0 p1 q0 q1 q2 z0 z1 z2 z3 z4 z5 z6 z7
    have HBX := Lib.hid H3.out.hb
    go_wp2
    ((try simp only [Exit.inBlock, Exit.then]); refine bodyPost_ret (v := (.agg #[.int .i64 1, .int .i64 j, .int .i64 0, .int .i64 0, .int .i64 0, .int .i64 0, .string ⟨#[]⟩, .int .i64 8])) ?_ rfl ⟨?_, ?_⟩; (rw [results_cell1 rfl]; go_simp))
    · rfl
    · repeat (first | (with_reducible exact HBX.out) | refine below_set ?_ _ _ (by omega) _)
  | false =>
    rw [O2 h3]
    rw [h3] at HH3
    simp only [actV]
    clear O1 O2 h3
    generalize Cn.opened L = no at *
    go_enter Tryd.func35, Tryd.ntmps35
    go_upto_region 1 with (fail)
    have H3 := Lib.hid (T4.new w #[.slice ta l.length tc, .slice la L.length lc] #[.int .i64 t, .int .i64 j, .string d] #[.int .i64 rt, .int .i64 j, .string tok, .string txt, .int .i64 k, .int .i64 lv, .int .i64 n] #[.int .i64 0, .int .i64 0, .int .i64 0, .int .i64 0, .int .i64 0, .int .i64 0, .string ⟨#[]⟩, .int .i64 0] 33 42 76 44)
    generalize (((w.alloc (.cells #[.slice ta l.length tc, .slice la L.length lc] 33)).alloc (.cells #[.int .i64 t, .int .i64 j, .string d] 42)).alloc (.cells #[.int .i64 rt, .int .i64 j, .string tok, .string txt, .int .i64 k, .int .i64 lv, .int .i64 n] 76)).alloc (.cells #[.int .i64 0, .int .i64 0, .int .i64 0, .int .i64 0, .int .i64 0, .int .i64 0, .string ⟨#[]⟩, .int .i64 0] 44) = w1 at *
    have p0 := H3.out.hp.cell 0; have p1 := H3.out.hp.cell 1
    have q0 := H3.out.hr.cell 0; have q1 := H3.out.hr.cell 1; have q2 := H3.out.hr.cell 2
    have z0 := H3.out.ha.cell 0; have z1 := H3.out.ha.cell 1; have z2 := H3.out.ha.cell 2; have z3 := H3.out.ha.cell 3; have z4 := H3.out.ha.cell 4; have z5 := H3.out.ha.cell 5; have z6 := H3.out.ha.cell 6; have z7 := H3.out.ha.cell 7
    have g0 := H3.out.ha.free 0; have g1 := H3.out.ha.free 1; have g2 := H3.out.ha.free 2; have g3 := H3.out.ha.free 3; have g4 := H3.out.ha.free 4; have g5 := H3.out.ha.free 5; have g6 := H3.out.ha.free 6; have g7 := H3.out.ha.free 7
    simp only [List.getElem?_toArray, List.getElem?_cons_zero, List.getElem?_cons_succ] at p0 p1 q0 q1 q2 z0 z1 z2 z3 z4 z5 z6 z7
    go_wp2_with fail
    with_reducible refine (HH3.out _ (HRL.out.keep H3.out.hb)).mono ?_
    rintro r3 w3 ⟨rfl, hb⟩
    clear p0 p1 q0 q1 q2 z0 z1 z2 z3 z4 z5 z6 z7 g0 g1 g2 g3 g4 g5 g6 g7
    have H3b := Lib.hid (H3.out.keep hb)
    clear H3
    have H3 := H3b
    clear H3b
    clear hb HH3
    have p0 := H3.out.hp.cell 0; have p1 := H3.out.hp.cell 1
    have q0 := H3.out.hr.cell 0; have q1 := H3.out.hr.cell 1; have q2 := H3.out.hr.cell 2
    have z0 := H3.out.ha.cell 0; have z1 := H3.out.ha.cell 1; have z2 := H3.out.ha.cell 2; have z3 := H3.out.ha.cell 3; have z4 := H3.out.ha.cell 4; have z5 := H3.out.ha.cell 5; have z6 := H3.out.ha.cell 6; have z7 := H3.out.ha.cell 7
    have g0 := H3.out.ha.free 0; have g1 := H3.out.ha.free 1; have g2 := H3.out.ha.free 2; have g3 := H3.out.ha.free 3; have g4 := H3.out.ha.free 4; have g5 := H3.out.ha.free 5; have g6 := H3.out.ha.free 6; have g7 := H3.out.ha.free 7
    simp only [List.getElem?_toArray, List.getElem?_cons_zero, List.getElem?_cons_succ] at p0 p1 q0 q1 q2 z0 z1 z2 z3 z4 z5 z6 z7
    go_wp2_with fail
    with_reducible refine (HHO.out _ (HRL.out.keep H3.out.hb)).mono ?_
    rintro rO wO ⟨rfl, hb⟩
    clear p0 p1 q0 q1 q2 z0 z1 z2 z3 z4 z5 z6 z7 g0 g1 g2 g3 g4 g5 g6 g7
    have H3b := Lib.hid (H3.out.keep hb)
    clear H3
    have H3 := H3b
    clear H3b
    clear hb HHO
    have p0 := H3.out.hp.cell 0; have p1 := H3.out.hp.cell 1
    have q0 := H3.out.hr.cell 0; have q1 := H3.out.hr.cell 1; have q2 := H3.out.hr.cell 2
    have z0 := H3.out.ha.cell 0; have z1 := H3.out.ha.cell 1; have z2 := H3.out.ha.cell 2; have z3 := H3.out.ha.cell 3; have z4 := H3.out.ha.cell 4; have z5 := H3.out.ha.cell 5; have z6 := H3.out.ha.cell 6; have z7 := H3.out.ha.cell 7
    have g0 := H3.out.ha.free 0; have g1 := H3.out.ha.free 1; have g2 := H3.out.ha.free 2; have g3 := H3.out.ha.free 3; have g4 := H3.out.ha.free 4; have g5 := H3.out.ha.free 5; have g6 := H3.out.ha.free 6; have g7 := H3.out.ha.free 7
    simp only [List.getElem?_toArray, List.getElem?_cons_zero, List.getElem?_cons_succ] at p0 p1 q0 q1 q2 z0 z1 z2 z3 z4 z5 z6 z7
    have k4 := H3.out.hq.cell 4; have k5 := H3.out.hq.cell 5
    simp only [List.getElem?_toArray, List.getElem?_cons_zero, List.getElem?_cons_succ] at k4 k5
    have HBX := Lib.hid H3.out.hb
    go_wp2
    ((try simp only [Exit.inBlock, Exit.then]); refine bodyPost_ret (v := (.agg #[.int .i64 3, .int .i64 j, .int .i64 0, .int .i64 k, .int .i64 lv, .int .i64 0, .string ⟨#[]⟩, .int .i64 0])) ?_ rfl ⟨?_, ?_⟩; (rw [results_cell1 rfl]; go_simp))
    · rfl
    · repeat (first | (with_reducible exact HBX.out) | refine below_set ?_ _ _ (by omega) _)
end Go.Proofs.YtajalllecoclcaaDoor
