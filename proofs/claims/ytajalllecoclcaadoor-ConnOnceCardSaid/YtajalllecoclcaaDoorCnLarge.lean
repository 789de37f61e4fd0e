/- What is more than the laws go through. -/
import Derived.Test.YtajalllecoclcaaDoorCnKey
namespace Go.Proofs.YtajalllecoclcaaDoor
open Go.RowKit
set_option linter.unusedVariables false
set_option linter.unusedSimpArgs false

namespace Cn
def bigL (l : List Tn.Ten) : Bool := l.any fun t => decide (150 < t.name.size) || decide (150 < t.tok.size)
def bigF (l : List Fr.Frm) : Bool := l.any fun t => decide (200 < t.d.size)
theorem bigL_at (l : List Tn.Ten) (k : Nat) (h : k < l.length) : bigL (l.drop k) = ((decide (150 < l[k].name.size) || decide (150 < l[k].tok.size)) || bigL (l.drop (k + 1))) := by
  rw [List.drop_eq_getElem_cons h]; rfl
theorem bigL_end (l : List Tn.Ten) (k : Nat) (h : l.length ≤ k) : bigL (l.drop k) = false := by rw [List.drop_eq_nil_of_le h]; rfl
theorem bigF_at (l : List Fr.Frm) (k : Nat) (h : k < l.length) : bigF (l.drop k) = (decide (200 < l[k].d.size) || bigF (l.drop (k + 1))) := by
  rw [List.drop_eq_getElem_cons h]; rfl
theorem bigF_end (l : List Fr.Frm) (k : Nat) (h : l.length ≤ k) : bigF (l.drop k) = false := by rw [List.drop_eq_nil_of_le h]; rfl
def large (l : List Tn.Ten) (fs : List Fr.Frm) : Bool := decide (20 < l.length) || (decide (60 < fs.length) || (bigL (l.drop 0) || bigF (fs.drop 0)))
theorem large_not (l : List Tn.Ten) (fs : List Fr.Frm) (h : large l fs = false) : l.length ≤ 20 ∧ fs.length ≤ 60 ∧ (∀ x ∈ l, x.name.size ≤ 150 ∧ x.tok.size ≤ 150) ∧ ∀ x ∈ fs, x.d.size ≤ 200 := by
  unfold large at h
  rw [Bool.or_eq_false_iff, Bool.or_eq_false_iff, Bool.or_eq_false_iff] at h
  obtain ⟨h1, h2, h3, h4⟩ := h
  refine ⟨by have := of_decide_eq_false h1; omega, by have := of_decide_eq_false h2; omega, fun x hx => ?_, fun x hx => ?_⟩
  · rw [List.drop_zero] at h3
    have := List.any_eq_false.1 h3 x hx
    simp at this
    omega
  · rw [List.drop_zero] at h4
    have := List.any_eq_false.1 h4 x hx
    simp at this
    omega
end Cn
theorem large_meas (k q : Nat) (h : k < q) : q - (intOf (Value.int .i64 ((k : Int) + 1))).toNat < q - (intOf (Value.int .i64 (k : Int))).toNat := by simp [intOf]; omega
theorem large_wrap (k q : Nat) (h : q ≤ 60) (hk : k < q) : wrap64 ((k : Int) + 1) = (k : Int) + 1 := by unfold wrap64; omega
set_option maxRecDepth 100000 in
set_option maxHeartbeats 1600000 in
theorem large36_walk (l : List Tn.Ten) (a : Option Addr) (len cap : Nat) (fs : List Fr.Frm) (fa : Option Addr) (flen fcap : Nat) (w : World) (hl : l.length = len) (hr : RowS w 5 a len cap (l.flatMap tncells)) (hfl : fs.length = flen) (hfr : RowS w 3 fa flen fcap (fs.flatMap cfcells)) :
    Calls Tryd.prog 8 #[.slice a len cap, .slice fa flen fcap] w fun r w' => r = .returned (.bool (Cn.large l fs)) ∧ Below w.heap.size w w' := by
  have HR := Lib.hid hr
  have HFR := Lib.hid hfr
  have HA := Lib.hid (fun k h => Cn.bigL_at l k h)
  have HE := Lib.hid (fun k h => Cn.bigL_end l k h)
  have HFA := Lib.hid (fun k h => Cn.bigF_at fs k h)
  have HFE := Lib.hid (fun k h => Cn.bigF_end fs k h)
  have HL := Lib.hid (show Cn.large l fs = (decide (20 < l.length) || (decide (60 < fs.length) || (Cn.bigL (l.drop 0) || Cn.bigF (fs.drop 0)))) from rfl)
  generalize Cn.large l fs = R at *
  subst hl hfl
  clear hr hfr
  by_cases h40 : 20 < l.length
  · have h40' : (20 : Int) < (l.length : Int) := by omega
    have HF := Lib.hid (show R = true by rw [HL.out, decide_eq_true h40, Bool.true_or])
    clear h40
    go_enter Tryd.func8, Tryd.ntmps8
    go_wp2
    go_ret
    exact ⟨by rw [HF.out]; rfl, Below.refl _ _⟩
  have h40' : ¬ (20 : Int) < (l.length : Int) := by omega
  by_cases h60 : 60 < fs.length
  · have h60' : (60 : Int) < (fs.length : Int) := by omega
    have HF := Lib.hid (show R = true by rw [HL.out, decide_eq_true h60, Bool.true_or, Bool.or_true])
    clear h60 h40
    go_enter Tryd.func8, Tryd.ntmps8
    go_wp2
    go_ret
    exact ⟨by rw [HF.out]; rfl, Below.refl _ _⟩
  have h60' : ¬ (60 : Int) < (fs.length : Int) := by omega
  have HS := Lib.hid (show (Cn.bigL (l.drop 0) || Cn.bigF (fs.drop 0)) = R by rw [HL.out, decide_eq_false h40, decide_eq_false h60, Bool.false_or, Bool.false_or])
  have HQ := Lib.hid (show l.length ≤ 60 ∧ fs.length ≤ 60 by omega)
  clear HL h40 h60
  go_enter Tryd.func8, Tryd.ntmps8
  go_wp2_with fail
  go_loopw [19] (fun vi wr => ∃ (k : Nat), k ≤ l.length ∧ vi = .int .i64 k ∧ (Cn.bigL (l.drop k) || Cn.bigF (fs.drop 0)) = R ∧ Below w.heap.size w wr) (fun i _ => l.length - (intOf i).toNat)
  case atStart => exact ⟨0, Nat.zero_le _, rfl, HS.out, Below.refl _ _⟩
  case round =>
    obtain ⟨k, hk, rfl, hag, hB⟩ := hrel
    have HB := Lib.hid hB
    clear hB HS h40' h60'
    by_cases hlt : k < l.length
    · have hlt' : (k : Int) < (l.length : Int) := by omega
      have hw := large_wrap k _ HQ.out.1 hlt
      obtain ⟨b, off, rfl, hb, a0, a1, a2, a3, a4⟩ := (HR.out.keep HB.out).ten k hlt hlt
      rw [HA.out k hlt] at hag
      generalize l[k] = x at *
      obtain ⟨n2, k2, m2, s2, q2⟩ := x
      simp only at a0 a1 a2 a3 a4 hag
      go_upto_region 6 with (fail)
      have HB1 := Lib.hid (HB.out.alloc HB.out.size (.cells #[.string n2, .string k2, .int .i64 m2, .int .i64 s2, .int .i64 q2] 61))
      have HX := Has.new wr #[.string n2, .string k2, .int .i64 m2, .int .i64 s2, .int .i64 q2] 61
      clear a0 a1 a2 a3 a4 HB hb
      generalize wr.heap.size = p at *
      generalize wr.alloc (.cells #[.string n2, .string k2, .int .i64 m2, .int .i64 s2, .int .i64 q2] 61) = w5 at *
      have x0 := HX.cell 0; have x1 := HX.cell 1
      simp only [List.getElem?_toArray, List.getElem?_cons_zero, List.getElem?_cons_succ] at x0 x1
      clear HX
      by_cases c1 : 150 < n2.size
      · have c1' : (150 : Int) < (n2.size : Int) := by omega
        have HF := Lib.hid (show R = true by rw [← hag, decide_eq_true c1, Bool.true_or, Bool.true_or, Bool.true_or])
        clear hag c1
        go_wp2
        (try simp only [Exit.inBlock, Exit.then])
        go_ret
        exact ⟨by rw [HF.out]; rfl, HB1.out⟩
      · have c1' : ¬ (150 : Int) < (n2.size : Int) := by omega
        rw [decide_eq_false c1, Bool.false_or] at hag
        clear c1
        by_cases c2 : 150 < k2.size
        · have c2' : (150 : Int) < (k2.size : Int) := by omega
          have HF := Lib.hid (show R = true by rw [← hag, decide_eq_true c2, Bool.true_or, Bool.true_or])
          clear hag c2
          go_wp2
          (try simp only [Exit.inBlock, Exit.then])
          go_ret
          exact ⟨by rw [HF.out]; rfl, HB1.out⟩
        · have c2' : ¬ (150 : Int) < (k2.size : Int) := by omega
          rw [decide_eq_false c2, Bool.false_or] at hag
          have HG := Lib.hid hag
          clear hag c2
          go_wp2_with fail
          go_roundw
          case rel => exact ⟨k + 1, hlt, by go_num, HG.out, HB1.out⟩
          case measure => rw [hw]; exact large_meas k _ hlt
    · have hlt' : ¬ (k : Int) < (l.length : Int) := by omega
      rw [HE.out k (by omega), Bool.false_or] at hag
      have HS := Lib.hid hag
      clear hag
      go_wp2_with fail
      clear hlt' hlt hk
      go_loopw [36] (fun vi wr => ∃ (k : Nat), k ≤ fs.length ∧ vi = .int .i64 k ∧ Cn.bigF (fs.drop k) = R ∧ Below w.heap.size w wr) (fun i _ => fs.length - (intOf i).toNat)
      case atStart => exact ⟨0, Nat.zero_le _, rfl, HS.out, HB.out⟩
      case round =>
        obtain ⟨k2, hk, rfl, hag, hB⟩ := hrel
        clear HB HS
        have HB := Lib.hid hB
        clear hB
        by_cases hlt : k2 < fs.length
        · have hlt' : (k2 : Int) < (fs.length : Int) := by omega
          have hw := large_wrap k2 _ HQ.out.2 hlt
          obtain ⟨b, off, rfl, hb, a0, a1, a2⟩ := (HFR.out.keep HB.out).frm k2 hlt hlt
          rw [HFA.out k2 hlt] at hag
          generalize fs[k2] = x at *
          obtain ⟨ft, fj, fd⟩ := x
          simp only at a0 a1 a2 hag
          go_upto_region 12 with (fail)
          have HB1 := Lib.hid (HB.out.alloc HB.out.size (.cells #[.int .i64 ft, .int .i64 fj, .string fd] 42))
          have HX := Has.new wr #[.int .i64 ft, .int .i64 fj, .string fd] 42
          clear a0 a1 a2 HB hb
          generalize wr.heap.size = p at *
          generalize wr.alloc (.cells #[.int .i64 ft, .int .i64 fj, .string fd] 42) = w5 at *
          have x2 := HX.cell 2
          simp only [List.getElem?_toArray, List.getElem?_cons_zero, List.getElem?_cons_succ] at x2
          clear HX
          by_cases c1 : 200 < fd.size
          · have c1' : (200 : Int) < (fd.size : Int) := by omega
            have HF := Lib.hid (show R = true by rw [← hag, decide_eq_true c1, Bool.true_or])
            clear hag c1
            go_wp2
            (try simp only [Exit.inBlock, Exit.then])
            go_ret
            exact ⟨by rw [HF.out]; rfl, HB1.out⟩
          · have c1' : ¬ (200 : Int) < (fd.size : Int) := by omega
            rw [decide_eq_false c1, Bool.false_or] at hag
            have HG := Lib.hid hag
            clear hag c1
            go_wp2_with fail
            go_roundw
            case rel => exact ⟨k2 + 1, hlt, by go_num, HG.out, HB1.out⟩
            case measure => rw [hw]; exact large_meas k2 _ hlt
        · have hlt' : ¬ (k2 : Int) < (fs.length : Int) := by omega
          rw [HFE.out k2 (by omega)] at hag
          have HF := Lib.hid hag
          clear hag
          go_wp2
          go_ret
          exact ⟨by rw [← HF.out]; rfl, HB.out⟩
end Go.Proofs.YtajalllecoclcaaDoor
