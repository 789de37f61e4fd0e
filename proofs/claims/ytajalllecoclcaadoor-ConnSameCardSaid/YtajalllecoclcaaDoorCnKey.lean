/- The small case that all laws ask. What is more than the laws go through. -/
import Derived.Test.YtajalllecoclcaaDoorCnWalk4
import Derived.Laws.StructEq
namespace Go.Proofs.YtajalllecoclcaaDoor
open Go.RowKit
set_option linter.unusedVariables false
set_option linter.unusedSimpArgs false

namespace Cn
theorem key0 : (Tn.check [annT]).2 = 0 := by kernel_rfl
theorem key1 : step [annT] [] ⟨1, 0, ⟨#[107, 101, 122]⟩⟩ = ⟨1, 0, 0, 0, 0, 0, ⟨#[]⟩, 30⟩ := by kernel_rfl
theorem key2 : step [annT] [⟨1, 0, 0, 0, 0, 0, ⟨#[]⟩, 30⟩] ⟨1, 0, ⟨#[107, 101, 121]⟩⟩ = ⟨2, 0, 0, 0, 0, 0, ⟨#[]⟩, 0⟩ := by kernel_rfl
theorem key3 : step [annT] [⟨1, 0, 0, 0, 0, 0, ⟨#[]⟩, 30⟩, ⟨2, 0, 0, 0, 0, 0, ⟨#[]⟩, 0⟩] ⟨4, 3, ⟨#[]⟩⟩ = ⟨1, 3, 0, 0, 0, 0, ⟨#[]⟩, 31⟩ := by kernel_rfl
theorem key4 : step [annT] [] ⟨1, 0, ⟨#[107, 101, 121]⟩⟩ = ⟨2, 0, 0, 0, 0, 0, ⟨#[]⟩, 0⟩ := by kernel_rfl
end Cn
theorem ann_small : tnSmall [Cn.annT] := fun x hx => by
  rw [List.mem_singleton.1 hx]
  exact ⟨by decide, by decide⟩
/-- a connection of the call's own -/
structure On (w0 w : World) (b m : Nat) (a : Option Addr) (cap : Nat) (l : List Tn.Ten) (L : List Cn.Act) : Prop where
  is : ConnAt w b m a cap l L
  below : Below w0.heap.size w0 w
  fresh : Fresh w0.heap.size b m a
section
variable {w0 w w' : World} {b m : Nat} {a : Option Addr} {cap : Nat} {l : List Tn.Ten} {L : List Cn.Act}
theorem On.keep (h : On w0 w b m a cap l L) (k : Below w.heap.size w w') : On w0 w' b m a cap l L := ⟨h.is.keep k, h.below.trans (k.mono h.below.size), h.fresh⟩
theorem On.step {x : Cn.Act} (h : On w0 w b m a cap l L) (k : Stepped w w' b m a cap l L x) : On w0 w' b m a cap l (L ++ [x]) := ⟨k.1, below_of_chg h.below h.below.size k.2 (fun y hy => by
  simp only [List.mem_cons, List.not_mem_nil, or_false] at hy
  rcases hy with rfl | rfl
  · exact h.fresh.b
  · exact h.fresh.m), h.fresh⟩
theorem On.apart (h : On w0 w b m a cap l L) (p : Nat) (hp : w.heap.size ≤ p) : p ∉ [b, m] := by
  have h1 := h.is.lt
  have h2 := h.is.map.lt
  simp only [List.mem_cons, List.not_mem_nil, or_false]
  omega
theorem On.apart' {w1 : World} (h : On w0 w1 b m a cap l L) (p : Nat) (hp : w1.heap.size ≤ p) : p ∉ [b, m] := h.apart p hp
end
/-- Step, of a connection of the call's own -/
theorem step_on {w0 w : World} {b m : Nat} {a : Option Addr} {cap : Nat} {l : List Tn.Ten} {L : List Cn.Act} (t j : Int) (d : ByteArray) (h : On w0 w b m a cap l L) (hl : l.length ≤ 1000) (hz : tnSmall l) (hT : Tabs w0) (x : Cn.Act) (hx : Cn.step l L ⟨t, j, d⟩ = x) :
    Calls Tryd.prog 13 #[.pointer (some ⟨b, 0, none⟩), .agg #[.int .i64 t, .int .i64 j, .string d]] w fun e w' =>
      e = .returned (.tuple #[.agg #[.int .i64 x.what, .int .i64 x.job, .int .i64 x.ten, .int .i64 x.kind, .int .i64 x.lev, .int .i64 x.n, .string x.txt, .int .i64 x.err], .int .i64 0]) ∧ On w0 w' b m a cap l (L ++ [x]) ∧ Chg [b, m] w w' := by
  subst hx
  exact (step_walk b m a cap l L t j d w h.is hl hz (hT.keep h.below)).mono fun e w' ⟨he, hs⟩ => ⟨he, h.step hs, hs.2⟩
/-- New, of the one tenant -/
theorem new_on (w0 w : World) (a : Option Addr) (cap : Nat) (hb : Below w0.heap.size w0 w) (hr : RowS w 5 a 1 cap ([Cn.annT].flatMap tncells)) (hT : Tabs w0) :
    Calls Tryd.prog 10 #[.slice a 1 cap] w fun r w' => ∃ b m a' cap', r = .returned (.tuple #[.pointer (some ⟨b, 0, none⟩), .int .i64 0]) ∧ On w0 w' b m a' cap' [Cn.annT] [] ∧ Fresh w.heap.size b m a' ∧ Below w.heap.size w w' :=
  (new_yes [Cn.annT] a 1 cap w rfl hr (by decide) ann_small (hT.keep hb) Cn.key0).mono fun r w' ⟨b, m, a', cap', h1, h2, h3, h4⟩ => ⟨b, m, a', cap', h1, ⟨h2, hb.trans (h4.mono hb.size), ⟨Nat.le_trans hb.size h3.b, Nat.le_trans hb.size h3.m, fun x hx => Nat.le_trans hb.size (h3.row x hx)⟩⟩, h3, h4⟩
set_option maxRecDepth 100000 in
set_option maxHeartbeats 1000000 in
theorem key_walk (w : World) (hT : Tabs w) : Calls Tryd.prog 9 #[] w fun r w' => r = .returned (.bool true) ∧ Below w.heap.size w w' := by
  have HT := Lib.hid hT
  clear hT
  go_enter Tryd.func9, Tryd.ntmps9
  go_wp2_with fail
  (with_reducible refine (little_walk _).mono ?_)
  rintro r1 w1 ⟨a1, cap1, rfl, hr1, hb1⟩
  have HR1 := Lib.hid hr1
  have HB1 := Lib.hid hb1
  clear hr1 hb1
  go_wp2_with fail
  (with_reducible refine (new_on w _ _ _ HB1.out HR1.out HT.out).mono ?_)
  rintro r2 w2 ⟨b, m, a, cap, rfl, ho, -, -⟩
  have HO := Lib.hid ho
  clear ho HB1 HR1
  go_wp2_with fail
  with_reducible refine (step_on 1 0 ⟨#[107, 101, 122]⟩ HO.out (by decide) ann_small HT.out _ Cn.key1).mono ?_
  rintro r3 w3 ⟨rfl, ho, hc⟩
  have HO3 := Lib.hid ho
  have HC3 := Lib.hid hc
  clear ho hc
  go_upto_region 3 with (fail)
  have HB3 := (Below.refl _ w3).alloc (Nat.le_refl _) (.cells #[.int .i64 1, .int .i64 0, .int .i64 0, .int .i64 0, .int .i64 0, .int .i64 0, .string ⟨#[]⟩, .int .i64 30] 38)
  have HO := Lib.hid (HO3.out.keep HB3)
  have HA3 := Lib.hid (Has.new w3 #[.int .i64 1, .int .i64 0, .int .i64 0, .int .i64 0, .int .i64 0, .int .i64 0, .string ⟨#[]⟩, .int .i64 30] 38)
  have HN3 := Lib.hid (HO3.out.apart w3.heap.size (Nat.le_refl _))
  simp only [List.nil_append, List.cons_append] at HO
  clear HB3 HO3 HC3
  generalize w3.heap.size = p3 at *
  generalize w3.alloc (.cells #[.int .i64 1, .int .i64 0, .int .i64 0, .int .i64 0, .int .i64 0, .int .i64 0, .string ⟨#[]⟩, .int .i64 30] 38) = w4 at *
  go_wp2_with fail
  with_reducible refine (step_on 1 0 ⟨#[107, 101, 121]⟩ HO.out (by decide) ann_small HT.out _ Cn.key2).mono ?_
  rintro r5 w5 ⟨rfl, ho, hc⟩
  have HO5 := Lib.hid ho
  have HC5 := Lib.hid hc
  clear ho hc
  have HA35 := Lib.hid (HA3.out.chg HC5.out HN3.out)
  clear HA3 HO
  go_upto_region 4 with (fail)
  have HB5 := (Below.refl _ w5).alloc (Nat.le_refl _) (.cells #[.int .i64 2, .int .i64 0, .int .i64 0, .int .i64 0, .int .i64 0, .int .i64 0, .string ⟨#[]⟩, .int .i64 0] 38)
  have HO := Lib.hid (HO5.out.keep HB5)
  have HA5 := Lib.hid (Has.new w5 #[.int .i64 2, .int .i64 0, .int .i64 0, .int .i64 0, .int .i64 0, .int .i64 0, .string ⟨#[]⟩, .int .i64 0] 38)
  have HN5 := Lib.hid (HO5.out.apart w5.heap.size (Nat.le_refl _))
  simp only [List.nil_append, List.cons_append] at HO
  have HA3 := Lib.hid (HA35.out.alloc (.cells #[.int .i64 2, .int .i64 0, .int .i64 0, .int .i64 0, .int .i64 0, .int .i64 0, .string ⟨#[]⟩, .int .i64 0] 38))
  clear HB5 HO5 HC5 HA35
  generalize w5.heap.size = p5 at *
  generalize w5.alloc (.cells #[.int .i64 2, .int .i64 0, .int .i64 0, .int .i64 0, .int .i64 0, .int .i64 0, .string ⟨#[]⟩, .int .i64 0] 38) = w6 at *
  go_wp2_with fail
  with_reducible refine (step_on 4 3 ⟨#[]⟩ HO.out (by decide) ann_small HT.out _ Cn.key3).mono ?_
  rintro r7 w7 ⟨rfl, ho, hc⟩
  have HO7 := Lib.hid ho
  have HC7 := Lib.hid hc
  clear ho hc
  have HA37 := Lib.hid (HA3.out.chg HC7.out HN3.out)
  have HA57 := Lib.hid (HA5.out.chg HC7.out HN5.out)
  clear HA3 HA5 HO
  go_upto_region 5 with (fail)
  have HB7 := (Below.refl _ w7).alloc (Nat.le_refl _) (.cells #[.int .i64 1, .int .i64 3, .int .i64 0, .int .i64 0, .int .i64 0, .int .i64 0, .string ⟨#[]⟩, .int .i64 31] 38)
  have HO := Lib.hid (HO7.out.keep HB7)
  have HA7 := Lib.hid (Has.new w7 #[.int .i64 1, .int .i64 3, .int .i64 0, .int .i64 0, .int .i64 0, .int .i64 0, .string ⟨#[]⟩, .int .i64 31] 38)
  have HN7 := Lib.hid (HO7.out.apart w7.heap.size (Nat.le_refl _))
  simp only [List.nil_append, List.cons_append] at HO
  have HA3 := Lib.hid (HA37.out.alloc (.cells #[.int .i64 1, .int .i64 3, .int .i64 0, .int .i64 0, .int .i64 0, .int .i64 0, .string ⟨#[]⟩, .int .i64 31] 38))
  have HA5 := Lib.hid (HA57.out.alloc (.cells #[.int .i64 1, .int .i64 3, .int .i64 0, .int .i64 0, .int .i64 0, .int .i64 0, .string ⟨#[]⟩, .int .i64 31] 38))
  clear HB7 HO7 HC7 HA37 HA57 HN3 HN5 HN7
  generalize w7.heap.size = p7 at *
  generalize w7.alloc (.cells #[.int .i64 1, .int .i64 3, .int .i64 0, .int .i64 0, .int .i64 0, .int .i64 0, .string ⟨#[]⟩, .int .i64 31] 38) = w8 at *
  have c30 := HA3.out.cell 0; have c31 := HA3.out.cell 1; have c32 := HA3.out.cell 2; have c33 := HA3.out.cell 3; have c34 := HA3.out.cell 4; have c35 := HA3.out.cell 5; have c36 := HA3.out.cell 6; have c37 := HA3.out.cell 7
  simp only [List.getElem?_toArray, List.getElem?_cons_zero, List.getElem?_cons_succ] at c30 c31 c32 c33 c34 c35 c36 c37
  have c50 := HA5.out.cell 0; have c51 := HA5.out.cell 1; have c52 := HA5.out.cell 2; have c53 := HA5.out.cell 3; have c54 := HA5.out.cell 4; have c55 := HA5.out.cell 5; have c56 := HA5.out.cell 6; have c57 := HA5.out.cell 7
  simp only [List.getElem?_toArray, List.getElem?_cons_zero, List.getElem?_cons_succ] at c50 c51 c52 c53 c54 c55 c56 c57
  have c70 := HA7.out.cell 0; have c71 := HA7.out.cell 1; have c72 := HA7.out.cell 2; have c73 := HA7.out.cell 3; have c74 := HA7.out.cell 4; have c75 := HA7.out.cell 5; have c76 := HA7.out.cell 6; have c77 := HA7.out.cell 7
  simp only [List.getElem?_toArray, List.getElem?_cons_zero, List.getElem?_cons_succ] at c70 c71 c72 c73 c74 c75 c76 c77
  go_wp2
  go_ret
  exact ⟨rfl, HO.out.below⟩
end Go.Proofs.YtajalllecoclcaaDoor
namespace Go.Proofs.YtajalllecoclcaaDoor
open Go.RowKit
set_option linter.unusedVariables false
set_option linter.unusedSimpArgs false

namespace Cn
def bigL (l : List Tn.Ten) : Bool := l.any fun t => decide (150 < t.name.size) || decide (150 < t.tok.size)
def bigF (l : List Fr.Frm) : Bool := l.any fun t => decide (200 < t.d.size)
theorem bigL_at (l : List Tn.Ten) (k : Nat) (h : k < l.length) : bigL (l.drop k) = ((decide (150 < l[k].name.size) || decide (150 < l[k].tok.size)) || bigL (l.drop (k + 1))) := by
  rw [List.drop_eq_getElem_cons h]; rfl
theorem bigL_end (l : List Tn.Ten) (k : Nat) (h : l.length ≤ k) : bigL (l.drop k) = false := by rw [List.drop_eq_nil_of_le h]; rfl
theorem bigF_at (l : List Fr.Frm) (k : Nat) (h : k < l.length) : bigF (l.drop k) = (decide (200 < l[k].d.size) || bigF (l.drop (k + 1))) := by
  rw [List.drop_eq_getElem_cons h]; rfl
theorem bigF_end (l : List Fr.Frm) (k : Nat) (h : l.length ≤ k) : bigF (l.drop k) = false := by rw [List.drop_eq_nil_of_le h]; rfl
def large (l : List Tn.Ten) (fs : List Fr.Frm) : Bool := decide (20 < l.length) || (decide (60 < fs.length) || (bigL (l.drop 0) || bigF (fs.drop 0)))
theorem large_not (l : List Tn.Ten) (fs : List Fr.Frm) (h : large l fs = false) : l.length ≤ 20 ∧ fs.length ≤ 60 ∧ (∀ x ∈ l, x.name.size ≤ 150 ∧ x.tok.size ≤ 150) ∧ ∀ x ∈ fs, x.d.size ≤ 200 := by
  unfold large at h
  rw [Bool.or_eq_false_iff, Bool.or_eq_false_iff, Bool.or_eq_false_iff] at h
  obtain ⟨h1, h2, h3, h4⟩ := h
  refine ⟨by have := of_decide_eq_false h1; omega, by have := of_decide_eq_false h2; omega, fun x hx => ?_, fun x hx => ?_⟩
  · rw [List.drop_zero] at h3
    have := List.any_eq_false.1 h3 x hx
    simp at this
    omega
  · rw [List.drop_zero] at h4
    have := List.any_eq_false.1 h4 x hx
    simp at this
    omega
end Cn
theorem large_meas (k q : Nat) (h : k < q) : q - (intOf (Value.int .i64 ((k : Int) + 1))).toNat < q - (intOf (Value.int .i64 (k : Int))).toNat := by simp [intOf]; omega
theorem large_wrap (k q : Nat) (h : q ≤ 60) (hk : k < q) : wrap64 ((k : Int) + 1) = (k : Int) + 1 := by unfold wrap64; omega
set_option maxRecDepth 100000 in
set_option maxHeartbeats 1600000 in
theorem large36_walk (l : List Tn.Ten) (a : Option Addr) (len cap : Nat) (fs : List Fr.Frm) (fa : Option Addr) (flen fcap : Nat) (w : World) (hl : l.length = len) (hr : RowS w 5 a len cap (l.flatMap tncells)) (hfl : fs.length = flen) (hfr : RowS w 3 fa flen fcap (fs.flatMap cfcells)) :
    Calls Tryd.prog 8 #[.slice a len cap, .slice fa flen fcap] w fun r w' => r = .returned (.bool (Cn.large l fs)) ∧ Below w.heap.size w w' := by
  have HR := Lib.hid hr
  have HFR := Lib.hid hfr
  have HA := Lib.hid (fun k h => Cn.bigL_at l k h)
  have HE := Lib.hid (fun k h => Cn.bigL_end l k h)
  have HFA := Lib.hid (fun k h => Cn.bigF_at fs k h)
  have HFE := Lib.hid (fun k h => Cn.bigF_end fs k h)
  have HL := Lib.hid (show Cn.large l fs = (decide (20 < l.length) || (decide (60 < fs.length) || (Cn.bigL (l.drop 0) || Cn.bigF (fs.drop 0)))) from rfl)
  generalize Cn.large l fs = R at *
  subst hl hfl
  clear hr hfr
  by_cases h40 : 20 < l.length
  · have h40' : (20 : Int) < (l.length : Int) := by omega
    have HF := Lib.hid (show R = true by rw [HL.out, decide_eq_true h40, Bool.true_or])
    clear h40
    go_enter Tryd.func8, Tryd.ntmps8
    go_wp2
    go_ret
    exact ⟨by rw [HF.out]; rfl, Below.refl _ _⟩
  have h40' : ¬ (20 : Int) < (l.length : Int) := by omega
  by_cases h60 : 60 < fs.length
  · have h60' : (60 : Int) < (fs.length : Int) := by omega
    have HF := Lib.hid (show R = true by rw [HL.out, decide_eq_true h60, Bool.true_or, Bool.or_true])
    clear h60 h40
    go_enter Tryd.func8, Tryd.ntmps8
    go_wp2
    go_ret
    exact ⟨by rw [HF.out]; rfl, Below.refl _ _⟩
  have h60' : ¬ (60 : Int) < (fs.length : Int) := by omega
  have HS := Lib.hid (show (Cn.bigL (l.drop 0) || Cn.bigF (fs.drop 0)) = R by rw [HL.out, decide_eq_false h40, decide_eq_false h60, Bool.false_or, Bool.false_or])
  have HQ := Lib.hid (show l.length ≤ 60 ∧ fs.length ≤ 60 by omega)
  clear HL h40 h60
  go_enter Tryd.func8, Tryd.ntmps8
  go_wp2_with fail
  go_loopw [19] (fun vi wr => ∃ (k : Nat), k ≤ l.length ∧ vi = .int .i64 k ∧ (Cn.bigL (l.drop k) || Cn.bigF (fs.drop 0)) = R ∧ Below w.heap.size w wr) (fun i _ => l.length - (intOf i).toNat)
  case atStart => exact ⟨0, Nat.zero_le _, rfl, HS.out, Below.refl _ _⟩
  case round =>
    obtain ⟨k, hk, rfl, hag, hB⟩ := hrel
    have HB := Lib.hid hB
    clear hB HS h40' h60'
    by_cases hlt : k < l.length
    · have hlt' : (k : Int) < (l.length : Int) := by omega
      have hw := large_wrap k _ HQ.out.1 hlt
      obtain ⟨b, off, rfl, hb, a0, a1, a2, a3, a4⟩ := (HR.out.keep HB.out).ten k hlt hlt
      rw [HA.out k hlt] at hag
      generalize l[k] = x at *
      obtain ⟨n2, k2, m2, s2, q2⟩ := x
      simp only at a0 a1 a2 a3 a4 hag
      go_upto_region 6 with (fail)
      have HB1 := Lib.hid (HB.out.alloc HB.out.size (.cells #[.string n2, .string k2, .int .i64 m2, .int .i64 s2, .int .i64 q2] 61))
      have HX := Has.new wr #[.string n2, .string k2, .int .i64 m2, .int .i64 s2, .int .i64 q2] 61
      clear a0 a1 a2 a3 a4 HB hb
      generalize wr.heap.size = p at *
      generalize wr.alloc (.cells #[.string n2, .string k2, .int .i64 m2, .int .i64 s2, .int .i64 q2] 61) = w5 at *
      have x0 := HX.cell 0; have x1 := HX.cell 1
      simp only [List.getElem?_toArray, List.getElem?_cons_zero, List.getElem?_cons_succ] at x0 x1
      clear HX
      by_cases c1 : 150 < n2.size
      · have c1' : (150 : Int) < (n2.size : Int) := by omega
        have HF := Lib.hid (show R = true by rw [← hag, decide_eq_true c1, Bool.true_or, Bool.true_or, Bool.true_or])
        clear hag c1
        go_wp2
        (try simp only [Exit.inBlock, Exit.then])
        go_ret
        exact ⟨by rw [HF.out]; rfl, HB1.out⟩
      · have c1' : ¬ (150 : Int) < (n2.size : Int) := by omega
        rw [decide_eq_false c1, Bool.false_or] at hag
        clear c1
        by_cases c2 : 150 < k2.size
        · have c2' : (150 : Int) < (k2.size : Int) := by omega
          have HF := Lib.hid (show R = true by rw [← hag, decide_eq_true c2, Bool.true_or, Bool.true_or])
          clear hag c2
          go_wp2
          (try simp only [Exit.inBlock, Exit.then])
          go_ret
          exact ⟨by rw [HF.out]; rfl, HB1.out⟩
        · have c2' : ¬ (150 : Int) < (k2.size : Int) := by omega
          rw [decide_eq_false c2, Bool.false_or] at hag
          have HG := Lib.hid hag
          clear hag c2
          go_wp2_with fail
          go_roundw
          case rel => exact ⟨k + 1, hlt, by go_num, HG.out, HB1.out⟩
          case measure => rw [hw]; exact large_meas k _ hlt
    · have hlt' : ¬ (k : Int) < (l.length : Int) := by omega
      rw [HE.out k (by omega), Bool.false_or] at hag
      have HS := Lib.hid hag
      clear hag
      go_wp2_with fail
      clear hlt' hlt hk
      go_loopw [36] (fun vi wr => ∃ (k : Nat), k ≤ fs.length ∧ vi = .int .i64 k ∧ Cn.bigF (fs.drop k) = R ∧ Below w.heap.size w wr) (fun i _ => fs.length - (intOf i).toNat)
      case atStart => exact ⟨0, Nat.zero_le _, rfl, HS.out, HB.out⟩
      case round =>
        obtain ⟨k2, hk, rfl, hag, hB⟩ := hrel
        clear HB HS
        have HB := Lib.hid hB
        clear hB
        by_cases hlt : k2 < fs.length
        · have hlt' : (k2 : Int) < (fs.length : Int) := by omega
          have hw := large_wrap k2 _ HQ.out.2 hlt
          obtain ⟨b, off, rfl, hb, a0, a1, a2⟩ := (HFR.out.keep HB.out).frm k2 hlt hlt
          rw [HFA.out k2 hlt] at hag
          generalize fs[k2] = x at *
          obtain ⟨ft, fj, fd⟩ := x
          simp only at a0 a1 a2 hag
          go_upto_region 12 with (fail)
          have HB1 := Lib.hid (HB.out.alloc HB.out.size (.cells #[.int .i64 ft, .int .i64 fj, .string fd] 42))
          have HX := Has.new wr #[.int .i64 ft, .int .i64 fj, .string fd] 42
          clear a0 a1 a2 HB hb
          generalize wr.heap.size = p at *
          generalize wr.alloc (.cells #[.int .i64 ft, .int .i64 fj, .string fd] 42) = w5 at *
          have x2 := HX.cell 2
          simp only [List.getElem?_toArray, List.getElem?_cons_zero, List.getElem?_cons_succ] at x2
          clear HX
          by_cases c1 : 200 < fd.size
          · have c1' : (200 : Int) < (fd.size : Int) := by omega
            have HF := Lib.hid (show R = true by rw [← hag, decide_eq_true c1, Bool.true_or])
            clear hag c1
            go_wp2
            (try simp only [Exit.inBlock, Exit.then])
            go_ret
            exact ⟨by rw [HF.out]; rfl, HB1.out⟩
          · have c1' : ¬ (200 : Int) < (fd.size : Int) := by omega
            rw [decide_eq_false c1, Bool.false_or] at hag
            have HG := Lib.hid hag
            clear hag c1
            go_wp2_with fail
            go_roundw
            case rel => exact ⟨k2 + 1, hlt, by go_num, HG.out, HB1.out⟩
            case measure => rw [hw]; exact large_meas k2 _ hlt
        · have hlt' : ¬ (k2 : Int) < (fs.length : Int) := by omega
          rw [HFE.out k2 (by omega)] at hag
          have HF := Lib.hid hag
          clear hag
          go_wp2
          go_ret
          exact ⟨by rw [← HF.out]; rfl, HB.out⟩
end Go.Proofs.YtajalllecoclcaaDoor
