/- The small case that all five laws ask, and what is more than they go through. -/
import Derived.Test.YtimlmjabdakojaaDoorTnWalk5
import Derived.Laws.StructEq
namespace Go.Proofs.YtimlmjabdakojaaDoor
open Go.RowKit
set_option linter.unusedVariables false
set_option linter.unusedSimpArgs false

namespace Tn
def annT : Ten := ⟨⟨#[97, 110, 110]⟩, ⟨#[107, 101, 121]⟩, 100, 50, 5⟩
theorem ann_text : textL [annT] = [97, 110, 110, 58, 107, 101, 121, 58, 49, 48, 48, 58, 53, 48, 58, 53, 10] := by
  have d1 : St.dg 100 = [49, 48, 48] := by
    show St.digs 100 = _
    rw [St.digs_ge 100 (by decide), St.digs_ge (100 / 10) (by decide), St.digs_lt (100 / 10 / 10) (by decide)]
    rfl
  have d2 : St.dg 50 = [53, 48] := by
    show St.digs 50 = _
    rw [St.digs_ge 50 (by decide), St.digs_lt (50 / 10) (by decide)]
    rfl
  have d3 : St.dg 5 = [53] := by
    show St.digs 5 = _
    rw [St.digs_lt 5 (by decide)]
    rfl
  show ((annT.name.data.toList ++ 58 :: (annT.tok.data.toList ++ 58 :: (St.dg 100 ++ 58 :: (St.dg 50 ++ 58 :: St.dg 5)))) ++ [10]) ++ [] = _
  rw [d1, d2, d3]
  rfl
theorem ann_check : (check [annT]).2 = 0 := by kernel_rfl
theorem ann_parse : parse [97, 110, 110, 58, 107, 101, 121, 58, 49, 48, 48, 58, 53, 48, 58, 53, 10] = ([annT], 0, 0) := by
  rw [← ann_text]
  exact parse_text _ ann_check
theorem ann_find : find [annT] ⟨#[107, 101, 121]⟩ = 0 := by kernel_rfl
theorem ann_not : find [annT] ⟨#[107, 101]⟩ = -1 := by kernel_rfl
/-- are tenants more than are gone through? -/
def large (l : List Ten) : Bool := decide (40 < l.length) || l.any fun t => decide (150 < t.name.size) || decide (150 < t.tok.size)
theorem large_not (l : List Ten) (h : large l = false) : l.length ≤ 40 ∧ ∀ x ∈ l, x.name.size ≤ 150 ∧ x.tok.size ≤ 150 := by
  unfold large at h
  rw [Bool.or_eq_false_iff] at h
  refine ⟨by have := of_decide_eq_false h.1; omega, fun x hx => ?_⟩
  have := List.any_eq_false.1 h.2 x hx
  simp at this
  omega
def bigL (l : List Ten) : Bool := l.any fun t => decide (150 < t.name.size) || decide (150 < t.tok.size)
theorem big_at (l : List Ten) (k : Nat) (h : k < l.length) : bigL (l.drop k) = ((decide (150 < l[k].name.size) || decide (150 < l[k].tok.size)) || bigL (l.drop (k + 1))) := by
  rw [List.drop_eq_getElem_cons h]; rfl
theorem big_end (l : List Ten) (k : Nat) (h : l.length ≤ k) : bigL (l.drop k) = false := by rw [List.drop_eq_nil_of_le h]; rfl
end Tn
set_option maxRecDepth 100000 in
set_option maxHeartbeats 1600000 in
theorem large_walk (l : List Tn.Ten) (a : Option Addr) (len cap : Nat) (w : World) (hl : l.length = len) (hr : RowS w 5 a len cap (l.flatMap tncells)) :
    Calls Tryd.prog 8 #[.slice a len cap] w fun r w' => r = .returned (.bool (Tn.large l)) ∧ Below w.heap.size w w' := by
  have HR := Lib.hid hr
  have HA := Lib.hid (fun k h => Tn.big_at l k h)
  have HE := Lib.hid (fun k h => Tn.big_end l k h)
  have HL := Lib.hid (show Tn.large l = (decide (40 < l.length) || Tn.bigL (l.drop 0)) from rfl)
  generalize Tn.large l = R at *
  subst hl
  clear hr
  by_cases h40 : 40 < l.length
  · have h40' : (40 : Int) < (l.length : Int) := by omega
    have HF := Lib.hid (show R = true by rw [HL.out, decide_eq_true h40, Bool.true_or])
    clear h40
    go_enter Tryd.func8, Tryd.ntmps8
    go_wp2
    go_ret
    exact ⟨by rw [HF.out]; rfl, Below.refl _ _⟩
  have h40' : ¬ (40 : Int) < (l.length : Int) := by omega
  have HS := Lib.hid (show Tn.bigL (l.drop 0) = R by rw [HL.out, decide_eq_false h40, Bool.false_or])
  go_enter Tryd.func8, Tryd.ntmps8
  go_wp2_with fail
  go_loopw [10] (fun vi wr => ∃ (k : Nat), k ≤ l.length ∧ vi = .int .i64 k ∧ Tn.bigL (l.drop k) = R ∧ Below w.heap.size w wr) (fun i _ => l.length - (intOf i).toNat)
  case atStart => exact ⟨0, Nat.zero_le _, rfl, HS.out, Below.refl _ _⟩
  case round =>
    obtain ⟨k, hk, rfl, hag, hB⟩ := hrel
    have HB := Lib.hid hB
    clear hB HS
    by_cases hlt : k < l.length
    · have hlt' : (k : Int) < (l.length : Int) := by omega
      obtain ⟨b, off, rfl, hb, a0, a1, a2, a3, a4⟩ := (HR.out.keep HB.out).ten k hlt hlt
      rw [HA.out k hlt] at hag
      generalize l[k] = x at *
      obtain ⟨n2, k2, m2, s2, q2⟩ := x
      simp only at a0 a1 a2 a3 a4 hag
      go_upto_region 6 with (fail)
      have HB1 := Lib.hid (HB.out.alloc HB.out.size (.cells #[.string n2, .string k2, .int .i64 m2, .int .i64 s2, .int .i64 q2] 26))
      have HX := Has.new wr #[.string n2, .string k2, .int .i64 m2, .int .i64 s2, .int .i64 q2] 26
      clear a0 a1 a2 a3 a4 HB hb
      generalize wr.heap.size = p at *
      generalize wr.alloc (.cells #[.string n2, .string k2, .int .i64 m2, .int .i64 s2, .int .i64 q2] 26) = w5 at *
      have x0 := HX.cell 0; have x1 := HX.cell 1
      simp only [List.getElem?_toArray, List.getElem?_cons_zero, List.getElem?_cons_succ] at x0 x1
      clear HX
      by_cases c1 : 150 < n2.size
      · have c1' : (150 : Int) < (n2.size : Int) := by omega
        have HF := Lib.hid (show R = true by rw [← hag, decide_eq_true c1, Bool.true_or, Bool.true_or])
        clear hag c1
        go_wp2
        (try simp only [Exit.inBlock, Exit.then])
        go_ret
        exact ⟨by rw [HF.out]; rfl, HB1.out⟩
      · have c1' : ¬ (150 : Int) < (n2.size : Int) := by omega
        rw [decide_eq_false c1, Bool.false_or] at hag
        clear c1
        by_cases c2 : 150 < k2.size
        · have c2' : (150 : Int) < (k2.size : Int) := by omega
          have HF := Lib.hid (show R = true by rw [← hag, decide_eq_true c2, Bool.true_or])
          clear hag c2
          go_wp2
          (try simp only [Exit.inBlock, Exit.then])
          go_ret
          exact ⟨by rw [HF.out]; rfl, HB1.out⟩
        · have c2' : ¬ (150 : Int) < (k2.size : Int) := by omega
          rw [decide_eq_false c2, Bool.false_or] at hag
          have HG := Lib.hid hag
          clear hag c2
          go_wp2_with fail
          go_roundw
          case rel => exact ⟨k + 1, hlt, by go_num, HG.out, HB1.out⟩
          case measure => simp [intOf]; omega
    · have hlt' : ¬ (k : Int) < (l.length : Int) := by omega
      rw [HE.out k (by omega)] at hag
      have HF := Lib.hid hag
      clear hag
      go_wp2
      go_ret
      exact ⟨by rw [← HF.out]; rfl, HB.out⟩
theorem annFlat : ([Tn.annT].flatMap tncells) = [.string ⟨#[97, 110, 110]⟩, .string ⟨#[107, 101, 121]⟩, .int .i64 100, .int .i64 50, .int .i64 5] := rfl
set_option maxRecDepth 100000 in
set_option maxHeartbeats 2000000 in
theorem ann_walk (w : World) (hM : MaxL w) (hT : Tabs w) : Calls Tryd.prog 9 #[] w fun r w' => r = .returned (.bool true) ∧ Below w.heap.size w w' := by
  have HT := Lib.hid hT
  have HP := Lib.hid (tnparse_walk ⟨#[97, 110, 110, 58, 107, 101, 121, 58, 49, 48, 48, 58, 53, 48, 58, 53, 10]⟩ w hM hT (by decide))
  rw [show Tn.parse (⟨#[97, 110, 110, 58, 107, 101, 121, 58, 49, 48, 48, 58, 53, 48, 58, 53, 10]⟩ : ByteArray).data.toList = ([Tn.annT], 0, 0) from Tn.ann_parse] at HP
  simp only at HP
  have hsm : tnSmall [Tn.annT] := fun x hx => by
    rw [List.mem_singleton.1 hx]
    exact ⟨by decide, by decide⟩
  have HX := Lib.hid (fun a c w hr hT => tntext_walk [Tn.annT] a 1 c w rfl hr (by decide) hsm hT)
  rw [Tn.ann_check, Tn.ann_text] at HX
  simp only [if_true] at HX
  rw [show Fr.bs [97, 110, 110, 58, 107, 101, 121, 58, 49, 48, 48, 58, 53, 48, 58, 53, 10] = ⟨#[97, 110, 110, 58, 107, 101, 121, 58, 49, 48, 48, 58, 53, 48, 58, 53, 10]⟩ from rfl] at HX
  have HF1 := Lib.hid (fun a c w hr => find_walk [Tn.annT] ⟨#[107, 101, 121]⟩ a 1 c w rfl hr (by decide) hsm (by decide))
  have HF2 := Lib.hid (fun a c w hr => find_walk [Tn.annT] ⟨#[107, 101]⟩ a 1 c w rfl hr (by decide) hsm (by decide))
  rw [Tn.ann_find, findV_yes 0 (by decide)] at HF1
  rw [Tn.ann_not, findV_no] at HF2
  go_enter Tryd.func9, Tryd.ntmps9
  go_wp2_with fail
  with_reducible refine HP.out.mono ?_
  rintro r1 w1 ⟨v1, rfl, ho, hb⟩
  obtain ⟨a1, c1, rfl, hr1, -⟩ := rowS_owns ho
  have HR := Lib.hid hr1
  have HB := Lib.hid hb
  clear ho hr1 hb HP
  go_wp2_with fail
  with_reducible refine (HX.out _ _ _ HR.out (HT.out.keep HB.out)).mono ?_
  rintro r2 w2 ⟨rfl, hb⟩
  have HR2 := Lib.hid (HR.out.keep hb)
  have HB2 := Lib.hid (HB.out.trans (hb.mono HB.out.size))
  clear HR HB hb
  go_wp2_with fail
  with_reducible refine (HF1.out _ _ _ HR2.out).mono ?_
  rintro r3 w3 ⟨rfl, hb⟩
  have HR3 := Lib.hid (HR2.out.keep hb)
  have HB3 := Lib.hid (HB2.out.trans (hb.mono HB2.out.size))
  clear HR2 HB2 hb
  go_wp2_with fail
  with_reducible refine (HF2.out _ _ _ HR3.out).mono ?_
  rintro r4 w4 ⟨rfl, hb⟩
  have HR4 := Lib.hid (HR3.out.keep hb)
  have HB4 := Lib.hid (HB3.out.trans (hb.mono HB3.out.size))
  clear HR3 HB3 hb
  obtain ⟨b, off, rfl, hbb, x0, x1, x2, x3, x4⟩ := HR4.out.ten 0 (by decide) (by decide)
  simp only [List.getElem_cons_zero, Tn.annT, Nat.zero_mul, Nat.add_zero] at x0 x1 x2 x3 x4
  go_wp2
  go_ret
  exact ⟨rfl, HB4.out⟩
set_option maxRecDepth 100000 in
set_option maxHeartbeats 1600000 in
theorem reffind_walk (l : List Tn.Ten) (key : ByteArray) (a : Option Addr) (len cap : Nat) (w : World) (hl : l.length = len) (hr : RowS w 5 a len cap (l.flatMap tncells)) (h100 : len ≤ 1000) :
    Calls Tryd.prog 15 #[.slice a len cap, .string key] w fun r w' => r = .returned (.int .i64 (Tn.find l key)) ∧ Below w.heap.size w w' := by
  have HR := Lib.hid hr
  have HA := Lib.hid (fun k h => Tn.findL_at key l k h)
  have HE := Lib.hid (fun k h => Tn.findL_end key l k h)
  have HS := Lib.hid (show Tn.findL key (l.drop 0) 0 = Tn.find l key by rw [List.drop_zero]; rfl)
  generalize Tn.find l key = R at *
  subst hl
  clear hr
  go_enter Tryd.func15, Tryd.ntmps15
  go_wp2_with fail
  go_loopw [9] (fun vi wr => ∃ (k : Nat), k ≤ l.length ∧ vi = .int .i64 k ∧ Tn.findL key (l.drop k) k = R ∧ Below w.heap.size w wr) (fun i _ => l.length - (intOf i).toNat)
  case atStart => exact ⟨0, Nat.zero_le _, rfl, HS.out, Below.refl _ _⟩
  case round =>
    obtain ⟨k, hk', rfl, hag, hB⟩ := hrel
    have HB := Lib.hid hB
    clear hB
    by_cases hlt : k < l.length
    · have hlt' : (k : Int) < (l.length : Int) := by omega
      obtain ⟨b, off, rfl, hb, a0, a1, a2, a3, a4⟩ := (HR.out.keep HB.out).ten k hlt hlt
      rw [HA.out k hlt] at hag
      generalize l[k] = x at *
      obtain ⟨n2, k2, m2, s2, q2⟩ := x
      simp only at a0 a1 a2 a3 a4 hag
      go_upto_region 4 with (fail)
      have HB1 := Lib.hid (HB.out.alloc HB.out.size (.cells #[.string n2, .string k2, .int .i64 m2, .int .i64 s2, .int .i64 q2] 26))
      have HX := Has.new wr #[.string n2, .string k2, .int .i64 m2, .int .i64 s2, .int .i64 q2] 26
      clear a0 a1 a2 a3 a4 HB hb
      generalize wr.heap.size = p at *
      generalize wr.alloc (.cells #[.string n2, .string k2, .int .i64 m2, .int .i64 s2, .int .i64 q2] 26) = w5 at *
      have x1 := HX.cell 1
      simp only [List.getElem?_toArray, List.getElem?_cons_zero, List.getElem?_cons_succ] at x1
      clear HX
      have e := tstr_eq k2 key
      by_cases c : k2 = key
      · have HF := Lib.hid (show (k : Int) = R by rw [← hag, if_pos c])
        rw [decide_eq_true c] at e
        clear c hag
        go_wp2
        (try simp only [Exit.inBlock, Exit.then])
        go_ret
        exact ⟨by rw [← HF.out]; rfl, HB1.out⟩
      · have HF := Lib.hid (show Tn.findL key (l.drop (k + 1)) (k + 1) = R by rw [← hag, if_neg c])
        rw [decide_eq_false c] at e
        clear c hag
        go_wp2_with fail
        go_roundw
        case rel => exact ⟨k + 1, hlt, by go_num, HF.out, HB1.out⟩
        case measure => simp [intOf]; omega
    · have hlt' : ¬ (k : Int) < (l.length : Int) := by omega
      rw [HE.out k (by omega)] at hag
      have HF := Lib.hid hag.symm
      clear hag
      go_wp2
      go_ret
      exact ⟨by rw [HF.out]; rfl, HB.out⟩
set_option maxRecDepth 100000 in
set_option maxHeartbeats 2000000 in
theorem tenantsFind_walk (l : List Tn.Ten) (a : Option Addr) (len cap : Nat) (key : ByteArray) (w : World) (hl : l.length = len) (hr : RowS w 5 a len cap (l.flatMap tncells)) (_ : ∀ x ∈ l, x.name.size ≤ maxLen ∧ x.tok.size ≤ maxLen) (_ : key.size ≤ maxLen) (hM : MaxL w) (hT : Tabs w) :
    Calls Tryd.prog 4 #[.slice a len cap, .string key] w fun r w' => r = .returned (.bool true) ∧ Below w.heap.size w w' := by
  have HM := Lib.hid hM
  have HT := Lib.hid hT
  have HR := Lib.hid hr
  have HANN := Lib.hid (fun w hM hT => ann_walk w hM hT)
  have HLG := Lib.hid (large_walk l a len cap w hl hr)
  clear hM hT hr
  cases hg : Tn.large l with
  | true =>
    rw [hg] at HLG
    clear hg
    go_enter Tryd.func4, Tryd.ntmps4
    go_wp2_with fail
    (with_reducible refine (HLG.out).mono ?_)
    rintro r1 w1 ⟨rfl, hb⟩
    have HB := Lib.hid hb
    clear hb
    go_wp2_with fail
    with_reducible refine (HANN.out _ (HM.out.keep HB.out) (HT.out.keep HB.out)).mono ?_
    rintro r9 w9 ⟨rfl, hb⟩
    have HBX := Lib.hid (HB.out.trans (hb.mono HB.out.size))
    clear hb
    go_wp2
    go_ret
    exact ⟨rfl, HBX.out⟩
  | false =>
    obtain ⟨h40, hz⟩ := Tn.large_not l hg
    rw [hg] at HLG
    clear hg
    by_cases hk : 150 < key.size
    · have hk' : (150 : Int) < (key.size : Int) := by omega
      clear hk
      go_enter Tryd.func4, Tryd.ntmps4
      go_wp2_with fail
      (with_reducible refine (HLG.out).mono ?_)
      rintro r1 w1 ⟨rfl, hb⟩
      have HB := Lib.hid hb
      clear hb
      go_wp2_with fail
      with_reducible refine (HANN.out _ (HM.out.keep HB.out) (HT.out.keep HB.out)).mono ?_
      rintro r9 w9 ⟨rfl, hb⟩
      have HBX := Lib.hid (HB.out.trans (hb.mono HB.out.size))
      clear hb
      go_wp2
      go_ret
      exact ⟨rfl, HBX.out⟩
    · have hk' : ¬ (150 : Int) < (key.size : Int) := by omega
      have HF := Lib.hid (fun w hr => find_walk l key a len cap w hl hr (by omega) (fun x hx => by have := hz x hx; omega) (by omega))
      have HRF := Lib.hid (fun w hr => reffind_walk l key a len cap w hl hr (by omega))
      have hbd := Tn.findL_bd key l 0
      change Tn.find l key = -1 ∨ 0 ≤ Tn.find l key at hbd
      generalize Tn.find l key = R at *
      clear hk h40 hz
      go_enter Tryd.func4, Tryd.ntmps4
      go_wp2_with fail
      (with_reducible refine (HLG.out).mono ?_)
      rintro r1 w1 ⟨rfl, hb⟩
      have HR1 := Lib.hid (HR.out.keep hb)
      have HB1 := Lib.hid hb
      clear hb HR HLG
      go_wp2_with fail
      with_reducible refine (HF.out _ HR1.out).mono ?_
      rintro r2 w2 ⟨rfl, hb⟩
      have HR2 := Lib.hid (HR1.out.keep hb)
      have HB2 := Lib.hid (HB1.out.trans (hb.mono HB1.out.size))
      clear hb HR1 HB1
      rcases hbd with hbd | hbd
      · subst hbd
        rw [findV_no]
        go_wp2_with fail
        with_reducible refine (HRF.out _ HR2.out).mono ?_
        rintro r3 w3 ⟨rfl, hb⟩
        have HB := Lib.hid (HB2.out.trans (hb.mono HB2.out.size))
        clear hb HR2 HB2
        go_wp2_with fail
        with_reducible refine (HANN.out _ (HM.out.keep HB.out) (HT.out.keep HB.out)).mono ?_
        rintro r9 w9 ⟨rfl, hb⟩
        have HBX := Lib.hid (HB.out.trans (hb.mono HB.out.size))
        clear hb
        go_wp2
        go_ret
        exact ⟨rfl, HBX.out⟩
      · have hn : ¬ R = -1 := by omega
        have hn2 : ¬ R < 0 := by omega
        rw [findV_yes R hn]
        clear hn
        go_wp2_with fail
        with_reducible refine (HRF.out _ HR2.out).mono ?_
        rintro r3 w3 ⟨rfl, hb⟩
        have HB := Lib.hid (HB2.out.trans (hb.mono HB2.out.size))
        clear hb HR2 HB2
        go_wp2_with fail
        with_reducible refine (HANN.out _ (HM.out.keep HB.out) (HT.out.keep HB.out)).mono ?_
        rintro r9 w9 ⟨rfl, hb⟩
        have HBX := Lib.hid (HB.out.trans (hb.mono HB.out.size))
        clear hb
        go_wp2
        go_ret
        exact ⟨rfl, HBX.out⟩
end Go.Proofs.YtimlmjabdakojaaDoor
