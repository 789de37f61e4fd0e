/- The law of parses. -/
import Derived.Test.YtimlmjabdakojaaDoorTnParseR
namespace Go.Proofs.YtimlmjabdakojaaDoor
open Go.RowKit
set_option linter.unusedVariables false
set_option linter.unusedSimpArgs false

namespace Tn
theorem go_len : ∀ (ls : List (List UInt8)) (out : List Ten) (i : Nat), out.length ≤ 16 → (go ls out i).1.length ≤ 16
  | [], out, i, h => h
  | [x], out, i, h => by
    unfold go
    split
    · exact h
    · exact Nat.zero_le _
  | x :: y :: r, out, i, h => by
    unfold go
    cases hp : parseLine x with
    | none => exact Nat.zero_le _
    | some t =>
      simp only
      by_cases ha : again out t = true
      · rw [if_pos ha]; exact Nat.zero_le _
      · rw [if_neg ha]
        by_cases h16 : out.length = 16
        · rw [if_pos h16]; exact Nat.zero_le _
        · rw [if_neg h16]
          exact go_len (y :: r) (out ++ [t]) (i + 1) (by rw [List.length_append]; simp only [List.length_cons, List.length_nil]; omega)
theorem parse_len (s : List UInt8) : (parse s).1.length ≤ 16 := by
  unfold parse
  split
  · exact Nat.zero_le _
  · exact go_len _ [] 0 (Nat.zero_le _)
theorem line_le : ∀ (l : List Ten) (t : Ten), t ∈ l → (lineL t).length ≤ (textL l).length
  | [], _, h => nomatch h
  | x :: r, t, h => by
    have e : textL (x :: r) = (lineL x ++ [10]) ++ textL r := rfl
    rw [e]
    simp only [List.length_append, List.length_cons, List.length_nil]
    rcases List.mem_cons.1 h with rfl | h
    · omega
    · have := line_le r t h; omega
theorem small_text (l : List Ten) (h : (textL l).length ≤ 100000) : ∀ x ∈ l, x.name.size ≤ 100000 ∧ x.tok.size ≤ 100000 := by
  intro x hx
  have h1 := line_le l x hx
  unfold lineL at h1
  simp only [List.length_append, List.length_cons] at h1
  have e1 : x.name.data.toList.length = x.name.size := by simp
  have e2 : x.tok.data.toList.length = x.tok.size := by simp
  omega
end Tn
set_option maxRecDepth 100000 in
set_option maxHeartbeats 3000000 in
theorem tenantsParses_walk (s : ByteArray) (w : World) (_ : s.size ≤ maxLen) (hM : MaxL w) (hT : Tabs w) :
    Calls Tryd.prog 6 #[.string s] w fun r w' => r = .returned (.bool true) ∧ Below w.heap.size w w' := by
  have HM := Lib.hid hM
  have HT := Lib.hid hT
  have HANN := Lib.hid (fun w hM hT => ann_walk w hM hT)
  clear hM hT
  by_cases h800 : 800 < s.size
  · have e8 : (800 : Int) < (s.size : Int) := by omega
    clear h800
    have HB := Lib.hid (Below.refl w.heap.size w)
    go_enter Tryd.func6, Tryd.ntmps6
    go_wp2_with fail
    with_reducible refine (HANN.out _ (HM.out.keep HB.out) (HT.out.keep HB.out)).mono ?_
    rintro r9 w9 ⟨rfl, hb⟩
    have HBX := Lib.hid (HB.out.trans (hb.mono HB.out.size))
    clear hb
    go_wp2
    go_ret
    exact ⟨rfl, HBX.out⟩
  have e8 : ¬ (800 : Int) < (s.size : Int) := by omega
  have hps := fun w hM hT => tnparse_walk s w hM hT (by omega)
  have hrp := fun w => refparse_walk s w (by omega)
  have hsnd := Tn.parse_sound s.data.toList
  have hl16 := Tn.parse_len s.data.toList
  generalize Tn.parse s.data.toList = R at *
  obtain ⟨l, p, c⟩ := R
  simp only at hps hrp hsnd hl16
  have HPS := Lib.hid hps; have HRP := Lib.hid hrp
  have HSM := Lib.hid (fun a b c1 c2 w hr hr2 => tnsame_walk l a b l.length c1 c2 w rfl hr hr2 (by omega))
  clear hps hrp
  go_enter Tryd.func6, Tryd.ntmps6
  go_wp2_with fail
  (with_reducible refine (HPS.out _ HM.out HT.out).mono ?_)
  rintro r1 w1 ⟨v1, rfl, ho1, hb⟩
  obtain ⟨a1, c1, rfl, hr1, -⟩ := rowS_owns ho1
  have HR1 := Lib.hid hr1
  have HB1 := Lib.hid hb
  clear ho1 hr1 hb HPS
  go_wp2_with fail
  (with_reducible refine (HRP.out _).mono ?_)
  rintro r2 w2 ⟨v2, rfl, ho2, hb⟩
  obtain ⟨a2, c2, rfl, hr2, -⟩ := rowS_owns ho2
  have hr1 := HR1.out.keep hb
  have hb2 := HB1.out.trans (hb.mono HB1.out.size)
  have ha := (Below.refl w2.heap.size w2).alloc (Nat.le_refl _) (.cells #[.slice a2 l.length c2, .int .i64 p, .int .i64 c] 44)
  have HQ := Lib.hid (Has.new w2 #[.slice a2 l.length c2, .int .i64 p, .int .i64 c] 44)
  have hb3 := hb2.trans (ha.mono hb2.size)
  clear HR1 HB1 HRP
  have HR1 := Lib.hid (hr1.keep ha); have HR2 := Lib.hid (hr2.keep ha); have HB3 := Lib.hid hb3
  clear ho2 hr1 hr2 hb hb2 ha hb3
  go_upto_region 5 with (fail)
  generalize w2.heap.size = q at *
  generalize w2.alloc (.cells #[.slice a2 l.length c2, .int .i64 p, .int .i64 c] 44) = w3 at *
  have x0 := HQ.out.cell 0; have x1 := HQ.out.cell 1; have x2 := HQ.out.cell 2
  simp only [List.getElem?_toArray, List.getElem?_cons_zero, List.getElem?_cons_succ] at x0 x1 x2
  go_wp2_with fail
  with_reducible refine (HSM.out _ _ _ _ _ HR1.out HR2.out).mono ?_
  rintro r4 w4 ⟨rfl, hb4⟩
  have HR := Lib.hid (HR1.out.keep hb4)
  have HB := Lib.hid (HB3.out.trans (hb4.mono HB3.out.size))
  have HQ4 := Lib.hid (HQ.out.below hb4 HQ.out.lt)
  clear hb4 x0 x1 x2 HQ HR1 HR2 HB3 HSM
  have x2 := HQ4.out.cell 2
  simp only [List.getElem?_toArray, List.getElem?_cons_zero, List.getElem?_cons_succ] at x2
  by_cases hc0 : c = 0
  · subst hc0
    obtain ⟨h1, h2, -⟩ := hsnd rfl
    have hsm : tnSmall l := Tn.small_text l (by rw [h2, llen]; omega)
    have HX := Lib.hid (fun w hr hT => tntext_walk l a1 l.length c1 w rfl hr (by omega) hsm hT)
    rw [h1, if_pos rfl, h2, Fr.bs_list] at HX
    clear h1 h2 hsm hsnd
    have hst : (s.toList == s.toList) = true := by simp
    go_wp2_with fail
    with_reducible refine (HX.out _ HR.out (HT.out.keep HB.out)).mono ?_
    rintro r5 w5 ⟨rfl, hb5⟩
    have hbx := HB.out.trans (hb5.mono HB.out.size)
    clear hb5 HB HR HX x2 HQ4
    have HB := Lib.hid hbx
    clear hbx
    go_wp2_with fail
    with_reducible refine (HANN.out _ (HM.out.keep HB.out) (HT.out.keep HB.out)).mono ?_
    rintro r9 w9 ⟨rfl, hb⟩
    have HBX := Lib.hid (HB.out.trans (hb.mono HB.out.size))
    clear hb
    go_wp2
    go_ret
    exact ⟨rfl, HBX.out⟩
  · have hc0' : (c == 0) = false := by simpa using hc0
    clear hsnd HR
    go_wp2_with fail
    with_reducible refine (HANN.out _ (HM.out.keep HB.out) (HT.out.keep HB.out)).mono ?_
    rintro r9 w9 ⟨rfl, hb⟩
    have HBX := Lib.hid (HB.out.trans (hb.mono HB.out.size))
    clear hb
    go_wp2
    go_ret
    exact ⟨rfl, HBX.out⟩
end Go.Proofs.YtimlmjabdakojaaDoor
