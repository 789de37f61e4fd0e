/- The law of texts. -/
import Derived.Test.YtimlmjabdakojaaDoorTnRef2
namespace Go.Proofs.YtimlmjabdakojaaDoor
open Go.RowKit
set_option linter.unusedVariables false
set_option linter.unusedSimpArgs false

theorem textL_small (l : List Tn.Ten) (h40 : l.length ≤ 40) (hz : ∀ x ∈ l, x.name.size ≤ 150 ∧ x.tok.size ≤ 150) (hm : ∀ t ∈ l, Tn.may t = true) : (Tn.textL l).length ≤ 100000 := by
  have hl : ∀ t ∈ l, (Tn.lineL t ++ [10]).length ≤ 400 := fun t ht => by
    obtain ⟨_, _, o3, o4, o5, _⟩ := Tn.may_ok (hm t ht)
    have l3 := dg_len _ o3; have l4 := dg_len _ o4; have l5 := dg_len _ o5
    have e1 : t.name.data.toList.length = t.name.size := by simp
    have e2 : t.tok.data.toList.length = t.tok.size := by simp
    have := hz t ht
    unfold Tn.lineL
    simp only [List.length_append, List.length_cons, List.length_nil]
    omega
  have : ∀ r : List Tn.Ten, (∀ t ∈ r, (Tn.lineL t ++ [10]).length ≤ 400) → (Tn.textL r).length ≤ r.length * 400 := by
    intro r
    induction r with
    | nil => intro _; exact Nat.le_refl _
    | cons t r ih =>
      intro h
      have h1 := h t (List.mem_cons_self ..)
      have h2 := ih (fun x hx => h x (List.mem_cons_of_mem _ hx))
      have e : Tn.textL (t :: r) = (Tn.lineL t ++ [10]) ++ Tn.textL r := rfl
      rw [e, List.length_append, List.length_cons]
      omega
  have := this l hl
  omega
set_option maxRecDepth 100000 in
set_option maxHeartbeats 3000000 in
theorem tenantsTexts_walk (l : List Tn.Ten) (a : Option Addr) (len cap : Nat) (w : World) (hl : l.length = len) (hr : RowS w 5 a len cap (l.flatMap tncells)) (_ : ∀ x ∈ l, x.name.size ≤ maxLen ∧ x.tok.size ≤ maxLen) (hM : MaxL w) (hT : Tabs w) :
    Calls Tryd.prog 5 #[.slice a len cap] w fun r w' => r = .returned (.bool true) ∧ Below w.heap.size w w' := by
  have HM := Lib.hid hM
  have HT := Lib.hid hT
  have HR := Lib.hid hr
  have HANN := Lib.hid (fun w hM hT => ann_walk w hM hT)
  have HLG := Lib.hid (large_walk l a len cap w hl hr)
  clear hM hT hr
  cases hg : Tn.large l with
  | true =>
    rw [hg] at HLG
    clear hg
    go_enter Tryd.func5, Tryd.ntmps5
    go_wp2_with fail
    (with_reducible refine (HLG.out).mono ?_)
    rintro r1 w1 ⟨rfl, hb⟩
    have HB := Lib.hid hb
    clear hb
    go_wp2_with fail
    with_reducible refine (HANN.out _ (HM.out.keep HB.out) (HT.out.keep HB.out)).mono ?_
    rintro r9 w9 ⟨rfl, hb⟩
    have HBX := Lib.hid (HB.out.trans (hb.mono HB.out.size))
    clear hb
    go_wp2
    go_ret
    exact ⟨rfl, HBX.out⟩
  | false =>
    obtain ⟨h40, hz⟩ := Tn.large_not l hg
    rw [hg] at HLG
    have hsm : tnSmall l := fun x hx => by have := hz x hx; omega
    have hlen : len ≤ 1000 := by omega
    have HX := Lib.hid (fun w hr hT => tntext_walk l a len cap w hl hr hlen hsm hT)
    have HRC := Lib.hid (fun w hr => refcheck_walk l a len cap w hl hr hlen hsm)
    by_cases h0 : (Tn.check l).2 = 0
    · obtain ⟨_, _, hck⟩ := Tn.check_ok l h0
      have hmay := Tn.chk_may l [] hck
      have hpt := Tn.parse_text l h0
      have htl := textL_small l h40 hz hmay
      have HPS := Lib.hid (fun w hM hT => tnparse_walk (Fr.bs (Tn.textL l)) w hM hT (by rw [← Fr.size_list, Fr.list_bs]; exact htl))
      rw [Fr.list_bs, hpt] at HPS
      simp only at HPS
      have HRT := Lib.hid (fun w hr => tnreftext_walk l a len cap w hl hr hlen hsm hmay)
      have HSM := Lib.hid (fun b c2 w hr hr2 => tnsame_walk l a b len cap c2 w hl hr hr2 hlen)
      rw [h0, if_pos rfl] at HX
      rw [h0] at HRC
      generalize (Tn.check l).1 = R1 at *
      generalize Fr.bs (Tn.textL l) = X at *
      rw [hl] at HPS
      clear hg h40 hz hsm h0 hck hmay hpt htl
      go_enter Tryd.func5, Tryd.ntmps5
      go_wp2_with fail
      (with_reducible refine (HLG.out).mono ?_)
      rintro r1 w1 ⟨rfl, hb⟩
      have HB1 := Lib.hid hb
      clear hb HLG
      go_wp2_with fail
      with_reducible refine (HX.out _ (HR.out.keep HB1.out) (HT.out.keep HB1.out)).mono ?_
      rintro r2 w2 ⟨rfl, hb⟩
      have HB2 := Lib.hid (HB1.out.trans (hb.mono HB1.out.size))
      clear hb HB1 HX
      go_wp2_with fail
      with_reducible refine (HRC.out _ (HR.out.keep HB2.out)).mono ?_
      rintro r3 w3 ⟨rfl, hb⟩
      have hb3 := HB2.out.trans (hb.mono HB2.out.size)
      have HB4 := Lib.hid (hb3.alloc hb3.size (.cells #[.int .i64 R1, .int .i64 0] 32))
      have HO := Has.new w3 #[.int .i64 R1, .int .i64 0] 32
      clear hb hb3 HB2 HRC
      go_upto_region 5 with (fail)
      generalize w3.heap.size = p at *
      generalize w3.alloc (.cells #[.int .i64 R1, .int .i64 0] 32) = w4 at *
      have x1 := HO.cell 1
      simp only [List.getElem?_toArray, List.getElem?_cons_zero, List.getElem?_cons_succ] at x1
      clear HO
      go_wp2_with fail
      with_reducible refine (HPS.out _ (HM.out.keep HB4.out) (HT.out.keep HB4.out)).mono ?_
      rintro r5 w5 ⟨v5, rfl, ho, hb⟩
      obtain ⟨a5, c5, rfl, hr5, -⟩ := rowS_owns ho
      have HR5 := Lib.hid hr5
      have HB5 := Lib.hid (HB4.out.trans (hb.mono HB4.out.size))
      clear ho hr5 hb HB4 HPS x1
      go_wp2_with fail
      with_reducible refine (HRT.out _ (HR.out.keep HB5.out)).mono ?_
      rintro r6 w6 ⟨rfl, hb⟩
      have HR6 := Lib.hid (HR5.out.keep hb)
      have HB6 := Lib.hid (HB5.out.trans (hb.mono HB5.out.size))
      clear hb HR5 HB5 HRT
      have hst : (X.toList == X.toList) = true := by simp
      go_wp2_with fail
      with_reducible refine (HSM.out _ _ _ (HR.out.keep HB6.out) HR6.out).mono ?_
      rintro r7 w7 ⟨rfl, hb⟩
      have HB := Lib.hid (HB6.out.trans (hb.mono HB6.out.size))
      clear hb HR6 HB6 HSM
      go_wp2_with fail
      with_reducible refine (HANN.out _ (HM.out.keep HB.out) (HT.out.keep HB.out)).mono ?_
      rintro r9 w9 ⟨rfl, hb⟩
      have HBX := Lib.hid (HB.out.trans (hb.mono HB.out.size))
      clear hb
      go_wp2
      go_ret
      exact ⟨rfl, HBX.out⟩
    · have h0' : ((Tn.check l).2 == 0) = false := by simpa using h0
      rw [if_neg h0] at HX
      generalize (Tn.check l).1 = R1 at *
      generalize (Tn.check l).2 = R2 at *
      clear hg h40 hz hsm
      go_enter Tryd.func5, Tryd.ntmps5
      go_wp2_with fail
      (with_reducible refine (HLG.out).mono ?_)
      rintro r1 w1 ⟨rfl, hb⟩
      have HB1 := Lib.hid hb
      clear hb HLG
      go_wp2_with fail
      with_reducible refine (HX.out _ (HR.out.keep HB1.out) (HT.out.keep HB1.out)).mono ?_
      rintro r2 w2 ⟨rfl, hb⟩
      have HB2 := Lib.hid (HB1.out.trans (hb.mono HB1.out.size))
      clear hb HB1 HX
      go_wp2_with fail
      with_reducible refine (HRC.out _ (HR.out.keep HB2.out)).mono ?_
      rintro r3 w3 ⟨rfl, hb⟩
      have hb3 := HB2.out.trans (hb.mono HB2.out.size)
      have HB := Lib.hid (hb3.alloc hb3.size (.cells #[.int .i64 R1, .int .i64 R2] 32))
      have HO := Has.new w3 #[.int .i64 R1, .int .i64 R2] 32
      clear hb hb3 HB2 HRC
      go_upto_region 5 with (fail)
      generalize w3.heap.size = p at *
      generalize w3.alloc (.cells #[.int .i64 R1, .int .i64 R2] 32) = w4 at *
      have x1 := HO.cell 1
      simp only [List.getElem?_toArray, List.getElem?_cons_zero, List.getElem?_cons_succ] at x1
      clear HO
      go_wp2_with fail
      with_reducible refine (HANN.out _ (HM.out.keep HB.out) (HT.out.keep HB.out)).mono ?_
      rintro r9 w9 ⟨rfl, hb⟩
      have HBX := Lib.hid (HB.out.trans (hb.mono HB.out.size))
      clear hb
      go_wp2
      go_ret
      exact ⟨rfl, HBX.out⟩
end Go.Proofs.YtimlmjabdakojaaDoor
