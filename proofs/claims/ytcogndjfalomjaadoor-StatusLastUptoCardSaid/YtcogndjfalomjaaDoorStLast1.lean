/- The status that was told last. -/
import Derived.Test.YtcogndjfalomjaaDoorStJob2
namespace Go.Proofs.YtcogndjfalomjaaDoor
open Go.RowKit
set_option linter.unusedVariables false
set_option linter.unusedSimpArgs false

namespace St
def lastV (o : Option Ans) : Value := match o with
  | some x => parsedV (parse x.d.data.toList)
  | none => .tuple #[.agg #[.int .i64 0, .int .i64 0, .int .i64 0, .int .i64 0, .int .i64 0], .int .i64 6]
/-- the place of the last one that was told, among the first k -/
def lastI (l : List Ans) : Nat → Option Nat
  | 0 => none
  | k + 1 => match l[k]? with
    | some a => if okT a = true then some k else lastI l k
    | none => lastI l k
theorem lastI_yes (l : List Ans) (k : Nat) (h : k < l.length) (hp : okT l[k] = true) : lastI l (k + 1) = some k := by
  rw [lastI, List.getElem?_eq_getElem h]; simp only; rw [if_pos hp]
theorem lastI_no (l : List Ans) (k : Nat) (h : k < l.length) (hp : ¬ okT l[k] = true) : lastI l (k + 1) = lastI l k := by
  rw [lastI, List.getElem?_eq_getElem h]; simp only; rw [if_neg hp]
theorem lastI_is (l : List Ans) : ∀ k, k ≤ l.length → (match lastI l k with | some i => ∃ h : i < l.length, ((l.take k).filter okT).getLast? = some l[i] | none => (l.take k).filter okT = [])
  | 0, _ => rfl
  | k + 1, h => by
    have ih := lastI_is l k (by omega)
    have hf := filter_take okT l k (by omega)
    by_cases hp : okT l[k] = true
    · rw [lastI_yes l k (by omega) hp]
      rw [if_pos hp] at hf
      exact ⟨by omega, by rw [hf]; simp⟩
    · rw [lastI_no l k (by omega) hp]
      rw [if_neg hp] at hf
      rw [hf]
      exact ih
end St
set_option maxRecDepth 100000 in
set_option maxHeartbeats 2000000 in
theorem last_walk (l : List St.Ans) (a : Option Addr) (len cap : Nat) (w : World) (hl : l.length = len) (hr : RowS w 4 a len cap (l.flatMap ancells)) (h100 : len ≤ 1000) (hz : ∀ x ∈ l, x.d.size ≤ 1048576) (hM : MaxL w) :
    Calls Tryd.prog 17 #[.slice a len cap] w fun r w' => r = .returned (St.lastV (l.filter St.okT).getLast?) ∧ Below w.heap.size w w' := by
  have HT := Lib.hid (fun w hr => those_last St.okT rfl l a len cap w hl hr h100)
  have HM := Lib.hid hM
  have hz2 : ∀ x ∈ l.filter St.okT, x.d.size ≤ 1048576 := fun x hx => hz x (List.mem_filter.1 hx).1
  have hfl := List.length_filter_le St.okT l
  generalize l.filter St.okT = F at *
  go_enter Tryd.func17, Tryd.ntmps17
  go_upto_region 1 with (fail)
  have hb := (Below.refl w.heap.size w).alloc (Nat.le_refl _) (.cells #[.int .i64 0, .int .i64 0, .int .i64 0, .int .i64 0, .int .i64 0] 23)
  have HRW := Lib.hid (hr.keep hb)
  have HM1 := Lib.hid (HM.out.keep hb)
  have HB := Lib.hid hb
  have HQ := Lib.hid (Has.new w #[.int .i64 0, .int .i64 0, .int .i64 0, .int .i64 0, .int .i64 0] 23)
  obtain ⟨q, hq⟩ : ∃ q, q = w.heap.size := ⟨_, rfl⟩
  rw [← hq] at HQ
  rw [← hq]
  have hqw : w.heap.size ≤ q := by omega
  clear hq hr hb hz HM hM
  generalize w.alloc (.cells #[.int .i64 0, .int .i64 0, .int .i64 0, .int .i64 0, .int .i64 0] 23) = w1 at *
  go_wp2_with fail
  with_reducible refine (HT.out _ HRW.out).mono ?_
  rintro r2 w2 ⟨v, rfl, ho, hb⟩
  obtain ⟨a2, c2, rfl, hr2, -⟩ := rowS_owns ho
  have HRF := Lib.hid hr2
  have HM2 := Lib.hid (HM1.out.keep hb)
  have HB2 := Lib.hid (HB.out.trans (hb.mono HB.out.size))
  have HR := Lib.hid (HQ.out.below hb HQ.out.lt)
  clear ho hr2 hb HM1 HB HQ HT HRW
  rcases List.eq_nil_or_concat F with hF | ⟨L, x, hF⟩
  · have HF := Lib.hid hF
    rw [hF]
    rw [hF] at HRF
    clear hF hfl hz2
    have z0 := HR.out.cell 0; have z1 := HR.out.cell 1; have z2 := HR.out.cell 2; have z3 := HR.out.cell 3; have z4 := HR.out.cell 4
    have f0 := HR.out.free 0; have f1 := HR.out.free 1; have f2 := HR.out.free 2; have f3 := HR.out.free 3; have f4 := HR.out.free 4
    simp only [List.getElem?_toArray, List.getElem?_cons_zero, List.getElem?_cons_succ] at z0 z1 z2 z3 z4
    have hlt := HR.out.lt
    go_wp2
    ((try simp only [Exit.inBlock, Exit.then]); refine bodyPost_ret (v := (.tuple #[.agg #[.int .i64 0, .int .i64 0, .int .i64 0, .int .i64 0, .int .i64 0], .int .i64 6])) ?_ rfl ⟨?_, ?_⟩; (rw [results_cell_tmp1 rfl]; go_simp))
    · rw [HF.out]; rfl
    · exact bset5 HB2.out hqw _ _ _ _ _
  · rw [List.concat_eq_append] at hF
    have hlen : F.length = L.length + 1 := by rw [hF, List.length_append]; rfl
    have hxz : x.d.size ≤ 1048576 := hz2 x (by rw [hF]; simp)
    have hge : F.getLast? = some x := by rw [hF]; simp
    have hget : F[L.length]'(by omega) = x := by simp [hF]
    obtain ⟨b, off, ha, hb, -, -, l2, -⟩ := HRF.out.ans' L.length (by omega) (by omega)
    subst ha
    rw [hget] at l2
    have HV := Lib.hid hge
    have HPS := Lib.hid (fun w hM => parse_walk41 x.d w hM (by omega))
    rw [hlen] at HRF
    rw [hlen]
    have hLb : L.length < 1000 := by omega
    clear hF hfl hz2 hget hge hlen
    generalize L.length = m at *
    have hm1 : wrap64 (((m + 1 : Nat) : Int) - 1) = (m : Int) := by unfold wrap64; omega
    have hm2 : ((m + 1 : Nat) : Int) - 1 = (m : Int) := by omega
    have hm3 : ((m + 1 : Nat) : Int) = (m : Int) + 1 := by omega
    have hm4 : (m : Int) + 1 ≠ 0 := by omega
    go_wp2_with fail
    with_reducible refine (HPS.out _ HM2.out).mono ?_
    rintro r3 w3 ⟨rfl, hb3⟩
    have HB3 := Lib.hid (HB2.out.trans (hb3.mono HB2.out.size))
    have HR3 := HR.out.below hb3 HR.out.lt
    clear hb3 HR HB2 HM2 l2
    have HR := Lib.hid HR3
    have HLV := Lib.hid (show St.lastV F.getLast? = St.parsedV (St.parse x.d.data.toList) by rw [HV.out]; rfl)
    cases hp : St.parse x.d.data.toList with
    | none =>
      rw [hp] at HLV
      clear hp
      simp only [St.parsedV] at HLV
      simp only [St.parsedV]
      have z0 := HR.out.cell 0; have z1 := HR.out.cell 1; have z2 := HR.out.cell 2; have z3 := HR.out.cell 3; have z4 := HR.out.cell 4
      have f0 := HR.out.free 0; have f1 := HR.out.free 1; have f2 := HR.out.free 2; have f3 := HR.out.free 3; have f4 := HR.out.free 4
      simp only [List.getElem?_toArray, List.getElem?_cons_zero, List.getElem?_cons_succ] at z0 z1 z2 z3 z4
      have hlt := HR.out.lt
      go_wp2
      ((try simp only [Exit.inBlock, Exit.then]); refine bodyPost_ret (v := (.tuple #[.agg #[.int .i64 0, .int .i64 0, .int .i64 0, .int .i64 0, .int .i64 0], .int .i64 4])) ?_ rfl ⟨?_, ?_⟩; (rw [results_cell_tmp1 rfl]; go_simp))
      · rw [HLV.out]
      · exact bset5 HB3.out hqw _ _ _ _ _
    | some n =>
      rw [hp] at HLV
      clear hp
      obtain ⟨a, b, c, d, e⟩ := n
      simp only [St.parsedV] at HLV
      simp only [St.parsedV]
      have z0 := HR.out.cell 0; have z1 := HR.out.cell 1; have z2 := HR.out.cell 2; have z3 := HR.out.cell 3; have z4 := HR.out.cell 4
      have f0 := HR.out.free 0; have f1 := HR.out.free 1; have f2 := HR.out.free 2; have f3 := HR.out.free 3; have f4 := HR.out.free 4
      simp only [List.getElem?_toArray, List.getElem?_cons_zero, List.getElem?_cons_succ] at z0 z1 z2 z3 z4
      have hlt := HR.out.lt
      go_wp2
      ((try simp only [Exit.inBlock, Exit.then]); refine bodyPost_ret (v := (.tuple #[.agg #[.int .i64 a, .int .i64 b, .int .i64 c, .int .i64 d, .int .i64 e], .int .i64 0])) ?_ rfl ⟨?_, ?_⟩; (rw [results_cell_tmp1 rfl]; go_simp))
      · rw [HLV.out]
      · exact bset5 HB3.out hqw _ _ _ _ _
end Go.Proofs.YtcogndjfalomjaaDoor
