/- The table of a text. -/
import Derived.Test.YtimlmjabdakojaaDoorTnWalk4
namespace Go.Proofs.YtimlmjabdakojaaDoor
open Go.RowKit
set_option linter.unusedVariables false
set_option linter.unusedSimpArgs false

namespace Tn
theorem go_at (L : List (List UInt8)) (k : Nat) (out : List Ten) (h : k + 1 < L.length) : go (L.drop k) out k = match parseLine L[k] with
    | none => ([], (k : Int) + 1, 4)
    | some t => if again out t = true then ([], (k : Int) + 1, 8) else if out.length = 16 then ([], (k : Int) + 1, 2) else go (L.drop (k + 1)) (out ++ [t]) (k + 1) := by
  rw [List.drop_eq_getElem_cons (by omega : k < L.length), List.drop_eq_getElem_cons h]
  rfl
theorem go_last (L : List (List UInt8)) (k : Nat) (out : List Ten) (h : k + 1 = L.length) : go (L.drop k) out k = if L[k] = [] then (out, 0, 0) else ([], (k : Int) + 1, 4) := by
  rw [List.drop_eq_getElem_cons (by omega : k < L.length), List.drop_eq_nil_of_le (by omega)]
  rfl
theorem splitC_len (c : UInt8) : ∀ s : List UInt8, (St.splitC c s).length ≤ s.length + 1
  | [] => Nat.le_refl _
  | b :: l => by
    have ih := splitC_len c l
    have hne := List.length_pos_iff.2 (St.splitC_ne c l)
    unfold St.splitC
    split
    · simp only [List.length_cons]; omega
    · simp only [List.length_cons, List.length_tail]; omega
end Tn
theorem results_three {fn : Func} {p q r : Tmp} (h : fn.results = #[.tmp p, .tmp q, .tmp r]) (tmps : Array Value) (P : Program) (w : World) :
    (results fn tmps).run P w = .ok (.tuple #[tmps.getD p undef, tmps.getD q undef, tmps.getD r undef]) w := by
  simp only [results, h]
  simp [Sem.run_bind, Result.andThen]
theorem str_cells (L : List (List UInt8)) (k : Nat) (h : k < L.length) : (L.map fun x => Value.string (Fr.bs x)).toArray[k]? = some (.string (Fr.bs L[k])) := by
  rw [List.getElem?_toArray, List.getElem?_map, List.getElem?_eq_getElem h]; rfl
set_option maxRecDepth 100000 in
set_option maxHeartbeats 4000000 in
theorem tnparse_walk (s : ByteArray) (w : World) (hM : MaxL w) (hT : Tabs w) (hs : s.size ≤ 100000) :
    Calls Tryd.prog 17 #[.string s] w fun r w' => ∃ v, r = .returned (.tuple #[v, .int .i64 (Tn.parse s.data.toList).2.1, .int .i64 (Tn.parse s.data.toList).2.2]) ∧ w'.ownsRow w.heap.size 26 5 v (Tn.parse s.data.toList).1.length ((Tn.parse s.data.toList).1.flatMap tncells) ∧ Below w.heap.size w w' := by
  have HM := Lib.hid hM
  have HT := Lib.hid hT
  have hpz : Tn.parse s.data.toList = if s.data.toList = [] then ([], 0, 6) else Tn.go (St.splitC 10 s.data.toList) [] 0 := rfl
  clear hM hT
  by_cases h0 : s.size = 0
  · have es : s.toList.isEmpty = true := by rw [stempty32, decide_eq_true h0]
    have HF := Lib.hid (show Tn.parse s.data.toList = ([], 0, 6) by rw [hpz, if_pos (List.length_eq_zero_iff.1 (by rw [llen]; exact h0))])
    have HBZ := Lib.hid (Below.refl w.heap.size w)
    generalize Tn.parse s.data.toList = R at *
    clear hpz h0
    go_enter Tryd.func17, Tryd.ntmps17
    go_wp2
    (try simp only [Exit.inBlock, Exit.then])
    refine bodyPost_ret (results_three rfl _ _ _) rfl ?_
    refine ⟨.slice none 0 0, by rw [HF.out]; rfl, by rw [HF.out]; exact World.ownsRow_nil _ _ _ _, HBZ.out⟩
  have es : s.toList.isEmpty = false := by rw [stempty32, decide_eq_false h0]
  have HRR := Lib.hid (show Tn.go ((St.splitC 10 s.data.toList).drop 0) [] 0 = Tn.parse s.data.toList by
    rw [hpz, if_neg (fun h => h0 (by rw [← llen, h]; rfl)), List.drop_zero])
  generalize Tn.parse s.data.toList = R at *
  have hspl := fun w hM => split_walk41 s 10 _ rfl w hM (by omega)
  have hne := St.splitC_ne 10 s.data.toList
  have hle := Tn.split_le 10 s.data.toList
  have hcl := Tn.splitC_len 10 s.data.toList
  rw [llen] at hle hcl
  generalize St.splitC 10 s.data.toList = L at *
  obtain ⟨n, hn⟩ : ∃ n, L.length = n + 1 := ⟨L.length - 1, by have := List.length_pos_iff.2 hne; omega⟩
  have hnL : n < 200000 := by omega
  rw [hn] at hspl
  have HSP := Lib.hid hspl
  have HAT := Lib.hid (fun k out (h : k < n) => Tn.go_at L k out (by omega))
  have HLAST := Lib.hid (fun out => Tn.go_last L n out hn.symm)
  have HCE := Lib.hid (fun k (h : k < n + 1) => str_cells L k (by omega))
  have HSZ := Lib.hid (fun k (h : k < L.length) => hle L[k] (List.getElem_mem h))
  have HN := Lib.hid hn
  clear hpz h0 hspl hne hle hcl
  have hm1 : wrap64 (((n + 1 : Nat) : Int) - 1) = (n : Int) := by unfold wrap64; omega
  have hm2 : ((n + 1 : Nat) : Int) - 1 = (n : Int) := by omega
  have hm3 : ((n + 1 : Nat) : Int) = (n : Int) + 1 := by omega
  go_enter Tryd.func17, Tryd.ntmps17
  go_wp2_with fail
  (with_reducible refine (HSP.out _ HM.out).mono ?_)
  rintro r1 w1 ⟨rfl, hw1⟩
  have hS := Has.new w (L.map fun x => Value.string (Fr.bs x)).toArray 9
  have hB := (Below.refl w.heap.size w).alloc (Nat.le_refl _) (.cells (L.map fun x => Value.string (Fr.bs x)).toArray 9)
  rw [← hw1] at hS hB
  obtain ⟨sq, hsq⟩ : ∃ sq, sq = w.heap.size := ⟨_, rfl⟩
  rw [← hsq] at hS
  rw [← hsq]
  have HS := Lib.hid hS; have HB1 := Lib.hid hB
  have hM1 := HM.out.keep hB
  have hT1 := HT.out.keep hB
  have hsw := HS.out.lt
  clear hS hB hw1 hsq HSP HM HT
  have HM := Lib.hid hM1; have HT := Lib.hid hT1
  clear hM1 hT1
  have hnn : (n : Int) ≤ (n : Int) + 1 := by omega
  go_wp2_with fail
  go_loopw [7, 23] (fun v7 vi wr => ∃ (k : Nat) (out : List Tn.Ten), k ≤ n ∧ vi = .int .i64 k ∧ Tn.go (L.drop k) out k = R ∧ out.length ≤ 16 ∧ tnSmall out ∧ wr.ownsRow w1.heap.size 26 5 v7 out.length (out.flatMap tncells) ∧ Below w1.heap.size w1 wr) (fun _ i _ => n - (intOf i).toNat)
  case atStart => exact ⟨0, [], Nat.zero_le _, rfl, HRR.out, by simp, (fun x hx => nomatch hx), World.ownsRow_nil _ _ _ _, Below.refl _ _⟩
  case round =>
    obtain ⟨k, out, hk, rfl, hgo, ho16, hsm, hown, hbr⟩ := hrel
    have HO := Lib.hid hown; have HBR := Lib.hid hbr; have HSM := Lib.hid hsm
    clear hown hbr hsm HRR
    have HSR := Lib.hid (HS.out.below HBR.out HS.out.lt)
    by_cases hlt : k < n
    · have hlt' : (k : Int) < (n : Int) := by omega
      have hc := (HSR.out.cell k).trans (HCE.out k (by omega))
      rw [HAT.out k out hlt] at hgo
      have hsz := HSZ.out k (by omega)
      have HTN := Lib.hid (fun w hM hT => tenant_walk (Fr.bs L[k]) w hM hT (by rw [← Fr.size_list, Fr.list_bs]; omega))
      rw [Fr.list_bs] at HTN
      have hsnd := Tn.parseLine_sound L[k]
      have hnm : ∀ t : Tn.Ten, Tn.lineL t = L[k] → t.name.size ≤ 100000 ∧ t.tok.size ≤ 100000 := fun t h => by
        have := congrArg List.length h
        unfold Tn.lineL at this
        simp only [List.length_append, List.length_cons] at this
        have e1 : t.name.data.toList.length = t.name.size := by simp
        have e2 : t.tok.data.toList.length = t.tok.size := by simp
        omega
      generalize Tn.parseLine L[k] = PL at *
      generalize Fr.bs L[k] = X at *
      clear hsz
      go_wp2_with fail
      with_reducible refine (HTN.out _ (HM.out.keep HBR.out) (HT.out.keep HBR.out)).mono ?_
      rintro r2 w2 ⟨⟨t', rfl⟩, hb2⟩
      have HO2 := Lib.hid (ownsRow_keep HO.out hb2)
      have HB2 := Lib.hid (HBR.out.trans (hb2.mono HBR.out.size))
      clear hb2 HO HBR HTN hc HSR
      cases PL with
      | none =>
        have HF := Lib.hid hgo.symm
        clear hgo hsnd hnm
        simp only [Tn.tenV]
        obtain ⟨n2, k2, m2, s2, q2⟩ := t'
        have HBZ := Lib.hid ((HB1.out.trans (HB2.out.mono HB1.out.size)).alloc (HB1.out.trans (HB2.out.mono HB1.out.size)).size (.cells #[.string n2, .string k2, .int .i64 m2, .int .i64 s2, .int .i64 q2] 26))
        go_wp2
        (try simp only [Exit.inBlock, Exit.then])
        refine bodyPost_ret (results_three rfl _ _ _) rfl ?_
        refine ⟨.slice none 0 0, by rw [HF.out]; rfl, by rw [HF.out]; exact World.ownsRow_nil _ _ _ _, HBZ.out⟩
      | some t =>
        simp only at hgo
        have HG := Lib.hid hgo
        obtain ⟨hmt, hlx⟩ := hsnd t rfl
        have hts := hnm t hlx
        have HS2 := Lib.hid (show tnSmall (out ++ [t]) from fun x hx => by
          rcases List.mem_append.1 hx with hx | hx
          · exact HSM.out x hx
          · rw [List.mem_singleton.1 hx]; exact hts)
        clear hgo hsnd hnm hlx hmt hts
        simp only [Tn.tenV]
        obtain ⟨a7, c7, hv7, hr7, -⟩ := rowS_owns HO2.out
        subst hv7
        have HAG := Lib.hid (fun w h => again_walk out t a7 out.length c7 w rfl h (by omega))
        obtain ⟨n2, k2, m2, s2, q2⟩ := t
        simp only at HAG
        have ha := (Below.refl w2.heap.size w2).alloc (Nat.le_refl _) (.cells #[.string n2, .string k2, .int .i64 m2, .int .i64 s2, .int .i64 q2] 26)
        have HX := Lib.hid (Has.new w2 #[.string n2, .string k2, .int .i64 m2, .int .i64 s2, .int .i64 q2] 26)
        have HR7 := Lib.hid (hr7.keep ha)
        have HO3 := Lib.hid (ownsRow_keep HO2.out ha)
        have HB3 := Lib.hid (HB2.out.trans (ha.mono HB2.out.size))
        have HN3 := Lib.hid (own_not HO2.out (.inr (Nat.le_refl w2.heap.size)))
        clear hr7 ha HO2 HB2
        go_upto_region 12 with (fail)
        generalize w2.heap.size = q at *
        generalize w2.alloc (.cells #[.string n2, .string k2, .int .i64 m2, .int .i64 s2, .int .i64 q2] 26) = w3 at *
        have x0 := HX.out.cell 0; have x1 := HX.out.cell 1; have x2 := HX.out.cell 2; have x3 := HX.out.cell 3; have x4 := HX.out.cell 4
        simp only [List.getElem?_toArray, List.getElem?_cons_zero, List.getElem?_cons_succ] at x0 x1 x2 x3 x4
        go_wp2_with fail
        with_reducible refine (HAG.out _ HR7.out).mono ?_
        rintro r4 w4 ⟨rfl, hb4⟩
        have HO4 := Lib.hid (ownsRow_keep HO3.out hb4)
        have HB4 := Lib.hid (HB3.out.trans (hb4.mono HB3.out.size))
        have HX4 := Lib.hid (HX.out.below hb4 HX.out.lt)
        have HBZ := Lib.hid (HB1.out.trans (HB4.out.mono HB1.out.size))
        clear hb4 HO3 HB3 HX x0 x1 x2 x3 x4 HR7 HAG
        cases hag : Tn.again out ⟨n2, k2, m2, s2, q2⟩ with
        | true =>
          have HF := Lib.hid (show R = ([], (k : Int) + 1, 8) by have := HG.out; rw [hag, if_pos rfl] at this; exact this.symm)
          clear hag HG
          go_wp2
          (try simp only [Exit.inBlock, Exit.then])
          refine bodyPost_ret (results_three rfl _ _ _) rfl ?_
          refine ⟨.slice none 0 0, by rw [HF.out]; rfl, by rw [HF.out]; exact World.ownsRow_nil _ _ _ _, HBZ.out⟩
        | false =>
          have HG2 := Lib.hid (show (if out.length = 16 then ([], (k : Int) + 1, 2) else Tn.go (L.drop (k + 1)) (out ++ [⟨n2, k2, m2, s2, q2⟩]) (k + 1)) = R by
            have := HG.out; rw [hag, if_neg (by decide)] at this; exact this)
          clear hag HG
          by_cases h16 : out.length = 16
          · have HF := Lib.hid (show R = ([], (k : Int) + 1, 2) by rw [← HG2.out, if_pos h16])
            have h16' : ((out.length : Int) == 16) = true := by rw [h16]; rfl
            have h16n : (out.length : Int) = 16 := by omega
            clear h16 HG2
            go_wp2
            (try simp only [Exit.inBlock, Exit.then])
            refine bodyPost_ret (results_three rfl _ _ _) rfl ?_
            refine ⟨.slice none 0 0, by rw [HF.out]; rfl, by rw [HF.out]; exact World.ownsRow_nil _ _ _ _, HBZ.out⟩
          · have HF := Lib.hid (show Tn.go (L.drop (k + 1)) (out ++ [⟨n2, k2, m2, s2, q2⟩]) (k + 1) = R by rw [← HG2.out, if_neg h16])
            have h16' : ((out.length : Int) == 16) = false := by
              apply Bool.eq_false_iff.2
              intro e
              have := beq_iff_eq.1 e
              omega
            have ho15 : out.length ≤ 15 := by omega
            clear h16 HG2
            have x0 := HX4.out.cell 0; have x1 := HX4.out.cell 1; have x2 := HX4.out.cell 2; have x3 := HX4.out.cell 3; have x4 := HX4.out.cell 4
            simp only [List.getElem?_toArray, List.getElem?_cons_zero, List.getElem?_cons_succ] at x0 x1 x2 x3 x4
            go_wp2_with (at_builtin; refine appendS Tryd.underlying22 info_ten rfl (by decide) rfl _ _ rfl w1.heap.size out.length _ _ rfl HO4.out #[Value.string n2, Value.string k2, Value.int .i64 m2, Value.int .i64 s2, Value.int .i64 q2] rfl (by intro u hu; simp at hu; rcases hu with rfl | rfl | rfl | rfl | rfl <;> rfl) _ rfl rfl (by unfold maxLen; omega) (by omega) HB4.out.size ?_)
            intro g cap' w6 ho hc6 hb6 _ _ _
            have HO6 := Lib.hid (show w6.ownsRow w1.heap.size 26 5 (.slice (some ⟨g, 0, none⟩) (out.length + 1) cap') (out ++ [(⟨n2, k2, m2, s2, q2⟩ : Tn.Ten)]).length ((out ++ [(⟨n2, k2, m2, s2, q2⟩ : Tn.Ten)]).flatMap tncells) by
              rw [List.length_append, List.flatMap_append]; exact ho)
            have HB6 := Lib.hid (HB4.out.trans hb6)
            clear ho hc6 hb6 x0 x1 x2 x3 x4 HO4 HB4 HX4
            go_wp2
            go_roundw
            case rel => exact ⟨k + 1, out ++ [⟨n2, k2, m2, s2, q2⟩], hlt, by go_num, HF.out, by rw [List.length_append]; show out.length + 1 ≤ 16; omega, HS2.out, HO6.out, HB6.out⟩
            case measure => simp [intOf]; omega
    · have hlt' : ¬ (k : Int) < (n : Int) := by omega
      have hke : k = n := by omega
      subst hke
      rw [HLAST.out out] at hgo
      have hc := (HSR.out.cell k).trans (HCE.out k (by omega))
      have hx := stempty32 (Fr.bs (L[k]'(by omega)))
      have hxe : (Fr.bs (L[k]'(by omega))).size = (L[k]'(by omega)).length := by rw [← Fr.size_list, Fr.list_bs]
      have HBZ := Lib.hid (HB1.out.trans (HBR.out.mono HB1.out.size))
      by_cases hl : L[k]'(by omega) = []
      · rw [if_pos hl] at hgo
        have HF := Lib.hid hgo.symm
        have hx2 : (Fr.bs []).toList.isEmpty = true := by rw [stempty32]; rfl
        rw [hl] at hc
        clear hgo hl hx hxe
        go_wp2
        (try simp only [Exit.inBlock, Exit.then])
        refine bodyPost_ret (results_three rfl _ _ _) rfl ?_
        exact ⟨_, by rw [HF.out]; rfl, by rw [HF.out]; exact ownsRow_mono HO.out HB1.out.size, HBZ.out⟩
      · rw [if_neg hl] at hgo
        have HF := Lib.hid hgo.symm
        have hx2 : (Fr.bs (L[k]'(by omega))).toList.isEmpty = false := by
          rw [hx, hxe]
          exact decide_eq_false (fun h => hl (List.length_eq_zero_iff.1 h))
        generalize Fr.bs (L[k]'(by omega)) = X at *
        clear hgo hl hx hxe
        go_wp2
        (try simp only [Exit.inBlock, Exit.then])
        refine bodyPost_ret (results_three rfl _ _ _) rfl ?_
        refine ⟨.slice none 0 0, by rw [HF.out]; rfl, by rw [HF.out]; exact World.ownsRow_nil _ _ _ _, HBZ.out⟩
end Go.Proofs.YtimlmjabdakojaaDoor
