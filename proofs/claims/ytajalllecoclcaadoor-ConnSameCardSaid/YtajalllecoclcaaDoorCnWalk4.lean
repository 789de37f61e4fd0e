/- A connection is made; what it tells. -/
import Derived.Test.YtajalllecoclcaaDoorCnWalk3
import Derived.Test.YtajalllecoclcaaDoorAppAny
import Derived.Lib.SliceRun
namespace Go.Proofs.YtajalllecoclcaaDoor
open Go.RowKit
set_option linter.unusedVariables false
set_option linter.unusedSimpArgs false

namespace Cn
def annT : Tn.Ten := ⟨⟨#[97, 110, 110]⟩, ⟨#[107, 101, 121]⟩, 1, 1, 1⟩
theorem ann_check : Tn.check [annT] = (0, 0) ∨ (Tn.check [annT]).2 = 0 := .inr (by kernel_rfl)
end Cn
theorem cnannFlat : ([Cn.annT].flatMap tncells) = [.string ⟨#[97, 110, 110]⟩, .string ⟨#[107, 101, 121]⟩, .int .i64 1, .int .i64 1, .int .i64 1] := rfl
theorem row_new (w : World) (n k : Nat) (vs : List Value) (T : TypeId) (hl : vs.length = n * k) (hn : n ≤ maxLen) : RowS (w.alloc (.cells vs.toArray T)) k (some ⟨w.heap.size, 0, none⟩) n n vs :=
  ⟨Nat.le_refl _, hn, hl, (fun h => nomatch h), fun x hx _ => by
    cases hx
    refine ⟨w.heap.size, 0, rfl, by rw [World.size_alloc]; omega, fun i hi => ?_⟩
    rw [Nat.zero_add, (Has.new w vs.toArray T).cell i]
    rw [List.getElem?_toArray, List.getD_eq_getElem?_getD, List.getElem?_eq_getElem (by omega)]
    rfl⟩
set_option maxRecDepth 100000 in
set_option maxHeartbeats 400000 in
theorem little_walk (w : World) : Calls Tryd.prog 11 #[] w fun r w' => ∃ a cap, r = .returned (.slice a 1 cap) ∧ RowS w' 5 a 1 cap ([Cn.annT].flatMap tncells) ∧ Below w.heap.size w w' := by
  go_enter Tryd.func11, Tryd.ntmps11
  go_wp2
  go_ret
  exact ⟨_, _, rfl, row_new w 1 5 _ _ rfl (by decide), (Below.refl _ w).alloc (Nat.le_refl _) _⟩
set_option maxRecDepth 100000 in
set_option maxHeartbeats 400000 in
theorem clone_walk (l : List Tn.Ten) (a : Option Addr) (len cap : Nat) (w : World) (hl : l.length = len) (hr : RowS w 5 a len cap (l.flatMap tncells)) (h0 : 0 < len) (h100 : len ≤ 1000) :
    Calls Tryd.prog 26 #[.slice a len cap] w fun r w' => ∃ a' cap', r = .returned (.slice a' len cap') ∧ RowS w' 5 a' len cap' (l.flatMap tncells) ∧ (∀ x, a' = some x → w.heap.size ≤ x.block ∧ x.block < w'.heap.size) ∧ Below w.heap.size w w' := by
  have HR := Lib.hid hr
  have hsome : ∃ x, a = some x := by
    cases ha : a with
    | none => have := (hr.nil ha).1; omega
    | some x => exact ⟨x, rfl⟩
  obtain ⟨x, rfl⟩ := hsome
  clear hr
  have hq : ∀ (w : World) (a : Option Addr) (n c n' c' : Nat), (binOp .eql 29 (.slice a n c) (.slice none n' c')).run Tryd.prog w = .ok (.bool a.isNone) w := fun w a n c n' c' => Lib.run_eql_slice_nil w _ _ a n c n' c' Tryd.underlying29
  have h1 := Lib.hid (show ∀ y ∈ l.flatMap tncells, y.oneCell' = true by
    intro y hy
    rw [List.mem_flatMap] at hy
    obtain ⟨x, _, hx⟩ := hy
    simp only [tncells, List.mem_cons, List.not_mem_nil, or_false] at hx
    rcases hx with rfl | rfl | rfl | rfl | rfl <;> rfl)
  go_enter Tryd.func26, Tryd.ntmps26
  go_wp2_with (at_builtin; refine appendAny Tryd.underlying29 info_ten rfl (by decide) rfl _ _ rfl w.heap.size 0 len cap _ (some x) [] (l.flatMap tncells) rfl rfl (owns_empty w _ 5 _ (Nat.le_refl _)) (HR.out.keep ((Below.refl _ w).alloc (Nat.le_refl _) _)) h1.out (by unfold maxLen; omega) (by omega) (by rw [World.size_alloc]; omega) ?_)
  intro v' w2 hown hc hb
  obtain ⟨a', cap', rfl, hr2, hx2⟩ := rowS_owns hown
  have HR2 := Lib.hid hr2
  have HX2 := Lib.hid hx2
  have HB := Lib.hid (((Below.refl _ w).alloc (Nat.le_refl _) (.cells #[] 61)).trans hb)
  clear hown hc hb hr2 hx2
  go_wp2
  go_ret
  exact ⟨a', cap', rfl, HR2.out, HX2.out, HB.out⟩
/-- nothing of a connection lies below B -/
structure Fresh (B b m : Nat) (a : Option Addr) : Prop where
  b : B ≤ b
  m : B ≤ m
  row : ∀ x, a = some x → B ≤ x.block
theorem conn_new (w : World) (a : Option Addr) (cap : Nat) (l : List Tn.Ten) (hr : RowS w 5 a l.length cap (l.flatMap tncells)) (ha : ∀ x, a = some x → x.block < w.heap.size) :
    ConnAt ((w.alloc (.map #[] 0)).alloc (.cells #[.slice a l.length cap, .int .i64 (-1), .map (some w.heap.size)] 67)) (w.heap.size + 1) w.heap.size a cap l [] := by
  refine ⟨?_, ?_, ?_, fun x hx => ⟨?_, ?_, ?_⟩, by omega, Cn.Good.nil⟩
  · have := Has.new (w.alloc (.map #[] 0)) #[.slice a l.length cap, .int .i64 (-1), .map (some w.heap.size)] 67
    rw [World.size_alloc] at this
    exact this
  · exact hr.keep (two_below w _ _)
  · exact (MapAt.made w).chg ((Chg.refl [] _).alloc _) (by simp)
  · have := ha x hx; omega
  · have := ha x hx; omega
  · have := ha x hx; rw [World.size_alloc, World.size_alloc]; omega
theorem check_len (l : List Tn.Ten) (h : (Tn.check l).2 = 0) : 0 < l.length ∧ l.length ≤ 16 := by
  unfold Tn.check at h
  by_cases h0 : l.length = 0
  · rw [if_pos h0] at h; cases h
  · rw [if_neg h0] at h
    by_cases h16 : 16 < l.length
    · rw [if_pos h16] at h; cases h
    · omega
set_option maxRecDepth 100000 in
set_option maxHeartbeats 400000 in
theorem new_no (l : List Tn.Ten) (a : Option Addr) (len cap : Nat) (w : World) (hl : l.length = len) (hr : RowS w 5 a len cap (l.flatMap tncells)) (h100 : len ≤ 1000) (hz : tnSmall l) (hT : Tabs w) (hc : (Tn.check l).2 ≠ 0) :
    Calls Tryd.prog 10 #[.slice a len cap] w fun r w' => r = .returned (.tuple #[.pointer none, .int .i64 (Tn.check l).2]) ∧ Below w.heap.size w w' := by
  have HCH := Lib.hid (check_walk l a len cap w hl hr h100 hz hT)
  have hne : ((Tn.check l).2 == 0) = false := by simpa using hc
  generalize Tn.check l = R at *
  obtain ⟨r1, r2⟩ := R
  simp only at HCH hne
  clear hc hr hT hz
  go_enter Tryd.func10, Tryd.ntmps10
  go_wp2_with fail
  (with_reducible refine (HCH.out).mono ?_)
  rintro r2 w2 ⟨rfl, hb⟩
  have HB := Lib.hid hb
  clear hb
  go_wp2
  go_ret2
  exact ⟨rfl, HB.out⟩
set_option maxRecDepth 100000 in
set_option maxHeartbeats 400000 in
theorem new_yes (l : List Tn.Ten) (a : Option Addr) (len cap : Nat) (w : World) (hl : l.length = len) (hr : RowS w 5 a len cap (l.flatMap tncells)) (h100 : len ≤ 1000) (hz : tnSmall l) (hT : Tabs w) (hc : (Tn.check l).2 = 0) :
    Calls Tryd.prog 10 #[.slice a len cap] w fun r w' => ∃ b m a' cap', r = .returned (.tuple #[.pointer (some ⟨b, 0, none⟩), .int .i64 0]) ∧ ConnAt w' b m a' cap' l [] ∧ Fresh w.heap.size b m a' ∧ Below w.heap.size w w' := by
  have HCH := Lib.hid (check_walk l a len cap w hl hr h100 hz hT)
  have hlen := check_len l hc
  have HCL := Lib.hid (fun w hr => clone_walk l a len cap w hl hr (by omega) h100)
  have HR := Lib.hid hr
  have hc' : Tn.check l = ((Tn.check l).1, 0) := by rw [← hc]
  rw [hc'] at HCH
  simp only at HCH
  subst hl
  generalize (Tn.check l).1 = r1 at *
  clear hc hc' hr hT hz hlen h100
  have hmm := @run_makeMap Tryd.prog
  go_enter Tryd.func10, Tryd.ntmps10
  go_wp2_with fail
  (with_reducible refine (HCH.out).mono ?_)
  rintro r2 w2 ⟨rfl, hb⟩
  have HB := Lib.hid hb
  have HR2 := Lib.hid (HR.out.keep hb)
  clear hb HR HCH
  go_wp2_with fail
  (with_reducible refine (HCL.out _ HR2.out).mono ?_)
  rintro r3 w3 ⟨a', cap', rfl, hr3, hx3, hb3⟩
  have HB3 := Lib.hid (HB.out.trans (hb3.mono HB.out.size))
  have HN := Lib.hid (conn_new w3 a' cap' l hr3 (fun x hx => (hx3 x hx).2))
  have HF := Lib.hid (show Fresh w.heap.size (w3.heap.size + 1) w3.heap.size a' from ⟨by have := HB3.out.size; omega, HB3.out.size, fun x hx => Nat.le_trans HB.out.size (hx3 x hx).1⟩)
  have HB4 := Lib.hid (HB3.out.trans ((two_below w3 (.map #[] 0) (.cells #[.slice a' l.length cap', .int .i64 (-1), .map (some w3.heap.size)] 67)).mono HB3.out.size))
  clear hb3 hr3 hx3 HB HR2 HCL
  go_wp2
  go_ret2
  exact ⟨w3.heap.size + 1, w3.heap.size, a', cap', rfl, HN.out, HF.out, HB4.out⟩
set_option maxRecDepth 100000 in
set_option maxHeartbeats 400000 in
theorem tenant_walk (b m : Nat) (a : Option Addr) (cap : Nat) (l : List Tn.Ten) (L : List Cn.Act) (w : World) (h : ConnAt w b m a cap l L) :
    Calls Tryd.prog 19 #[.pointer (some ⟨b, 0, none⟩)] w fun r w' => r = .returned (.int .i64 (Cn.tenant L)) ∧ Below w.heap.size w w' := by
  have HC := Lib.hid h
  clear h
  have c0 := HC.out.cells.cell 0; have c1 := HC.out.cells.cell 1; have c2 := HC.out.cells.cell 2
  simp only [List.getElem?_toArray, List.getElem?_cons_zero, List.getElem?_cons_succ] at c0 c1 c2
  go_enter Tryd.func19, Tryd.ntmps19
  go_wp2
  go_ret
  exact ⟨rfl, Below.refl _ _⟩
set_option maxRecDepth 100000 in
set_option maxHeartbeats 400000 in
theorem opened_walk (b m : Nat) (a : Option Addr) (cap : Nat) (l : List Tn.Ten) (L : List Cn.Act) (w : World) (h : ConnAt w b m a cap l L) :
    Calls Tryd.prog 15 #[.pointer (some ⟨b, 0, none⟩)] w fun r w' => r = .returned (.int .i64 (Cn.opened L)) ∧ Below w.heap.size w w' := by
  have HC := Lib.hid h
  clear h
  have c0 := HC.out.cells.cell 0; have c1 := HC.out.cells.cell 1; have c2 := HC.out.cells.cell 2
  simp only [List.getElem?_toArray, List.getElem?_cons_zero, List.getElem?_cons_succ] at c0 c1 c2
  have ln := fun ty => HC.out.map.len ty
  go_enter Tryd.func15, Tryd.ntmps15
  go_wp2
  go_ret
  exact ⟨rfl, Below.refl _ _⟩
theorem mark5 {L : List Cn.Act} (hg : Cn.Good L) (j : Int) : (Cn.mark L j = 0 ∧ Cn.had L 5 j = false ∧ Cn.had L 6 j = false) ∨ (Cn.mark L j = 1 ∧ Cn.had L 5 j = false ∧ Cn.had L 6 j = false) ∨ (Cn.mark L j = 3 ∧ Cn.had L 5 j = true ∧ Cn.had L 6 j = false) ∨ (Cn.mark L j = 5 ∧ Cn.had L 5 j = false ∧ Cn.had L 6 j = true) ∨ (Cn.mark L j = 7 ∧ Cn.had L 5 j = true ∧ Cn.had L 6 j = true) := by
  cases h3 : Cn.had L 3 j with
  | true => exact .inr (mark4 L j h3)
  | false =>
    refine .inl ⟨Cn.mark_no hg j h3, ?_, ?_⟩
    · cases h5 : Cn.had L 5 j with
      | false => rfl
      | true => have := hg.had3 j (.inl h5); rw [h3] at this; cases this
    · cases h5 : Cn.had L 6 j with
      | false => rfl
      | true => have := hg.had3 j (.inr h5); rw [h3] at this; cases this
set_option maxRecDepth 100000 in
set_option maxHeartbeats 400000 in
theorem has5_walk (b m : Nat) (a : Option Addr) (cap : Nat) (l : List Tn.Ten) (L : List Cn.Act) (j : Int) (w : World) (h : ConnAt w b m a cap l L) (hj : I64 j) :
    Calls Tryd.prog 36 #[.pointer (some ⟨b, 0, none⟩), .int .i64 j, .int .i64 2] w fun r w' => r = .returned (.bool (Cn.had L 5 j)) ∧ Below w.heap.size w w' := by
  have HC := Lib.hid h
  have HLK := Lib.hid (h.map.look j hj)
  rcases mark5 h.good j with ⟨e, e5, _⟩ | ⟨e, e5, _⟩ | ⟨e, e5, _⟩ | ⟨e, e5, _⟩ | ⟨e, e5, _⟩ <;> rw [e5] <;> clear e5 h hj
  all_goals
    rw [e] at HLK
    clear e
    have lk := HLK.out
    have c0 := HC.out.cells.cell 0; have c1 := HC.out.cells.cell 1; have c2 := HC.out.cells.cell 2
    simp only [List.getElem?_toArray, List.getElem?_cons_zero, List.getElem?_cons_succ] at c0 c1 c2
    go_enter Tryd.func36, Tryd.ntmps36
    go_wp2
    go_ret
    exact ⟨rfl, Below.refl _ _⟩
set_option maxRecDepth 100000 in
set_option maxHeartbeats 400000 in
theorem has6_walk (b m : Nat) (a : Option Addr) (cap : Nat) (l : List Tn.Ten) (L : List Cn.Act) (j : Int) (w : World) (h : ConnAt w b m a cap l L) (hj : I64 j) :
    Calls Tryd.prog 36 #[.pointer (some ⟨b, 0, none⟩), .int .i64 j, .int .i64 4] w fun r w' => r = .returned (.bool (Cn.had L 6 j)) ∧ Below w.heap.size w w' := by
  have HC := Lib.hid h
  have HLK := Lib.hid (h.map.look j hj)
  rcases mark5 h.good j with ⟨e, _, e5⟩ | ⟨e, _, e5⟩ | ⟨e, _, e5⟩ | ⟨e, _, e5⟩ | ⟨e, _, e5⟩ <;> rw [e5] <;> clear e5 h hj
  all_goals
    rw [e] at HLK
    clear e
    have lk := HLK.out
    have c0 := HC.out.cells.cell 0; have c1 := HC.out.cells.cell 1; have c2 := HC.out.cells.cell 2
    simp only [List.getElem?_toArray, List.getElem?_cons_zero, List.getElem?_cons_succ] at c0 c1 c2
    go_enter Tryd.func36, Tryd.ntmps36
    go_wp2
    go_ret
    exact ⟨rfl, Below.refl _ _⟩
set_option maxRecDepth 100000 in
set_option maxHeartbeats 400000 in
theorem ended_walk (b m : Nat) (a : Option Addr) (cap : Nat) (l : List Tn.Ten) (L : List Cn.Act) (j : Int) (w : World) (h : ConnAt w b m a cap l L) (hj : I64 j) :
    Calls Tryd.prog 22 #[.pointer (some ⟨b, 0, none⟩), .int .i64 j] w fun r w' => r = .returned (.bool (Cn.had L 5 j)) ∧ Below w.heap.size w w' := by
  have H := Lib.hid (has5_walk b m a cap l L j w h hj)
  clear h hj
  go_enter Tryd.func22, Tryd.ntmps22
  go_wp2_with fail
  (with_reducible refine (H.out).mono ?_)
  rintro r2 w2 ⟨rfl, hb⟩
  have HB := Lib.hid hb
  clear hb
  go_wp2
  go_ret
  exact ⟨rfl, HB.out⟩
set_option maxRecDepth 100000 in
set_option maxHeartbeats 400000 in
theorem cancelled_walk (b m : Nat) (a : Option Addr) (cap : Nat) (l : List Tn.Ten) (L : List Cn.Act) (j : Int) (w : World) (h : ConnAt w b m a cap l L) (hj : I64 j) :
    Calls Tryd.prog 24 #[.pointer (some ⟨b, 0, none⟩), .int .i64 j] w fun r w' => r = .returned (.bool (Cn.had L 6 j)) ∧ Below w.heap.size w w' := by
  have H := Lib.hid (has6_walk b m a cap l L j w h hj)
  clear h hj
  go_enter Tryd.func24, Tryd.ntmps24
  go_wp2_with fail
  (with_reducible refine (H.out).mono ?_)
  rintro r2 w2 ⟨rfl, hb⟩
  have HB := Lib.hid hb
  clear hb
  go_wp2
  go_ret
  exact ⟨rfl, HB.out⟩
/-! nobody's connection -/
set_option maxRecDepth 100000 in
set_option maxHeartbeats 400000 in
theorem tenant_nil (w : World) : Calls Tryd.prog 19 #[.pointer none] w fun r w' => r = .returned (.int .i64 (-1)) ∧ Below w.heap.size w w' := by
  go_enter Tryd.func19, Tryd.ntmps19
  go_wp2
  go_ret
  exact ⟨rfl, Below.refl _ _⟩
set_option maxRecDepth 100000 in
set_option maxHeartbeats 400000 in
theorem opened_nil (w : World) : Calls Tryd.prog 15 #[.pointer none] w fun r w' => r = .returned (.int .i64 0) ∧ Below w.heap.size w w' := by
  go_enter Tryd.func15, Tryd.ntmps15
  go_wp2
  go_ret
  exact ⟨rfl, Below.refl _ _⟩
set_option maxRecDepth 100000 in
set_option maxHeartbeats 400000 in
theorem has_nil (j k : Int) (w : World) : Calls Tryd.prog 36 #[.pointer none, .int .i64 j, .int .i64 k] w fun r w' => r = .returned (.bool false) ∧ Below w.heap.size w w' := by
  go_enter Tryd.func36, Tryd.ntmps36
  go_wp2
  go_ret
  exact ⟨rfl, Below.refl _ _⟩
set_option maxRecDepth 100000 in
set_option maxHeartbeats 400000 in
theorem ended_nil (j : Int) (w : World) : Calls Tryd.prog 22 #[.pointer none, .int .i64 j] w fun r w' => r = .returned (.bool false) ∧ Below w.heap.size w w' := by
  have H := Lib.hid (has_nil j 2 w)
  go_enter Tryd.func22, Tryd.ntmps22
  go_wp2_with fail
  (with_reducible refine (H.out).mono ?_)
  rintro r2 w2 ⟨rfl, hb⟩
  have HB := Lib.hid hb
  clear hb
  go_wp2
  go_ret
  exact ⟨rfl, HB.out⟩
set_option maxRecDepth 100000 in
set_option maxHeartbeats 400000 in
theorem cancelled_nil (j : Int) (w : World) : Calls Tryd.prog 24 #[.pointer none, .int .i64 j] w fun r w' => r = .returned (.bool false) ∧ Below w.heap.size w w' := by
  have H := Lib.hid (has_nil j 4 w)
  go_enter Tryd.func24, Tryd.ntmps24
  go_wp2_with fail
  (with_reducible refine (H.out).mono ?_)
  rintro r2 w2 ⟨rfl, hb⟩
  have HB := Lib.hid hb
  clear hb
  go_wp2
  go_ret
  exact ⟨rfl, HB.out⟩
set_option maxRecDepth 100000 in
set_option maxHeartbeats 400000 in
theorem step_nil (t j : Int) (d : ByteArray) (w : World) : Calls Tryd.prog 13 #[.pointer none, .agg #[.int .i64 t, .int .i64 j, .string d]] w fun r w' =>
    r = .returned (.tuple #[.agg #[.int .i64 0, .int .i64 0, .int .i64 0, .int .i64 0, .int .i64 0, .int .i64 0, .string ⟨#[]⟩, .int .i64 0], .int .i64 7]) ∧ Below w.heap.size w w' := by
  go_enter Tryd.func13, Tryd.ntmps13
  go_wp2
  ((try simp only [Exit.inBlock, Exit.then]); refine bodyPost_ret (v := (.tuple #[.agg #[.int .i64 0, .int .i64 0, .int .i64 0, .int .i64 0, .int .i64 0, .int .i64 0, .string ⟨#[]⟩, .int .i64 0], .int .i64 7])) ?_ rfl ⟨?_, ?_⟩; (rw [results_cell_tmp1 rfl]; go_simp))
  · rfl
  · (repeat (first | (with_reducible exact (two_below w _ _)) | refine Below.setCell ?_ (by first | exact Nat.le_refl _ | exact Nat.le_succ _) _))
set_option maxRecDepth 100000 in
set_option maxHeartbeats 400000 in
theorem actref_walk (x : Cn.Act) (w : World) : Calls Tryd.prog 14 #[.agg #[.int .i64 x.what, .int .i64 x.job, .int .i64 x.ten, .int .i64 x.kind, .int .i64 x.lev, .int .i64 x.n, .string x.txt, .int .i64 x.err]] w fun r w' =>
    r = .returned (.agg #[.int .i64 x.what, .int .i64 x.job, .int .i64 x.ten, .int .i64 x.kind, .int .i64 x.lev, .int .i64 x.n, .string x.txt, .int .i64 x.err]) ∧ Below w.heap.size w w' := by
  go_enter Tryd.func14, Tryd.ntmps14
  go_wp2
  ((try simp only [Exit.inBlock, Exit.then]); refine bodyPost_ret (v := (.agg #[.int .i64 x.what, .int .i64 x.job, .int .i64 x.ten, .int .i64 x.kind, .int .i64 x.lev, .int .i64 x.n, .string x.txt, .int .i64 x.err])) ?_ rfl ⟨?_, ?_⟩; (rw [results_cell1 rfl]; go_simp))
  · rfl
  · (repeat (first | (with_reducible exact (two_below w _ _)) | refine Below.setCell ?_ (by first | exact Nat.le_refl _ | exact Nat.le_succ _) _))
end Go.Proofs.YtajalllecoclcaaDoor
