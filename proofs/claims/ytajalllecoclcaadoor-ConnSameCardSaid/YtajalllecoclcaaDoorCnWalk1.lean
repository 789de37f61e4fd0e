/- What a request comes to: refuse, over, open, use. -/
import Derived.Test.YtajalllecoclcaaDoorCnRow
import Derived.Test.YtajalllecoclcaaDoorLater
import Derived.Test.YtajalllecoclcaaDoorRet
import Derived.Deep.CutRange
namespace Go.Proofs.YtajalllecoclcaaDoor
open Go.RowKit
set_option linter.unusedVariables false
set_option linter.unusedSimpArgs false

def rqV (r : Pr.Rq) : Value := .agg #[.int .i64 r.t, .int .i64 r.j, .string r.tok, .string r.txt, .int .i64 r.k, .int .i64 r.lv, .int .i64 r.n]
set_option maxRecDepth 100000 in
set_option maxHeartbeats 400000 in
theorem refuse_walk36 (j e : Int) (w : World) : Calls Tryd.prog 29 #[.int .i64 j, .int .i64 e] w fun r w' => r = .returned (actV (Cn.refuse j e)) ∧ Below w.heap.size w w' := by
  go_enter Tryd.func29, Tryd.ntmps29
  go_wp2
  ((try simp only [Exit.inBlock, Exit.then]); refine bodyPost_ret (v := (.agg #[.int .i64 1, .int .i64 j, .int .i64 0, .int .i64 0, .int .i64 0, .int .i64 0, .string ⟨#[]⟩, .int .i64 e])) ?_ rfl ⟨?_, ?_⟩; (rw [results_cell1 rfl]; go_simp))
  · rfl
  · (repeat (first | (with_reducible exact ((Below.refl _ w).alloc (Nat.le_refl _) _)) | refine Below.setCell ?_ (by first | exact Nat.le_refl _ | exact Nat.le_succ _) _))
theorem mark4 (L : List Cn.Act) (j : Int) (h3 : Cn.had L 3 j = true) : (Cn.mark L j = 1 ∧ Cn.had L 5 j = false ∧ Cn.had L 6 j = false) ∨ (Cn.mark L j = 3 ∧ Cn.had L 5 j = true ∧ Cn.had L 6 j = false) ∨ (Cn.mark L j = 5 ∧ Cn.had L 5 j = false ∧ Cn.had L 6 j = true) ∨ (Cn.mark L j = 7 ∧ Cn.had L 5 j = true ∧ Cn.had L 6 j = true) := by
  rw [Cn.mark_yes L j h3]
  cases Cn.had L 5 j <;> cases Cn.had L 6 j <;> simp
set_option maxRecDepth 100000 in
set_option maxHeartbeats 800000 in
theorem over_walk (b m : Nat) (a : Option Addr) (cap : Nat) (l : List Tn.Ten) (L : List Cn.Act) (r : Pr.Rq) (w : World) (h : ConnAt w b m a cap l L) (hj : I64 r.j) (h3 : Cn.had L 3 r.j = true) :
    Calls Tryd.prog 45 #[.pointer (some ⟨b, 0, none⟩), rqV r] w fun e w' => e = .returned (.bool (Cn.over L r)) ∧ Below w.heap.size w w' := by
  have HC0 := Lib.hid h
  have hm := mark4 L r.j h3
  have HLK := Lib.hid (fun (w : World) (h : MapAt w m L) => h.look r.j hj)
  unfold Cn.over
  obtain ⟨t, j, tok, txt, k, lv, n⟩ := r
  simp only at hm HLK
  show Calls Tryd.prog 45 #[.pointer (some ⟨b, 0, none⟩), .agg #[.int .i64 t, .int .i64 j, .string tok, .string txt, .int .i64 k, .int .i64 lv, .int .i64 n]] w _
  clear h h3 hj
  simp only
  by_cases t3 : t = 3
  · subst t3
    rcases hm with ⟨HM, e5, e6⟩ | ⟨HM, e5, e6⟩ | ⟨HM, e5, e6⟩ | ⟨HM, e5, e6⟩ <;> rw [e5, e6] <;> clear e5 e6
    all_goals
      rw [HM] at HLK
      clear HM
      go_enter Tryd.func45, Tryd.ntmps45
      go_upto_region 1 with (fail)
      have HX := Lib.hid (Has.new w #[.int .i64 3, .int .i64 j, .string tok, .string txt, .int .i64 k, .int .i64 lv, .int .i64 n] 70)
      have HB := Lib.hid ((Below.refl _ w).alloc (Nat.le_refl _) (.cells #[.int .i64 3, .int .i64 j, .string tok, .string txt, .int .i64 k, .int .i64 lv, .int .i64 n] 70))
      have HC := Lib.hid (HC0.out.keep HB.out)
      clear HC0
      generalize w.alloc (.cells #[.int .i64 3, .int .i64 j, .string tok, .string txt, .int .i64 k, .int .i64 lv, .int .i64 n] 70) = w1 at *
      have c2 : ∀ y : Later w1, y.at.cell? ⟨b, 2, none⟩ = some (.map (some m)) := fun y => y.cell (HC.out.cells.cell 2)
      have x1 : ∀ y : Later w1, y.at.cell? ⟨w.heap.size, 1, none⟩ = some (.int .i64 j) := fun y => y.cell (HX.out.cell 1)
      have lk := fun y : Later w1 => HLK.out _ (HC.out.keep y.below).map
      refine region_later 8 (by kernel_rfl) (by kernel_rfl) ?_
      simp only [List.take_succ_cons, List.take_zero, List.drop_succ_cons, List.drop_zero]
      repeat (go_big_quiet_step (fail))
      refine wpQuiet_nil ?_
      rintro w' ⟨x, rfl⟩
      have HB2 := Lib.hid (HB.out.trans (x.below.mono HB.out.size))
      have x0 := x.cell (HX.out.cell 0)
      (try simp only [List.getElem?_toArray, List.getElem?_cons_zero, List.getElem?_cons_succ] at x0)
      clear c2 x1 lk HB HX HLK HC
      generalize x.at = w2 at *
      go_wp2_with fail
      go_ret
      exact ⟨by rfl, HB2.out⟩
  · by_cases t4 : t = 4
    · subst t4
      clear t3
      rcases hm with ⟨HM, e5, e6⟩ | ⟨HM, e5, e6⟩ | ⟨HM, e5, e6⟩ | ⟨HM, e5, e6⟩ <;> rw [e5, e6] <;> clear e5 e6
      all_goals
        rw [HM] at HLK
        clear HM
        go_enter Tryd.func45, Tryd.ntmps45
        go_upto_region 1 with (fail)
        have HX := Lib.hid (Has.new w #[.int .i64 4, .int .i64 j, .string tok, .string txt, .int .i64 k, .int .i64 lv, .int .i64 n] 70)
        have HB := Lib.hid ((Below.refl _ w).alloc (Nat.le_refl _) (.cells #[.int .i64 4, .int .i64 j, .string tok, .string txt, .int .i64 k, .int .i64 lv, .int .i64 n] 70))
        have HC := Lib.hid (HC0.out.keep HB.out)
        clear HC0
        generalize w.alloc (.cells #[.int .i64 4, .int .i64 j, .string tok, .string txt, .int .i64 k, .int .i64 lv, .int .i64 n] 70) = w1 at *
        have c2 : ∀ y : Later w1, y.at.cell? ⟨b, 2, none⟩ = some (.map (some m)) := fun y => y.cell (HC.out.cells.cell 2)
        have x1 : ∀ y : Later w1, y.at.cell? ⟨w.heap.size, 1, none⟩ = some (.int .i64 j) := fun y => y.cell (HX.out.cell 1)
        have lk := fun y : Later w1 => HLK.out _ (HC.out.keep y.below).map
        refine region_later 8 (by kernel_rfl) (by kernel_rfl) ?_
        simp only [List.take_succ_cons, List.take_zero, List.drop_succ_cons, List.drop_zero]
        repeat (go_big_quiet_step (fail))
        refine wpQuiet_nil ?_
        rintro w' ⟨x, rfl⟩
        have HB2 := Lib.hid (HB.out.trans (x.below.mono HB.out.size))
        have x0 := x.cell (HX.out.cell 0)
        (try simp only [List.getElem?_toArray, List.getElem?_cons_zero, List.getElem?_cons_succ] at x0)
        clear c2 x1 lk HB HX HLK HC
        generalize x.at = w2 at *
        go_wp2_with fail
        go_ret
        exact ⟨by rfl, HB2.out⟩
    · rw [decide_eq_false t3, decide_eq_false t4]
      have q3 : (t == 3) = false := by simpa using t3
      have q4 : (t == 4) = false := by simpa using t4
      clear t3 t4
      rcases hm with ⟨HM, e5, e6⟩ | ⟨HM, e5, e6⟩ | ⟨HM, e5, e6⟩ | ⟨HM, e5, e6⟩ <;> rw [e5, e6] <;> clear e5 e6
      all_goals
        rw [HM] at HLK
        clear HM
        go_enter Tryd.func45, Tryd.ntmps45
        go_upto_region 1 with (fail)
        have HX := Lib.hid (Has.new w #[.int .i64 t, .int .i64 j, .string tok, .string txt, .int .i64 k, .int .i64 lv, .int .i64 n] 70)
        have HB := Lib.hid ((Below.refl _ w).alloc (Nat.le_refl _) (.cells #[.int .i64 t, .int .i64 j, .string tok, .string txt, .int .i64 k, .int .i64 lv, .int .i64 n] 70))
        have HC := Lib.hid (HC0.out.keep HB.out)
        clear HC0
        generalize w.alloc (.cells #[.int .i64 t, .int .i64 j, .string tok, .string txt, .int .i64 k, .int .i64 lv, .int .i64 n] 70) = w1 at *
        have c2 : ∀ y : Later w1, y.at.cell? ⟨b, 2, none⟩ = some (.map (some m)) := fun y => y.cell (HC.out.cells.cell 2)
        have x1 : ∀ y : Later w1, y.at.cell? ⟨w.heap.size, 1, none⟩ = some (.int .i64 j) := fun y => y.cell (HX.out.cell 1)
        have lk := fun y : Later w1 => HLK.out _ (HC.out.keep y.below).map
        refine region_later 8 (by kernel_rfl) (by kernel_rfl) ?_
        simp only [List.take_succ_cons, List.take_zero, List.drop_succ_cons, List.drop_zero]
        repeat (go_big_quiet_step (fail))
        refine wpQuiet_nil ?_
        rintro w' ⟨x, rfl⟩
        have HB2 := Lib.hid (HB.out.trans (x.below.mono HB.out.size))
        have x0 := x.cell (HX.out.cell 0)
        (try simp only [List.getElem?_toArray, List.getElem?_cons_zero, List.getElem?_cons_succ] at x0)
        clear c2 x1 lk HB HX HLK HC
        generalize x.at = w2 at *
        go_wp2_with fail
        go_ret
        exact ⟨by rfl, HB2.out⟩
/-- two blocks of the call's own: the parameter, the result -/
structure U2 (w w' : World) (S : List Nat) (ps rs : Array Value) (TP TR : TypeId) : Prop where
  hp : Has w' w.heap.size ps TP
  hr : Has w' (w.heap.size + 1) rs TR
  hc : Chg S w w'
theorem two_below (w : World) (x y : Obj) : Below w.heap.size w ((w.alloc x).alloc y) := ((Below.refl _ w).alloc (Nat.le_refl _) x).alloc (by rw [World.size_alloc]; omega) y
theorem U2.new (w : World) (S : List Nat) (ps rs : Array Value) (TP TR : TypeId) : U2 w ((w.alloc (.cells ps TP)).alloc (.cells rs TR)) S ps rs TP TR :=
  ⟨(Has.new w ps TP).alloc _, by have := Has.new (w.alloc (.cells ps TP)) rs TR; rw [World.size_alloc] at this; exact this, below_chg (two_below w _ _) S⟩
theorem U2.keep {w w' w'' : World} {S : List Nat} {ps rs : Array Value} {TP TR : TypeId} (h : U2 w w' S ps rs TP TR) (k : Below w'.heap.size w' w'') : U2 w w'' S ps rs TP TR :=
  ⟨h.hp.below k h.hp.lt, h.hr.below k h.hr.lt, chg_tail h.hc (k.mono h.hc.size)⟩
theorem U2.chg {w w' w'' : World} {S : List Nat} {ps rs : Array Value} {TP TR : TypeId} (h : U2 w w' S ps rs TP TR) (k : Chg S w' w'') (hs : ∀ x ∈ S, x < w.heap.size) : U2 w w'' S ps rs TP TR :=
  ⟨h.hp.chg k (fun hx => Nat.lt_irrefl _ (hs _ hx)), h.hr.chg k (fun hx => by have := hs _ hx; omega), h.hc.trans k⟩
theorem fin_step {w w3 W : World} {b m : Nat} {a : Option Addr} {cap : Nat} {l : List Tn.Ten} {L : List Cn.Act} {x : Cn.Act} (hc : ConnAt w3 b m a cap l (L ++ [x])) (hl : Low w.heap.size b m a) (k : Chg [b, m] w w3) (k2 : Below w.heap.size w3 W) : Stepped w W b m a cap l L x :=
  ⟨hc.below k2 hl, chg_tail k k2⟩
theorem low_in {B b m : Nat} {a : Option Addr} (h : Low B b m a) : ∀ x ∈ [b, m], x < B := by
  intro x hx
  simp only [List.mem_cons, List.not_mem_nil, or_false] at hx
  rcases hx with rfl | rfl
  · exact h.b
  · exact h.m
theorem Calls.act {P : Program} {f : FuncId} {args : Array Value} {w : World} {x : Cn.Act} {R : World → Prop} (h : Calls P f args w fun r w' => r = .returned (actV x) ∧ R w') :
    Calls P f args w fun r w' => r = .returned (.agg #[.int .i64 x.what, .int .i64 x.job, .int .i64 x.ten, .int .i64 x.kind, .int .i64 x.lev, .int .i64 x.n, .string x.txt, .int .i64 x.err]) ∧ R w' := h
theorem refuse_wide (j e : Int) (w : World) : Calls Tryd.prog 29 #[.int .i64 j, .int .i64 e] w fun r w' => r = .returned (.agg #[.int .i64 1, .int .i64 j, .int .i64 0, .int .i64 0, .int .i64 0, .int .i64 0, .string ⟨#[]⟩, .int .i64 e]) ∧ Below w.heap.size w w' := refuse_walk36 j e w
theorem opn_1 (L : List Cn.Act) (r : Pr.Rq) (h : Cn.had L 3 r.j = true) : Cn.opn L r = Cn.refuse r.j 8 := by unfold Cn.opn; rw [if_pos h]
theorem opn_2 (L : List Cn.Act) (r : Pr.Rq) (h : Cn.had L 3 r.j = false) (ho : Cn.opened L = 1024) : Cn.opn L r = Cn.refuse r.j 5 := by unfold Cn.opn; rw [if_neg (by rw [h]; decide), if_pos ho]
theorem opn_3 (L : List Cn.Act) (r : Pr.Rq) (h : Cn.had L 3 r.j = false) (ho : ¬ Cn.opened L = 1024) : Cn.opn L r = ⟨3, r.j, 0, r.k, r.lv, 0, Pr.e0, 0⟩ := by unfold Cn.opn; rw [if_neg (by rw [h]; decide), if_neg ho]
set_option maxRecDepth 100000 in
set_option maxHeartbeats 800000 in
theorem copen_walk (b m : Nat) (a : Option Addr) (cap : Nat) (l : List Tn.Ten) (L : List Cn.Act) (r : Pr.Rq) (w : World) (h : ConnAt w b m a cap l L) (hj : I64 r.j) (h0 : Cn.tenant L ≠ -1) :
    Calls Tryd.prog 44 #[.pointer (some ⟨b, 0, none⟩), rqV r] w fun e w' => e = .returned (actV (Cn.opn L r)) ∧ Stepped w w' b m a cap l L (Cn.opn L r) := by
  have HC0 := Lib.hid h
  have HLOW := Lib.hid h.low
  have HLK := Lib.hid (fun (w : World) (h : MapAt w m L) => h.look r.j hj)
  have HO1 := opn_1 L r
  have HO2 := opn_2 L r
  have HO3 := opn_3 L r
  have hgo := h.good.opn r h0
  have hm0 := Cn.mark_no h.good r.j
  have hme := mark4 L r.j
  have HJ := Lib.hid hj
  have hmost := h.good.most
  have hgood := Lib.hid h.good
  generalize Cn.opn L r = X at *
  obtain ⟨t, j, tok, txt, k, lv, n⟩ := r
  simp only at HO1 HO2 HO3 HLK hm0 hme HJ
  show Calls Tryd.prog 44 #[.pointer (some ⟨b, 0, none⟩), .agg #[.int .i64 t, .int .i64 j, .string tok, .string txt, .int .i64 k, .int .i64 lv, .int .i64 n]] w _
  clear h h0 hj
  cases h3 : Cn.had L 3 j with
  | true =>
    have hv : (Cn.mark L j == 0) = false := by
      rcases hme h3 with ⟨e, _⟩ | ⟨e, _⟩ | ⟨e, _⟩ | ⟨e, _⟩ <;> rw [e] <;> rfl
    rw [HO1 h3]
    clear HO1 HO2 HO3 hm0 hme hgo hmost HJ h3 hgood
    generalize Cn.mark L j = v at *
    go_enter Tryd.func44, Tryd.ntmps44
    go_upto_region 1 with (fail)
    have HU0 := Lib.hid (U2.new w [b, m] #[.int .i64 t, .int .i64 j, .string tok, .string txt, .int .i64 k, .int .i64 lv, .int .i64 n] #[.int .i64 0, .int .i64 0, .int .i64 0, .int .i64 0, .int .i64 0, .int .i64 0, .string ⟨#[]⟩, .int .i64 0] 70 38)
    have HC1 := Lib.hid (HC0.out.keep (two_below w (.cells #[.int .i64 t, .int .i64 j, .string tok, .string txt, .int .i64 k, .int .i64 lv, .int .i64 n] 70) (.cells #[.int .i64 0, .int .i64 0, .int .i64 0, .int .i64 0, .int .i64 0, .int .i64 0, .string ⟨#[]⟩, .int .i64 0] 38)))
    clear HC0
    generalize (w.alloc (.cells #[.int .i64 t, .int .i64 j, .string tok, .string txt, .int .i64 k, .int .i64 lv, .int .i64 n] 70)).alloc (.cells #[.int .i64 0, .int .i64 0, .int .i64 0, .int .i64 0, .int .i64 0, .int .i64 0, .string ⟨#[]⟩, .int .i64 0] 38) = w1 at *
    have c2 : ∀ y : Later w1, y.at.cell? ⟨b, 2, none⟩ = some (.map (some m)) := fun y => y.cell (HC1.out.cells.cell 2)
    have x1 : ∀ y : Later w1, y.at.cell? ⟨w.heap.size, 1, none⟩ = some (.int .i64 j) := fun y => y.cell (HU0.out.hp.cell 1)
    have lk := fun y : Later w1 => HLK.out _ (HC1.out.keep y.below).map
    refine region_later 9 (by kernel_rfl) (by kernel_rfl) ?_
    simp only [List.take_succ_cons, List.take_zero, List.drop_succ_cons, List.drop_zero]
    repeat (go_big_quiet_step (fail))
    refine wpQuiet_nil ?_
    rintro w' ⟨x, rfl⟩
    have HU := Lib.hid (HU0.out.keep x.below)
    have HC := Lib.hid (HC1.out.keep x.below)
    clear HC1 c2 x1 lk HU0
    generalize x.at = w2 at *
    have x0 := HU.out.hp.cell 0; have x1 := HU.out.hp.cell 1; have x2 := HU.out.hp.cell 2; have x3 := HU.out.hp.cell 3; have x4 := HU.out.hp.cell 4; have x5 := HU.out.hp.cell 5; have x6 := HU.out.hp.cell 6
    simp only [List.getElem?_toArray, List.getElem?_cons_zero, List.getElem?_cons_succ] at x0 x1 x2 x3 x4 x5 x6
    go_wp2_with fail
    clear x0 x1 x2 x3 x4 x5 x6
    with_reducible refine (refuse_wide _ _ _).mono ?_
    rintro r3 w3 ⟨rfl, hb⟩
    have HU3 := Lib.hid (HU.out.keep hb)
    have HC3 := Lib.hid ((HC.out.keep hb).refuse j 8)
    clear HU HC hb
    have HU := HU3
    clear HU3
    have z0 := HU.out.hr.cell 0; have z1 := HU.out.hr.cell 1; have z2 := HU.out.hr.cell 2; have z3 := HU.out.hr.cell 3; have z4 := HU.out.hr.cell 4; have z5 := HU.out.hr.cell 5; have z6 := HU.out.hr.cell 6; have z7 := HU.out.hr.cell 7
    have g0 := HU.out.hr.free 0; have g1 := HU.out.hr.free 1; have g2 := HU.out.hr.free 2; have g3 := HU.out.hr.free 3; have g4 := HU.out.hr.free 4; have g5 := HU.out.hr.free 5; have g6 := HU.out.hr.free 6; have g7 := HU.out.hr.free 7
    simp only [List.getElem?_toArray, List.getElem?_cons_zero, List.getElem?_cons_succ] at z0 z1 z2 z3 z4 z5 z6 z7
    go_wp2
    ((try simp only [Exit.inBlock, Exit.then]); refine bodyPost_ret (v := (.agg #[.int .i64 1, .int .i64 j, .int .i64 0, .int .i64 0, .int .i64 0, .int .i64 0, .string ⟨#[]⟩, .int .i64 8])) ?_ rfl ⟨?_, ?_⟩; (rw [results_cell1 rfl]; go_simp))
    · rfl
    · refine fin_step HC3.out HLOW.out HU.out.hc ?_
      (repeat (first | (with_reducible exact (Below.refl _ _)) | refine Below.setCell ?_ (by first | exact Nat.le_refl _ | exact Nat.le_succ _) _))
  | false =>
    rw [hm0 h3] at HLK
    clear hm0 hme HO1
    by_cases ho : Cn.opened L = 1024
    · rw [HO2 h3 ho]
      have HLN := Lib.hid (fun (w : World) (h : MapAt w m L) ty => by have := h.len ty; rw [ho] at this; exact this)
      clear HO2 HO3 hgo hmost HJ h3 ho hgood
      go_enter Tryd.func44, Tryd.ntmps44
      go_upto_region 1 with (fail)
      have HU0 := Lib.hid (U2.new w [b, m] #[.int .i64 t, .int .i64 j, .string tok, .string txt, .int .i64 k, .int .i64 lv, .int .i64 n] #[.int .i64 0, .int .i64 0, .int .i64 0, .int .i64 0, .int .i64 0, .int .i64 0, .string ⟨#[]⟩, .int .i64 0] 70 38)
      have HC1 := Lib.hid (HC0.out.keep (two_below w (.cells #[.int .i64 t, .int .i64 j, .string tok, .string txt, .int .i64 k, .int .i64 lv, .int .i64 n] 70) (.cells #[.int .i64 0, .int .i64 0, .int .i64 0, .int .i64 0, .int .i64 0, .int .i64 0, .string ⟨#[]⟩, .int .i64 0] 38)))
      clear HC0
      generalize (w.alloc (.cells #[.int .i64 t, .int .i64 j, .string tok, .string txt, .int .i64 k, .int .i64 lv, .int .i64 n] 70)).alloc (.cells #[.int .i64 0, .int .i64 0, .int .i64 0, .int .i64 0, .int .i64 0, .int .i64 0, .string ⟨#[]⟩, .int .i64 0] 38) = w1 at *
      have c2 : ∀ y : Later w1, y.at.cell? ⟨b, 2, none⟩ = some (.map (some m)) := fun y => y.cell (HC1.out.cells.cell 2)
      have x1 : ∀ y : Later w1, y.at.cell? ⟨w.heap.size, 1, none⟩ = some (.int .i64 j) := fun y => y.cell (HU0.out.hp.cell 1)
      have lk := fun y : Later w1 => HLK.out _ (HC1.out.keep y.below).map
      refine region_later 9 (by kernel_rfl) (by kernel_rfl) ?_
      simp only [List.take_succ_cons, List.take_zero, List.drop_succ_cons, List.drop_zero]
      repeat (go_big_quiet_step (fail))
      refine wpQuiet_nil ?_
      rintro w' ⟨x, rfl⟩
      have HU := Lib.hid (HU0.out.keep x.below)
      have HC := Lib.hid (HC1.out.keep x.below)
      clear HC1 c2 x1 lk HU0
      generalize x.at = w2 at *
      have ln := fun ty => HLN.out _ HC.out.map ty
      have c2 := HC.out.cells.cell 2
      simp only [List.getElem?_toArray, List.getElem?_cons_zero, List.getElem?_cons_succ] at c2
      have x0 := HU.out.hp.cell 0; have x1 := HU.out.hp.cell 1; have x2 := HU.out.hp.cell 2; have x3 := HU.out.hp.cell 3; have x4 := HU.out.hp.cell 4; have x5 := HU.out.hp.cell 5; have x6 := HU.out.hp.cell 6
      simp only [List.getElem?_toArray, List.getElem?_cons_zero, List.getElem?_cons_succ] at x0 x1 x2 x3 x4 x5 x6
      go_wp2_with fail
      with_reducible refine (refuse_wide _ _ _).mono ?_
      rintro r3 w3 ⟨rfl, hb⟩
      have HU3 := Lib.hid (HU.out.keep hb)
      have HC3 := Lib.hid ((HC.out.keep hb).refuse j 5)
      clear HU HC hb
      have HU := HU3
      clear HU3
      have z0 := HU.out.hr.cell 0; have z1 := HU.out.hr.cell 1; have z2 := HU.out.hr.cell 2; have z3 := HU.out.hr.cell 3; have z4 := HU.out.hr.cell 4; have z5 := HU.out.hr.cell 5; have z6 := HU.out.hr.cell 6; have z7 := HU.out.hr.cell 7
      have g0 := HU.out.hr.free 0; have g1 := HU.out.hr.free 1; have g2 := HU.out.hr.free 2; have g3 := HU.out.hr.free 3; have g4 := HU.out.hr.free 4; have g5 := HU.out.hr.free 5; have g6 := HU.out.hr.free 6; have g7 := HU.out.hr.free 7
      simp only [List.getElem?_toArray, List.getElem?_cons_zero, List.getElem?_cons_succ] at z0 z1 z2 z3 z4 z5 z6 z7
      go_wp2
      ((try simp only [Exit.inBlock, Exit.then]); refine bodyPost_ret (v := (.agg #[.int .i64 1, .int .i64 j, .int .i64 0, .int .i64 0, .int .i64 0, .int .i64 0, .string ⟨#[]⟩, .int .i64 5])) ?_ rfl ⟨?_, ?_⟩; (rw [results_cell1 rfl]; go_simp))
      · rfl
      · refine fin_step HC3.out HLOW.out HU.out.hc ?_
        (repeat (first | (with_reducible exact (Below.refl _ _)) | refine Below.setCell ?_ (by first | exact Nat.le_refl _ | exact Nat.le_succ _) _))
    · rw [HO3 h3 ho] at hgo ⊢
      have HLN := Lib.hid (fun (w : World) (h : MapAt w m L) ty => h.len ty)
      have HGO := Lib.hid hgo
      have HH3 := Lib.hid h3
      have HMO := Lib.hid (show Cn.opened L < maxLen by have := hmost; have : (1024 : Nat) < maxLen := by decide
                                                        omega)
      have hne : ((Cn.opened L : Int) == 1024) = false := by simp; omega
      clear HO2 HO3 hgo hmost h3 ho
      go_enter Tryd.func44, Tryd.ntmps44
      go_upto_region 1 with (fail)
      have HU0 := Lib.hid (U2.new w [b, m] #[.int .i64 t, .int .i64 j, .string tok, .string txt, .int .i64 k, .int .i64 lv, .int .i64 n] #[.int .i64 0, .int .i64 0, .int .i64 0, .int .i64 0, .int .i64 0, .int .i64 0, .string ⟨#[]⟩, .int .i64 0] 70 38)
      have HC1 := Lib.hid (HC0.out.keep (two_below w (.cells #[.int .i64 t, .int .i64 j, .string tok, .string txt, .int .i64 k, .int .i64 lv, .int .i64 n] 70) (.cells #[.int .i64 0, .int .i64 0, .int .i64 0, .int .i64 0, .int .i64 0, .int .i64 0, .string ⟨#[]⟩, .int .i64 0] 38)))
      clear HC0
      generalize (w.alloc (.cells #[.int .i64 t, .int .i64 j, .string tok, .string txt, .int .i64 k, .int .i64 lv, .int .i64 n] 70)).alloc (.cells #[.int .i64 0, .int .i64 0, .int .i64 0, .int .i64 0, .int .i64 0, .int .i64 0, .string ⟨#[]⟩, .int .i64 0] 38) = w1 at *
      have c2 : ∀ y : Later w1, y.at.cell? ⟨b, 2, none⟩ = some (.map (some m)) := fun y => y.cell (HC1.out.cells.cell 2)
      have x1 : ∀ y : Later w1, y.at.cell? ⟨w.heap.size, 1, none⟩ = some (.int .i64 j) := fun y => y.cell (HU0.out.hp.cell 1)
      have lk := fun y : Later w1 => HLK.out _ (HC1.out.keep y.below).map
      refine region_later 9 (by kernel_rfl) (by kernel_rfl) ?_
      simp only [List.take_succ_cons, List.take_zero, List.drop_succ_cons, List.drop_zero]
      repeat (go_big_quiet_step (fail))
      refine wpQuiet_nil ?_
      rintro w' ⟨x, rfl⟩
      have HU := Lib.hid (HU0.out.keep x.below)
      have HC := Lib.hid (HC1.out.keep x.below)
      clear HC1 c2 x1 lk HU0
      generalize x.at = w2 at *
      have ln := fun ty => HLN.out _ HC.out.map ty
      have c2 := HC.out.cells.cell 2
      simp only [List.getElem?_toArray, List.getElem?_cons_zero, List.getElem?_cons_succ] at c2
      have x0 := HU.out.hp.cell 0; have x1 := HU.out.hp.cell 1; have x2 := HU.out.hp.cell 2; have x3 := HU.out.hp.cell 3; have x4 := HU.out.hp.cell 4; have x5 := HU.out.hp.cell 5; have x6 := HU.out.hp.cell 6
      simp only [List.getElem?_toArray, List.getElem?_cons_zero, List.getElem?_cons_succ] at x0 x1 x2 x3 x4 x5 x6
      go_upto_region 5 with (fail)
      clear x0 x1 x2 x3 x4 x5 x6
      clear c2 ln
      have c2 : ∀ y : Later w2, y.at.cell? ⟨b, 2, none⟩ = some (.map (some m)) := fun y => y.cell (HC.out.cells.cell 2)
      have x1 : ∀ y : Later w2, y.at.cell? ⟨w.heap.size, 1, none⟩ = some (.int .i64 j) := fun y => y.cell (HU.out.hp.cell 1)
      refine region_later 6 (by kernel_rfl) (by kernel_rfl) ?_
      simp only [List.take_succ_cons, List.take_zero, List.drop_succ_cons, List.drop_zero]
      repeat (go_big_quiet_step (fail))
      refine wpQuiet_nil ?_
      rintro w' ⟨x, rfl⟩
      have HU2 := Lib.hid (HU.out.keep x.below)
      have HC2 := Lib.hid (HC.out.keep x.below)
      clear HC HU c2 x1
      generalize x.at = w3 at *
      at_mapUpdate
      refine wpList_mark _ rfl _ _ _ rfl m L (L ++ [⟨3, j, 0, k, lv, 0, Pr.e0, 0⟩]) j 1 rfl rfl rfl HC2.out.map HJ.out (show (Lit.int .i64 1).wf = true by decide) HMO.out (Cn.had_yes _ _ _ _ rfl rfl) (Cn.mark_open hgood.out _ _ HH3.out rfl rfl) (fun i hi => ⟨Cn.mark_still _ _ _ (.inl fun e => hi e.symm), Cn.had_no _ _ _ _ (.inr fun e => hi e.symm)⟩) (by rw [HH3.out, Cn.opened_app]; rfl) ?_
      intro w4 hm4 hc4
      have HU := Lib.hid (HU2.out.chg (hc4.mono fun y _ hy => by simp at hy; simp [hy]) (low_in HLOW.out))
      have HC := Lib.hid (HC2.out.turned hc4 ⟨3, j, 0, k, lv, 0, Pr.e0, 0⟩ (show (3 : Int) ≠ 2 by decide) hm4 HGO.out)
      clear HU2 HC2 hm4 hc4
      have x0 := HU.out.hp.cell 0; have x1 := HU.out.hp.cell 1; have x2 := HU.out.hp.cell 2; have x3 := HU.out.hp.cell 3; have x4 := HU.out.hp.cell 4; have x5 := HU.out.hp.cell 5; have x6 := HU.out.hp.cell 6
      simp only [List.getElem?_toArray, List.getElem?_cons_zero, List.getElem?_cons_succ] at x0 x1 x2 x3 x4 x5 x6
      have z0 := HU.out.hr.cell 0; have z1 := HU.out.hr.cell 1; have z2 := HU.out.hr.cell 2; have z3 := HU.out.hr.cell 3; have z4 := HU.out.hr.cell 4; have z5 := HU.out.hr.cell 5; have z6 := HU.out.hr.cell 6; have z7 := HU.out.hr.cell 7
      have g0 := HU.out.hr.free 0; have g1 := HU.out.hr.free 1; have g2 := HU.out.hr.free 2; have g3 := HU.out.hr.free 3; have g4 := HU.out.hr.free 4; have g5 := HU.out.hr.free 5; have g6 := HU.out.hr.free 6; have g7 := HU.out.hr.free 7
      simp only [List.getElem?_toArray, List.getElem?_cons_zero, List.getElem?_cons_succ] at z0 z1 z2 z3 z4 z5 z6 z7
      go_wp2
      ((try simp only [Exit.inBlock, Exit.then]); refine bodyPost_ret (v := (.agg #[.int .i64 3, .int .i64 j, .int .i64 0, .int .i64 k, .int .i64 lv, .int .i64 0, .string ⟨#[]⟩, .int .i64 0])) ?_ rfl ⟨?_, ?_⟩; (rw [results_cell1 rfl]; go_simp))
      · rfl
      · refine fin_step HC.out HLOW.out HU.out.hc ?_
        (repeat (first | (with_reducible exact (Below.refl _ _)) | refine Below.setCell ?_ (by first | exact Nat.le_refl _ | exact Nat.le_succ _) _))
end Go.Proofs.YtajalllecoclcaaDoor
