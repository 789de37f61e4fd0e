/- Requests: Read. (Printed by gen_proread.py.) -/
import Derived.Test.YtajalllecoclcaaDoorPrHear
import Derived.Test.YtajalllecoclcaaDoorPrMath
namespace Go.Proofs.YtajalllecoclcaaDoor
open Go.RowKit
set_option linter.unusedVariables false
set_option linter.unusedSimpArgs false

/-- the frame, the result, the request that is made: three blocks -/
structure T3 (w w' : World) (ps rs cs : Array Value) (TP TR TA : TypeId) : Prop where
  hp : Has w' w.heap.size ps TP
  hr : Has w' (w.heap.size + 1) rs TR
  ha : Has w' (w.heap.size + 1 + 1) cs TA
  hb : Below w.heap.size w w'
theorem T3.new (w : World) (ps rs cs : Array Value) (TP TR TA : TypeId) : T3 w (((w.alloc (.cells ps TP)).alloc (.cells rs TR)).alloc (.cells cs TA)) ps rs cs TP TR TA := by
  obtain ⟨h1, h2, h3, h4⟩ := rn_three w ps rs cs TP TR TA
  exact ⟨h1, h2, h3, h4⟩
theorem T3.keep {w w' w'' : World} {ps rs cs : Array Value} {TP TR TA : TypeId} (h : T3 w w' ps rs cs TP TR TA) (k : Below w'.heap.size w' w'') : T3 w w'' ps rs cs TP TR TA :=
  ⟨h.hp.below k h.hp.lt, h.hr.below k h.hr.lt, h.ha.below k h.ha.lt, h.hb.trans (k.mono h.hb.size)⟩
theorem T3.seta {w w' : World} {ps rs cs : Array Value} {TP TR TA : TypeId} (h : T3 w w' ps rs cs TP TR TA) (i : Nat) (v : Value) : T3 w (w'.setCell ⟨w.heap.size + 1 + 1, i, none⟩ v) ps rs (cs.setIfInBounds i v) TP TR TA :=
  ⟨h.hp.setCell_other _ _ (by show w.heap.size ≠ w.heap.size + 1 + 1; omega), h.hr.setCell_other _ _ (by show w.heap.size + 1 ≠ w.heap.size + 1 + 1; omega), h.ha.setCell i v, h.hb.setCell (p := ⟨w.heap.size + 1 + 1, i, none⟩) (by show w.heap.size ≤ w.heap.size + 1 + 1; omega) v⟩
theorem rd_w (f : Fr.Frm) (h : Pr.whole f = false) : Pr.rd f = none := by unfold Pr.rd; rw [if_pos h]
theorem rd_1 (j : Int) (d : ByteArray) (hw : Pr.whole ⟨1, j, d⟩ = true) : Pr.rd ⟨1, j, d⟩ = if j = 0 ∧ wordB d.data.toList = true then some ⟨1, j, d, Pr.e0, 0, 0, 0⟩ else none := by
  unfold Pr.rd
  rw [if_neg (by rw [hw]; decide), if_pos rfl]
theorem rd_2 (j : Int) (d : ByteArray) (hw : Pr.whole ⟨2, j, d⟩ = true) : Pr.rd ⟨2, j, d⟩ = if (Pr.openK d).1 = 0 then none else some ⟨2, j, Pr.e0, Pr.e0, (Pr.openK d).1, (Pr.openK d).2, 0⟩ := by
  unfold Pr.rd
  rw [if_neg (by rw [hw]; decide), if_neg (by simp only; decide), if_pos rfl]
theorem rd_3 (j : Int) (d : ByteArray) (hw : Pr.whole ⟨3, j, d⟩ = true) : Pr.rd ⟨3, j, d⟩ = some ⟨3, j, Pr.e0, d, 0, 0, 0⟩ := by
  unfold Pr.rd
  rw [if_neg (by rw [hw]; decide), if_neg (by simp only; decide), if_neg (by simp only; decide), if_pos rfl]
theorem rd_4 (j : Int) (d : ByteArray) (hw : Pr.whole ⟨4, j, d⟩ = true) : Pr.rd ⟨4, j, d⟩ = if d.size = 0 then some ⟨4, j, Pr.e0, Pr.e0, 0, 0, 0⟩ else none := by
  unfold Pr.rd
  rw [if_neg (by rw [hw]; decide), if_neg (by simp only; decide), if_neg (by simp only; decide), if_neg (by simp only; decide), if_pos rfl]
theorem rd_5 (j : Int) (d : ByteArray) (hw : Pr.whole ⟨5, j, d⟩ = true) : Pr.rd ⟨5, j, d⟩ = if d.size = 0 then some ⟨5, j, Pr.e0, Pr.e0, 0, 0, 0⟩ else none := by
  unfold Pr.rd
  rw [if_neg (by rw [hw]; decide), if_neg (by simp only; decide), if_neg (by simp only; decide), if_neg (by simp only; decide), if_neg (by simp only; decide), if_pos rfl]
theorem rd_6 (j : Int) (d : ByteArray) (hw : Pr.whole ⟨6, j, d⟩ = true) : Pr.rd ⟨6, j, d⟩ = if d.size = 4 then some ⟨6, j, Pr.e0, Pr.e0, 0, 0, (Fr.num4 d.data.toList : Int)⟩ else none := by
  unfold Pr.rd
  rw [if_neg (by rw [hw]; decide), if_neg (by simp only; decide), if_neg (by simp only; decide), if_neg (by simp only; decide), if_neg (by simp only; decide), if_neg (by simp only; decide), if_pos rfl]
theorem rd_7 (j : Int) (d : ByteArray) (hw : Pr.whole ⟨7, j, d⟩ = true) : Pr.rd ⟨7, j, d⟩ = if j = 0 ∧ d.size = 0 then some ⟨7, j, Pr.e0, Pr.e0, 0, 0, 0⟩ else none := by
  unfold Pr.rd
  rw [if_neg (by rw [hw]; decide), if_neg (by simp only; decide), if_neg (by simp only; decide), if_neg (by simp only; decide), if_neg (by simp only; decide), if_neg (by simp only; decide), if_neg (by simp only; decide), if_pos rfl]
theorem rd_x (t j : Int) (d : ByteArray) (h1 : t ≠ 1) (h2 : t ≠ 2) (h3 : t ≠ 3) (h4 : t ≠ 4) (h5 : t ≠ 5) (h6 : t ≠ 6) (h7 : t ≠ 7) : Pr.rd ⟨t, j, d⟩ = none := by
  unfold Pr.rd
  simp only [h1, h2, h3, h4, h5, h6, h7, if_false, ite_self]
theorem whole_size {t j : Int} {d : ByteArray} (h : Pr.whole ⟨t, j, d⟩ = true) : d.size ≤ 65536 := (of_decide_eq_true h).2.2
def readV (o : Option Pr.Rq) : Value := match o with
  | some r => .tuple #[.agg #[.int .i64 r.t, .int .i64 r.j, .string r.tok, .string r.txt, .int .i64 r.k, .int .i64 r.lv, .int .i64 r.n], .int .i64 0]
  | none => .tuple #[.agg #[.int .i64 0, .int .i64 0, .string ⟨#[]⟩, .string ⟨#[]⟩, .int .i64 0, .int .i64 0, .int .i64 0], .int .i64 35]
set_option maxRecDepth 100000 in
set_option maxHeartbeats 1600000 in
theorem pread1 (j : Int) (d : ByteArray) (w : World) (hT : Tabs w) : Calls Tryd.prog 28 #[.agg #[.int .i64 1, .int .i64 j, .string d]] w fun e w' => e = .returned (readV (Pr.rd ⟨1, j, d⟩)) ∧ Below w.heap.size w w' := by
  have HT := Lib.hid hT
  clear hT
  cases hW : Pr.whole ⟨1, j, d⟩ with
  | false =>
    have hh : Pr.rd ⟨1, j, d⟩ = none := by rw [rd_w _ hW]
    rw [hh]
    have HW := Lib.hid (pwhole_walk 1 j d)
    rw [hW] at HW
    clear hW hh
    go_enter Tryd.func28, Tryd.ntmps28
    go_upto_region 2 with (fail)
    have H2 := Lib.hid (T3.new w #[.int .i64 1, .int .i64 j, .string d] #[.int .i64 0, .int .i64 0, .string ⟨#[]⟩, .string ⟨#[]⟩, .int .i64 0, .int .i64 0, .int .i64 0] #[.int .i64 1, .int .i64 j, .string ⟨#[]⟩, .string ⟨#[]⟩, .int .i64 0, .int .i64 0, .int .i64 0] 42 70 70)
    have p0 := H2.out.hp.cell 0; have p1 := H2.out.hp.cell 1; have p2 := H2.out.hp.cell 2
    simp only [List.getElem?_toArray, List.getElem?_cons_zero, List.getElem?_cons_succ] at p0 p1 p2
    generalize ((w.alloc (.cells #[.int .i64 1, .int .i64 j, .string d] 42)).alloc (.cells #[.int .i64 0, .int .i64 0, .string ⟨#[]⟩, .string ⟨#[]⟩, .int .i64 0, .int .i64 0, .int .i64 0] 70)).alloc (.cells #[.int .i64 1, .int .i64 j, .string ⟨#[]⟩, .string ⟨#[]⟩, .int .i64 0, .int .i64 0, .int .i64 0] 70) = w2 at *
    go_wp2_with fail
    (with_reducible refine (HW.out _).mono ?_)
    rintro e w3 ⟨rfl, hb⟩
    have HH := Lib.hid (H2.out.keep hb)
    clear p0 p1 p2 hb H2 HW
    have HBX := Lib.hid HH.out.hb
    have p0 := HH.out.hp.cell 0; have p1 := HH.out.hp.cell 1; have p2 := HH.out.hp.cell 2
    simp only [List.getElem?_toArray, List.getElem?_cons_zero, List.getElem?_cons_succ, List.setIfInBounds_toArray, List.set_cons_zero, List.set_cons_succ] at p0 p1 p2
    have a0 := HH.out.ha.cell 0; have a1 := HH.out.ha.cell 1; have a2 := HH.out.ha.cell 2; have a3 := HH.out.ha.cell 3; have a4 := HH.out.ha.cell 4; have a5 := HH.out.ha.cell 5; have a6 := HH.out.ha.cell 6
    have g2 := HH.out.ha.free 2; have g3 := HH.out.ha.free 3; have g4 := HH.out.ha.free 4; have g5 := HH.out.ha.free 5; have g6 := HH.out.ha.free 6
    simp only [List.getElem?_toArray, List.getElem?_cons_zero, List.getElem?_cons_succ, List.setIfInBounds_toArray, List.set_cons_zero, List.set_cons_succ] at a0 a1 a2 a3 a4 a5 a6
    have r0 := HH.out.hr.cell 0; have r1 := HH.out.hr.cell 1; have r2 := HH.out.hr.cell 2; have r3 := HH.out.hr.cell 3; have r4 := HH.out.hr.cell 4; have r5 := HH.out.hr.cell 5; have r6 := HH.out.hr.cell 6
    have f0 := HH.out.hr.free 0; have f1 := HH.out.hr.free 1; have f2 := HH.out.hr.free 2; have f3 := HH.out.hr.free 3; have f4 := HH.out.hr.free 4; have f5 := HH.out.hr.free 5; have f6 := HH.out.hr.free 6
    simp only [List.getElem?_toArray, List.getElem?_cons_zero, List.getElem?_cons_succ, List.setIfInBounds_toArray, List.set_cons_zero, List.set_cons_succ] at r0 r1 r2 r3 r4 r5 r6
    clear HH
    go_wp2
    ((try simp only [Exit.inBlock, Exit.then]); refine bodyPost_ret (v := (.tuple #[.agg #[.int .i64 0, .int .i64 0, .string ⟨#[]⟩, .string ⟨#[]⟩, .int .i64 0, .int .i64 0, .int .i64 0], .int .i64 35])) ?_ rfl ⟨?_, ?_⟩; (rw [results_cell_tmp1 rfl]; go_simp))
    · rfl
    · repeat (first | (with_reducible exact HBX.out) | refine below_set ?_ _ _ (by omega) _)
  | true =>
    have hsz := whole_size hW
    by_cases hj : j = 0
    · cases hword : wordB d.data.toList with
      | true =>
        have ej : (j == 0) = true := by rw [hj]; rfl
        have ej' : (j != 0) = false := by rw [hj]; rfl
        have HIS := Lib.hid (fun w h => is_walk d w h (by omega))
        rw [hword] at HIS
        have hh : Pr.rd ⟨1, j, d⟩ = some ⟨1, j, d, Pr.e0, 0, 0, 0⟩ := by rw [rd_1 j d hW, if_pos ⟨hj, hword⟩]
        rw [hh]
        clear hj hword hsz
        have HW := Lib.hid (pwhole_walk 1 j d)
        rw [hW] at HW
        clear hW hh
        go_enter Tryd.func28, Tryd.ntmps28
        go_upto_region 2 with (fail)
        have H2 := Lib.hid (T3.new w #[.int .i64 1, .int .i64 j, .string d] #[.int .i64 0, .int .i64 0, .string ⟨#[]⟩, .string ⟨#[]⟩, .int .i64 0, .int .i64 0, .int .i64 0] #[.int .i64 1, .int .i64 j, .string ⟨#[]⟩, .string ⟨#[]⟩, .int .i64 0, .int .i64 0, .int .i64 0] 42 70 70)
        have p0 := H2.out.hp.cell 0; have p1 := H2.out.hp.cell 1; have p2 := H2.out.hp.cell 2
        simp only [List.getElem?_toArray, List.getElem?_cons_zero, List.getElem?_cons_succ] at p0 p1 p2
        generalize ((w.alloc (.cells #[.int .i64 1, .int .i64 j, .string d] 42)).alloc (.cells #[.int .i64 0, .int .i64 0, .string ⟨#[]⟩, .string ⟨#[]⟩, .int .i64 0, .int .i64 0, .int .i64 0] 70)).alloc (.cells #[.int .i64 1, .int .i64 j, .string ⟨#[]⟩, .string ⟨#[]⟩, .int .i64 0, .int .i64 0, .int .i64 0] 70) = w2 at *
        go_wp2_with fail
        (with_reducible refine (HW.out _).mono ?_)
        rintro e w3 ⟨rfl, hb⟩
        have HH := Lib.hid (H2.out.keep hb)
        clear p0 p1 p2 hb H2 HW
        have p0 := HH.out.hp.cell 0; have p1 := HH.out.hp.cell 1; have p2 := HH.out.hp.cell 2
        simp only [List.getElem?_toArray, List.getElem?_cons_zero, List.getElem?_cons_succ, List.setIfInBounds_toArray, List.set_cons_zero, List.set_cons_succ] at p0 p1 p2
        have a0 := HH.out.ha.cell 0; have a1 := HH.out.ha.cell 1; have a2 := HH.out.ha.cell 2; have a3 := HH.out.ha.cell 3; have a4 := HH.out.ha.cell 4; have a5 := HH.out.ha.cell 5; have a6 := HH.out.ha.cell 6
        have g2 := HH.out.ha.free 2; have g3 := HH.out.ha.free 3; have g4 := HH.out.ha.free 4; have g5 := HH.out.ha.free 5; have g6 := HH.out.ha.free 6
        simp only [List.getElem?_toArray, List.getElem?_cons_zero, List.getElem?_cons_succ, List.setIfInBounds_toArray, List.set_cons_zero, List.set_cons_succ] at a0 a1 a2 a3 a4 a5 a6
        go_upto_region 7 with (fail)
        have HH4 := Lib.hid (HH.out.seta 2 (.string d))
        clear p0 p1 p2 a0 a1 a2 a3 a4 a5 a6 g2 g3 g4 g5 g6 HH
        generalize w3.setCell ⟨w.heap.size + 1 + 1, 2, none⟩ (.string d) = w4 at *
        have HH := HH4
        clear HH4
        have p0 := HH.out.hp.cell 0; have p1 := HH.out.hp.cell 1; have p2 := HH.out.hp.cell 2
        simp only [List.getElem?_toArray, List.getElem?_cons_zero, List.getElem?_cons_succ, List.setIfInBounds_toArray, List.set_cons_zero, List.set_cons_succ] at p0 p1 p2
        go_wp2_with fail
        (with_reducible refine (HIS.out _ (HT.out.keep HH.out.hb)).mono ?_)
        rintro e w5 ⟨rfl, hb⟩
        have HH5 := Lib.hid (HH.out.keep hb)
        clear p0 p1 p2 hb HH HIS
        have HH := HH5
        clear HH5
        have HBX := Lib.hid HH.out.hb
        have p0 := HH.out.hp.cell 0; have p1 := HH.out.hp.cell 1; have p2 := HH.out.hp.cell 2
        simp only [List.getElem?_toArray, List.getElem?_cons_zero, List.getElem?_cons_succ, List.setIfInBounds_toArray, List.set_cons_zero, List.set_cons_succ] at p0 p1 p2
        have a0 := HH.out.ha.cell 0; have a1 := HH.out.ha.cell 1; have a2 := HH.out.ha.cell 2; have a3 := HH.out.ha.cell 3; have a4 := HH.out.ha.cell 4; have a5 := HH.out.ha.cell 5; have a6 := HH.out.ha.cell 6
        have g2 := HH.out.ha.free 2; have g3 := HH.out.ha.free 3; have g4 := HH.out.ha.free 4; have g5 := HH.out.ha.free 5; have g6 := HH.out.ha.free 6
        simp only [List.getElem?_toArray, List.getElem?_cons_zero, List.getElem?_cons_succ, List.setIfInBounds_toArray, List.set_cons_zero, List.set_cons_succ] at a0 a1 a2 a3 a4 a5 a6
        have r0 := HH.out.hr.cell 0; have r1 := HH.out.hr.cell 1; have r2 := HH.out.hr.cell 2; have r3 := HH.out.hr.cell 3; have r4 := HH.out.hr.cell 4; have r5 := HH.out.hr.cell 5; have r6 := HH.out.hr.cell 6
        have f0 := HH.out.hr.free 0; have f1 := HH.out.hr.free 1; have f2 := HH.out.hr.free 2; have f3 := HH.out.hr.free 3; have f4 := HH.out.hr.free 4; have f5 := HH.out.hr.free 5; have f6 := HH.out.hr.free 6
        simp only [List.getElem?_toArray, List.getElem?_cons_zero, List.getElem?_cons_succ, List.setIfInBounds_toArray, List.set_cons_zero, List.set_cons_succ] at r0 r1 r2 r3 r4 r5 r6
        clear HH
        go_wp2
        ((try simp only [Exit.inBlock, Exit.then]); refine bodyPost_ret (v := (.tuple #[.agg #[.int .i64 1, .int .i64 j, .string d, .string ⟨#[]⟩, .int .i64 0, .int .i64 0, .int .i64 0], .int .i64 0])) ?_ rfl ⟨?_, ?_⟩; (rw [results_cell_tmp1 rfl]; go_simp))
        · rfl
        · repeat (first | (with_reducible exact HBX.out) | refine below_set ?_ _ _ (by omega) _)
      | false =>
        have ej : (j == 0) = true := by rw [hj]; rfl
        have ej' : (j != 0) = false := by rw [hj]; rfl
        have HIS := Lib.hid (fun w h => is_walk d w h (by omega))
        rw [hword] at HIS
        have hh : Pr.rd ⟨1, j, d⟩ = none := by rw [rd_1 j d hW, if_neg (fun x => by rw [hword] at x; cases x.2)]
        rw [hh]
        clear hj hword hsz
        have HW := Lib.hid (pwhole_walk 1 j d)
        rw [hW] at HW
        clear hW hh
        go_enter Tryd.func28, Tryd.ntmps28
        go_upto_region 2 with (fail)
        have H2 := Lib.hid (T3.new w #[.int .i64 1, .int .i64 j, .string d] #[.int .i64 0, .int .i64 0, .string ⟨#[]⟩, .string ⟨#[]⟩, .int .i64 0, .int .i64 0, .int .i64 0] #[.int .i64 1, .int .i64 j, .string ⟨#[]⟩, .string ⟨#[]⟩, .int .i64 0, .int .i64 0, .int .i64 0] 42 70 70)
        have p0 := H2.out.hp.cell 0; have p1 := H2.out.hp.cell 1; have p2 := H2.out.hp.cell 2
        simp only [List.getElem?_toArray, List.getElem?_cons_zero, List.getElem?_cons_succ] at p0 p1 p2
        generalize ((w.alloc (.cells #[.int .i64 1, .int .i64 j, .string d] 42)).alloc (.cells #[.int .i64 0, .int .i64 0, .string ⟨#[]⟩, .string ⟨#[]⟩, .int .i64 0, .int .i64 0, .int .i64 0] 70)).alloc (.cells #[.int .i64 1, .int .i64 j, .string ⟨#[]⟩, .string ⟨#[]⟩, .int .i64 0, .int .i64 0, .int .i64 0] 70) = w2 at *
        go_wp2_with fail
        (with_reducible refine (HW.out _).mono ?_)
        rintro e w3 ⟨rfl, hb⟩
        have HH := Lib.hid (H2.out.keep hb)
        clear p0 p1 p2 hb H2 HW
        have p0 := HH.out.hp.cell 0; have p1 := HH.out.hp.cell 1; have p2 := HH.out.hp.cell 2
        simp only [List.getElem?_toArray, List.getElem?_cons_zero, List.getElem?_cons_succ, List.setIfInBounds_toArray, List.set_cons_zero, List.set_cons_succ] at p0 p1 p2
        have a0 := HH.out.ha.cell 0; have a1 := HH.out.ha.cell 1; have a2 := HH.out.ha.cell 2; have a3 := HH.out.ha.cell 3; have a4 := HH.out.ha.cell 4; have a5 := HH.out.ha.cell 5; have a6 := HH.out.ha.cell 6
        have g2 := HH.out.ha.free 2; have g3 := HH.out.ha.free 3; have g4 := HH.out.ha.free 4; have g5 := HH.out.ha.free 5; have g6 := HH.out.ha.free 6
        simp only [List.getElem?_toArray, List.getElem?_cons_zero, List.getElem?_cons_succ, List.setIfInBounds_toArray, List.set_cons_zero, List.set_cons_succ] at a0 a1 a2 a3 a4 a5 a6
        go_upto_region 7 with (fail)
        have HH4 := Lib.hid (HH.out.seta 2 (.string d))
        clear p0 p1 p2 a0 a1 a2 a3 a4 a5 a6 g2 g3 g4 g5 g6 HH
        generalize w3.setCell ⟨w.heap.size + 1 + 1, 2, none⟩ (.string d) = w4 at *
        have HH := HH4
        clear HH4
        have p0 := HH.out.hp.cell 0; have p1 := HH.out.hp.cell 1; have p2 := HH.out.hp.cell 2
        simp only [List.getElem?_toArray, List.getElem?_cons_zero, List.getElem?_cons_succ, List.setIfInBounds_toArray, List.set_cons_zero, List.set_cons_succ] at p0 p1 p2
        go_wp2_with fail
        (with_reducible refine (HIS.out _ (HT.out.keep HH.out.hb)).mono ?_)
        rintro e w5 ⟨rfl, hb⟩
        have HH5 := Lib.hid (HH.out.keep hb)
        clear p0 p1 p2 hb HH HIS
        have HH := HH5
        clear HH5
        have HBX := Lib.hid HH.out.hb
        have p0 := HH.out.hp.cell 0; have p1 := HH.out.hp.cell 1; have p2 := HH.out.hp.cell 2
        simp only [List.getElem?_toArray, List.getElem?_cons_zero, List.getElem?_cons_succ, List.setIfInBounds_toArray, List.set_cons_zero, List.set_cons_succ] at p0 p1 p2
        have a0 := HH.out.ha.cell 0; have a1 := HH.out.ha.cell 1; have a2 := HH.out.ha.cell 2; have a3 := HH.out.ha.cell 3; have a4 := HH.out.ha.cell 4; have a5 := HH.out.ha.cell 5; have a6 := HH.out.ha.cell 6
        have g2 := HH.out.ha.free 2; have g3 := HH.out.ha.free 3; have g4 := HH.out.ha.free 4; have g5 := HH.out.ha.free 5; have g6 := HH.out.ha.free 6
        simp only [List.getElem?_toArray, List.getElem?_cons_zero, List.getElem?_cons_succ, List.setIfInBounds_toArray, List.set_cons_zero, List.set_cons_succ] at a0 a1 a2 a3 a4 a5 a6
        have r0 := HH.out.hr.cell 0; have r1 := HH.out.hr.cell 1; have r2 := HH.out.hr.cell 2; have r3 := HH.out.hr.cell 3; have r4 := HH.out.hr.cell 4; have r5 := HH.out.hr.cell 5; have r6 := HH.out.hr.cell 6
        have f0 := HH.out.hr.free 0; have f1 := HH.out.hr.free 1; have f2 := HH.out.hr.free 2; have f3 := HH.out.hr.free 3; have f4 := HH.out.hr.free 4; have f5 := HH.out.hr.free 5; have f6 := HH.out.hr.free 6
        simp only [List.getElem?_toArray, List.getElem?_cons_zero, List.getElem?_cons_succ, List.setIfInBounds_toArray, List.set_cons_zero, List.set_cons_succ] at r0 r1 r2 r3 r4 r5 r6
        clear HH
        go_wp2
        ((try simp only [Exit.inBlock, Exit.then]); refine bodyPost_ret (v := (.tuple #[.agg #[.int .i64 0, .int .i64 0, .string ⟨#[]⟩, .string ⟨#[]⟩, .int .i64 0, .int .i64 0, .int .i64 0], .int .i64 35])) ?_ rfl ⟨?_, ?_⟩; (rw [results_cell_tmp1 rfl]; go_simp))
        · rfl
        · repeat (first | (with_reducible exact HBX.out) | refine below_set ?_ _ _ (by omega) _)
    · skip
      have ej : (j == 0) = false := by simpa using hj
      have ej' : (j != 0) = true := by simpa using hj
      have hh : Pr.rd ⟨1, j, d⟩ = none := by rw [rd_1 j d hW, if_neg (fun x => hj x.1)]
      rw [hh]
      clear hj hsz
      have HW := Lib.hid (pwhole_walk 1 j d)
      rw [hW] at HW
      clear hW hh
      go_enter Tryd.func28, Tryd.ntmps28
      go_upto_region 2 with (fail)
      have H2 := Lib.hid (T3.new w #[.int .i64 1, .int .i64 j, .string d] #[.int .i64 0, .int .i64 0, .string ⟨#[]⟩, .string ⟨#[]⟩, .int .i64 0, .int .i64 0, .int .i64 0] #[.int .i64 1, .int .i64 j, .string ⟨#[]⟩, .string ⟨#[]⟩, .int .i64 0, .int .i64 0, .int .i64 0] 42 70 70)
      have p0 := H2.out.hp.cell 0; have p1 := H2.out.hp.cell 1; have p2 := H2.out.hp.cell 2
      simp only [List.getElem?_toArray, List.getElem?_cons_zero, List.getElem?_cons_succ] at p0 p1 p2
      generalize ((w.alloc (.cells #[.int .i64 1, .int .i64 j, .string d] 42)).alloc (.cells #[.int .i64 0, .int .i64 0, .string ⟨#[]⟩, .string ⟨#[]⟩, .int .i64 0, .int .i64 0, .int .i64 0] 70)).alloc (.cells #[.int .i64 1, .int .i64 j, .string ⟨#[]⟩, .string ⟨#[]⟩, .int .i64 0, .int .i64 0, .int .i64 0] 70) = w2 at *
      go_wp2_with fail
      (with_reducible refine (HW.out _).mono ?_)
      rintro e w3 ⟨rfl, hb⟩
      have HH := Lib.hid (H2.out.keep hb)
      clear p0 p1 p2 hb H2 HW
      have HBX := Lib.hid HH.out.hb
      have p0 := HH.out.hp.cell 0; have p1 := HH.out.hp.cell 1; have p2 := HH.out.hp.cell 2
      simp only [List.getElem?_toArray, List.getElem?_cons_zero, List.getElem?_cons_succ, List.setIfInBounds_toArray, List.set_cons_zero, List.set_cons_succ] at p0 p1 p2
      have a0 := HH.out.ha.cell 0; have a1 := HH.out.ha.cell 1; have a2 := HH.out.ha.cell 2; have a3 := HH.out.ha.cell 3; have a4 := HH.out.ha.cell 4; have a5 := HH.out.ha.cell 5; have a6 := HH.out.ha.cell 6
      have g2 := HH.out.ha.free 2; have g3 := HH.out.ha.free 3; have g4 := HH.out.ha.free 4; have g5 := HH.out.ha.free 5; have g6 := HH.out.ha.free 6
      simp only [List.getElem?_toArray, List.getElem?_cons_zero, List.getElem?_cons_succ, List.setIfInBounds_toArray, List.set_cons_zero, List.set_cons_succ] at a0 a1 a2 a3 a4 a5 a6
      have r0 := HH.out.hr.cell 0; have r1 := HH.out.hr.cell 1; have r2 := HH.out.hr.cell 2; have r3 := HH.out.hr.cell 3; have r4 := HH.out.hr.cell 4; have r5 := HH.out.hr.cell 5; have r6 := HH.out.hr.cell 6
      have f0 := HH.out.hr.free 0; have f1 := HH.out.hr.free 1; have f2 := HH.out.hr.free 2; have f3 := HH.out.hr.free 3; have f4 := HH.out.hr.free 4; have f5 := HH.out.hr.free 5; have f6 := HH.out.hr.free 6
      simp only [List.getElem?_toArray, List.getElem?_cons_zero, List.getElem?_cons_succ, List.setIfInBounds_toArray, List.set_cons_zero, List.set_cons_succ] at r0 r1 r2 r3 r4 r5 r6
      clear HH
      go_wp2
      ((try simp only [Exit.inBlock, Exit.then]); refine bodyPost_ret (v := (.tuple #[.agg #[.int .i64 0, .int .i64 0, .string ⟨#[]⟩, .string ⟨#[]⟩, .int .i64 0, .int .i64 0, .int .i64 0], .int .i64 35])) ?_ rfl ⟨?_, ?_⟩; (rw [results_cell_tmp1 rfl]; go_simp))
      · rfl
      · repeat (first | (with_reducible exact HBX.out) | refine below_set ?_ _ _ (by omega) _)
set_option maxRecDepth 100000 in
set_option maxHeartbeats 1600000 in
theorem pread2 (j : Int) (d : ByteArray) (w : World) : Calls Tryd.prog 28 #[.agg #[.int .i64 2, .int .i64 j, .string d]] w fun e w' => e = .returned (readV (Pr.rd ⟨2, j, d⟩)) ∧ Below w.heap.size w w' := by
  cases hW : Pr.whole ⟨2, j, d⟩ with
  | false =>
    have HK := Lib.hid (fun w => kind_walk d w)
    generalize (Pr.openK d).2 = lv at *
    generalize (Pr.openK d).1 = k at *
    have hh : Pr.rd ⟨2, j, d⟩ = none := by rw [rd_w _ hW]
    rw [hh]
    have HW := Lib.hid (pwhole_walk 2 j d)
    rw [hW] at HW
    clear hW hh
    go_enter Tryd.func28, Tryd.ntmps28
    go_upto_region 2 with (fail)
    have H2 := Lib.hid (T3.new w #[.int .i64 2, .int .i64 j, .string d] #[.int .i64 0, .int .i64 0, .string ⟨#[]⟩, .string ⟨#[]⟩, .int .i64 0, .int .i64 0, .int .i64 0] #[.int .i64 2, .int .i64 j, .string ⟨#[]⟩, .string ⟨#[]⟩, .int .i64 0, .int .i64 0, .int .i64 0] 42 70 70)
    have p0 := H2.out.hp.cell 0; have p1 := H2.out.hp.cell 1; have p2 := H2.out.hp.cell 2
    simp only [List.getElem?_toArray, List.getElem?_cons_zero, List.getElem?_cons_succ] at p0 p1 p2
    generalize ((w.alloc (.cells #[.int .i64 2, .int .i64 j, .string d] 42)).alloc (.cells #[.int .i64 0, .int .i64 0, .string ⟨#[]⟩, .string ⟨#[]⟩, .int .i64 0, .int .i64 0, .int .i64 0] 70)).alloc (.cells #[.int .i64 2, .int .i64 j, .string ⟨#[]⟩, .string ⟨#[]⟩, .int .i64 0, .int .i64 0, .int .i64 0] 70) = w2 at *
    go_wp2_with fail
    (with_reducible refine (HW.out _).mono ?_)
    rintro e w3 ⟨rfl, hb⟩
    have HH := Lib.hid (H2.out.keep hb)
    clear p0 p1 p2 hb H2 HW
    have p0 := HH.out.hp.cell 0; have p1 := HH.out.hp.cell 1; have p2 := HH.out.hp.cell 2
    simp only [List.getElem?_toArray, List.getElem?_cons_zero, List.getElem?_cons_succ, List.setIfInBounds_toArray, List.set_cons_zero, List.set_cons_succ] at p0 p1 p2
    go_wp2_with fail
    (with_reducible refine (HK.out _).mono ?_)
    rintro e w4 ⟨rfl, hb⟩
    have HH4 := Lib.hid (HH.out.keep hb)
    clear p0 p1 p2 hb HH HK
    have HH := HH4
    clear HH4
    have HBX := Lib.hid HH.out.hb
    have p0 := HH.out.hp.cell 0; have p1 := HH.out.hp.cell 1; have p2 := HH.out.hp.cell 2
    simp only [List.getElem?_toArray, List.getElem?_cons_zero, List.getElem?_cons_succ, List.setIfInBounds_toArray, List.set_cons_zero, List.set_cons_succ] at p0 p1 p2
    have a0 := HH.out.ha.cell 0; have a1 := HH.out.ha.cell 1; have a2 := HH.out.ha.cell 2; have a3 := HH.out.ha.cell 3; have a4 := HH.out.ha.cell 4; have a5 := HH.out.ha.cell 5; have a6 := HH.out.ha.cell 6
    have g2 := HH.out.ha.free 2; have g3 := HH.out.ha.free 3; have g4 := HH.out.ha.free 4; have g5 := HH.out.ha.free 5; have g6 := HH.out.ha.free 6
    simp only [List.getElem?_toArray, List.getElem?_cons_zero, List.getElem?_cons_succ, List.setIfInBounds_toArray, List.set_cons_zero, List.set_cons_succ] at a0 a1 a2 a3 a4 a5 a6
    have r0 := HH.out.hr.cell 0; have r1 := HH.out.hr.cell 1; have r2 := HH.out.hr.cell 2; have r3 := HH.out.hr.cell 3; have r4 := HH.out.hr.cell 4; have r5 := HH.out.hr.cell 5; have r6 := HH.out.hr.cell 6
    have f0 := HH.out.hr.free 0; have f1 := HH.out.hr.free 1; have f2 := HH.out.hr.free 2; have f3 := HH.out.hr.free 3; have f4 := HH.out.hr.free 4; have f5 := HH.out.hr.free 5; have f6 := HH.out.hr.free 6
    simp only [List.getElem?_toArray, List.getElem?_cons_zero, List.getElem?_cons_succ, List.setIfInBounds_toArray, List.set_cons_zero, List.set_cons_succ] at r0 r1 r2 r3 r4 r5 r6
    clear HH
    go_wp2
    ((try simp only [Exit.inBlock, Exit.then]); refine bodyPost_ret (v := (.tuple #[.agg #[.int .i64 0, .int .i64 0, .string ⟨#[]⟩, .string ⟨#[]⟩, .int .i64 0, .int .i64 0, .int .i64 0], .int .i64 35])) ?_ rfl ⟨?_, ?_⟩; (rw [results_cell_tmp1 rfl]; go_simp))
    · rfl
    · repeat (first | (with_reducible exact HBX.out) | refine below_set ?_ _ _ (by omega) _)
  | true =>
    have hrd := rd_2 j d hW
    have HK := Lib.hid (fun w => kind_walk d w)
    generalize (Pr.openK d).2 = lv at *
    generalize (Pr.openK d).1 = k at *
    by_cases hk : k = 0
    · have ek : (k != 0) = false := by rw [hk]; rfl
      rw [if_pos hk] at hrd
      have hh : Pr.rd ⟨2, j, d⟩ = none := by rw [hrd]
      rw [hh]
      clear hk hrd
      have HW := Lib.hid (pwhole_walk 2 j d)
      rw [hW] at HW
      clear hW hh
      go_enter Tryd.func28, Tryd.ntmps28
      go_upto_region 2 with (fail)
      have H2 := Lib.hid (T3.new w #[.int .i64 2, .int .i64 j, .string d] #[.int .i64 0, .int .i64 0, .string ⟨#[]⟩, .string ⟨#[]⟩, .int .i64 0, .int .i64 0, .int .i64 0] #[.int .i64 2, .int .i64 j, .string ⟨#[]⟩, .string ⟨#[]⟩, .int .i64 0, .int .i64 0, .int .i64 0] 42 70 70)
      have p0 := H2.out.hp.cell 0; have p1 := H2.out.hp.cell 1; have p2 := H2.out.hp.cell 2
      simp only [List.getElem?_toArray, List.getElem?_cons_zero, List.getElem?_cons_succ] at p0 p1 p2
      generalize ((w.alloc (.cells #[.int .i64 2, .int .i64 j, .string d] 42)).alloc (.cells #[.int .i64 0, .int .i64 0, .string ⟨#[]⟩, .string ⟨#[]⟩, .int .i64 0, .int .i64 0, .int .i64 0] 70)).alloc (.cells #[.int .i64 2, .int .i64 j, .string ⟨#[]⟩, .string ⟨#[]⟩, .int .i64 0, .int .i64 0, .int .i64 0] 70) = w2 at *
      go_wp2_with fail
      (with_reducible refine (HW.out _).mono ?_)
      rintro e w3 ⟨rfl, hb⟩
      have HH := Lib.hid (H2.out.keep hb)
      clear p0 p1 p2 hb H2 HW
      have p0 := HH.out.hp.cell 0; have p1 := HH.out.hp.cell 1; have p2 := HH.out.hp.cell 2
      simp only [List.getElem?_toArray, List.getElem?_cons_zero, List.getElem?_cons_succ, List.setIfInBounds_toArray, List.set_cons_zero, List.set_cons_succ] at p0 p1 p2
      go_wp2_with fail
      (with_reducible refine (HK.out _).mono ?_)
      rintro e w4 ⟨rfl, hb⟩
      have HH4 := Lib.hid (HH.out.keep hb)
      clear p0 p1 p2 hb HH HK
      have HH := HH4
      clear HH4
      have HBX := Lib.hid HH.out.hb
      have p0 := HH.out.hp.cell 0; have p1 := HH.out.hp.cell 1; have p2 := HH.out.hp.cell 2
      simp only [List.getElem?_toArray, List.getElem?_cons_zero, List.getElem?_cons_succ, List.setIfInBounds_toArray, List.set_cons_zero, List.set_cons_succ] at p0 p1 p2
      have a0 := HH.out.ha.cell 0; have a1 := HH.out.ha.cell 1; have a2 := HH.out.ha.cell 2; have a3 := HH.out.ha.cell 3; have a4 := HH.out.ha.cell 4; have a5 := HH.out.ha.cell 5; have a6 := HH.out.ha.cell 6
      have g2 := HH.out.ha.free 2; have g3 := HH.out.ha.free 3; have g4 := HH.out.ha.free 4; have g5 := HH.out.ha.free 5; have g6 := HH.out.ha.free 6
      simp only [List.getElem?_toArray, List.getElem?_cons_zero, List.getElem?_cons_succ, List.setIfInBounds_toArray, List.set_cons_zero, List.set_cons_succ] at a0 a1 a2 a3 a4 a5 a6
      have r0 := HH.out.hr.cell 0; have r1 := HH.out.hr.cell 1; have r2 := HH.out.hr.cell 2; have r3 := HH.out.hr.cell 3; have r4 := HH.out.hr.cell 4; have r5 := HH.out.hr.cell 5; have r6 := HH.out.hr.cell 6
      have f0 := HH.out.hr.free 0; have f1 := HH.out.hr.free 1; have f2 := HH.out.hr.free 2; have f3 := HH.out.hr.free 3; have f4 := HH.out.hr.free 4; have f5 := HH.out.hr.free 5; have f6 := HH.out.hr.free 6
      simp only [List.getElem?_toArray, List.getElem?_cons_zero, List.getElem?_cons_succ, List.setIfInBounds_toArray, List.set_cons_zero, List.set_cons_succ] at r0 r1 r2 r3 r4 r5 r6
      clear HH
      go_wp2
      ((try simp only [Exit.inBlock, Exit.then]); refine bodyPost_ret (v := (.tuple #[.agg #[.int .i64 0, .int .i64 0, .string ⟨#[]⟩, .string ⟨#[]⟩, .int .i64 0, .int .i64 0, .int .i64 0], .int .i64 35])) ?_ rfl ⟨?_, ?_⟩; (rw [results_cell_tmp1 rfl]; go_simp))
      · rfl
      · repeat (first | (with_reducible exact HBX.out) | refine below_set ?_ _ _ (by omega) _)
    · have ek : (k != 0) = true := by simpa using hk
      rw [if_neg hk] at hrd
      have hh : Pr.rd ⟨2, j, d⟩ = some ⟨2, j, Pr.e0, Pr.e0, k, lv, 0⟩ := by rw [hrd]
      rw [hh]
      clear hk hrd
      have HW := Lib.hid (pwhole_walk 2 j d)
      rw [hW] at HW
      clear hW hh
      go_enter Tryd.func28, Tryd.ntmps28
      go_upto_region 2 with (fail)
      have H2 := Lib.hid (T3.new w #[.int .i64 2, .int .i64 j, .string d] #[.int .i64 0, .int .i64 0, .string ⟨#[]⟩, .string ⟨#[]⟩, .int .i64 0, .int .i64 0, .int .i64 0] #[.int .i64 2, .int .i64 j, .string ⟨#[]⟩, .string ⟨#[]⟩, .int .i64 0, .int .i64 0, .int .i64 0] 42 70 70)
      have p0 := H2.out.hp.cell 0; have p1 := H2.out.hp.cell 1; have p2 := H2.out.hp.cell 2
      simp only [List.getElem?_toArray, List.getElem?_cons_zero, List.getElem?_cons_succ] at p0 p1 p2
      generalize ((w.alloc (.cells #[.int .i64 2, .int .i64 j, .string d] 42)).alloc (.cells #[.int .i64 0, .int .i64 0, .string ⟨#[]⟩, .string ⟨#[]⟩, .int .i64 0, .int .i64 0, .int .i64 0] 70)).alloc (.cells #[.int .i64 2, .int .i64 j, .string ⟨#[]⟩, .string ⟨#[]⟩, .int .i64 0, .int .i64 0, .int .i64 0] 70) = w2 at *
      go_wp2_with fail
      (with_reducible refine (HW.out _).mono ?_)
      rintro e w3 ⟨rfl, hb⟩
      have HH := Lib.hid (H2.out.keep hb)
      clear p0 p1 p2 hb H2 HW
      have p0 := HH.out.hp.cell 0; have p1 := HH.out.hp.cell 1; have p2 := HH.out.hp.cell 2
      simp only [List.getElem?_toArray, List.getElem?_cons_zero, List.getElem?_cons_succ, List.setIfInBounds_toArray, List.set_cons_zero, List.set_cons_succ] at p0 p1 p2
      go_wp2_with fail
      (with_reducible refine (HK.out _).mono ?_)
      rintro e w4 ⟨rfl, hb⟩
      have HH4 := Lib.hid (HH.out.keep hb)
      clear p0 p1 p2 hb HH HK
      have HH := HH4
      clear HH4
      have HBX := Lib.hid HH.out.hb
      have p0 := HH.out.hp.cell 0; have p1 := HH.out.hp.cell 1; have p2 := HH.out.hp.cell 2
      simp only [List.getElem?_toArray, List.getElem?_cons_zero, List.getElem?_cons_succ, List.setIfInBounds_toArray, List.set_cons_zero, List.set_cons_succ] at p0 p1 p2
      have a0 := HH.out.ha.cell 0; have a1 := HH.out.ha.cell 1; have a2 := HH.out.ha.cell 2; have a3 := HH.out.ha.cell 3; have a4 := HH.out.ha.cell 4; have a5 := HH.out.ha.cell 5; have a6 := HH.out.ha.cell 6
      have g2 := HH.out.ha.free 2; have g3 := HH.out.ha.free 3; have g4 := HH.out.ha.free 4; have g5 := HH.out.ha.free 5; have g6 := HH.out.ha.free 6
      simp only [List.getElem?_toArray, List.getElem?_cons_zero, List.getElem?_cons_succ, List.setIfInBounds_toArray, List.set_cons_zero, List.set_cons_succ] at a0 a1 a2 a3 a4 a5 a6
      have r0 := HH.out.hr.cell 0; have r1 := HH.out.hr.cell 1; have r2 := HH.out.hr.cell 2; have r3 := HH.out.hr.cell 3; have r4 := HH.out.hr.cell 4; have r5 := HH.out.hr.cell 5; have r6 := HH.out.hr.cell 6
      have f0 := HH.out.hr.free 0; have f1 := HH.out.hr.free 1; have f2 := HH.out.hr.free 2; have f3 := HH.out.hr.free 3; have f4 := HH.out.hr.free 4; have f5 := HH.out.hr.free 5; have f6 := HH.out.hr.free 6
      simp only [List.getElem?_toArray, List.getElem?_cons_zero, List.getElem?_cons_succ, List.setIfInBounds_toArray, List.set_cons_zero, List.set_cons_succ] at r0 r1 r2 r3 r4 r5 r6
      clear HH
      go_wp2
      ((try simp only [Exit.inBlock, Exit.then]); refine bodyPost_ret (v := (.tuple #[.agg #[.int .i64 2, .int .i64 j, .string ⟨#[]⟩, .string ⟨#[]⟩, .int .i64 k, .int .i64 lv, .int .i64 0], .int .i64 0])) ?_ rfl ⟨?_, ?_⟩; (rw [results_cell_tmp1 rfl]; go_simp))
      · rfl
      · repeat (first | (with_reducible exact HBX.out) | refine below_set ?_ _ _ (by omega) _)
set_option maxRecDepth 100000 in
set_option maxHeartbeats 1600000 in
theorem pread3 (j : Int) (d : ByteArray) (w : World) : Calls Tryd.prog 28 #[.agg #[.int .i64 3, .int .i64 j, .string d]] w fun e w' => e = .returned (readV (Pr.rd ⟨3, j, d⟩)) ∧ Below w.heap.size w w' := by
  cases hW : Pr.whole ⟨3, j, d⟩ with
  | false =>
    have hh : Pr.rd ⟨3, j, d⟩ = none := by rw [rd_w _ hW]
    rw [hh]
    have HW := Lib.hid (pwhole_walk 3 j d)
    rw [hW] at HW
    clear hW hh
    go_enter Tryd.func28, Tryd.ntmps28
    go_upto_region 2 with (fail)
    have H2 := Lib.hid (T3.new w #[.int .i64 3, .int .i64 j, .string d] #[.int .i64 0, .int .i64 0, .string ⟨#[]⟩, .string ⟨#[]⟩, .int .i64 0, .int .i64 0, .int .i64 0] #[.int .i64 3, .int .i64 j, .string ⟨#[]⟩, .string ⟨#[]⟩, .int .i64 0, .int .i64 0, .int .i64 0] 42 70 70)
    have p0 := H2.out.hp.cell 0; have p1 := H2.out.hp.cell 1; have p2 := H2.out.hp.cell 2
    simp only [List.getElem?_toArray, List.getElem?_cons_zero, List.getElem?_cons_succ] at p0 p1 p2
    generalize ((w.alloc (.cells #[.int .i64 3, .int .i64 j, .string d] 42)).alloc (.cells #[.int .i64 0, .int .i64 0, .string ⟨#[]⟩, .string ⟨#[]⟩, .int .i64 0, .int .i64 0, .int .i64 0] 70)).alloc (.cells #[.int .i64 3, .int .i64 j, .string ⟨#[]⟩, .string ⟨#[]⟩, .int .i64 0, .int .i64 0, .int .i64 0] 70) = w2 at *
    go_wp2_with fail
    (with_reducible refine (HW.out _).mono ?_)
    rintro e w3 ⟨rfl, hb⟩
    have HH := Lib.hid (H2.out.keep hb)
    clear p0 p1 p2 hb H2 HW
    have HBX := Lib.hid HH.out.hb
    have p0 := HH.out.hp.cell 0; have p1 := HH.out.hp.cell 1; have p2 := HH.out.hp.cell 2
    simp only [List.getElem?_toArray, List.getElem?_cons_zero, List.getElem?_cons_succ, List.setIfInBounds_toArray, List.set_cons_zero, List.set_cons_succ] at p0 p1 p2
    have a0 := HH.out.ha.cell 0; have a1 := HH.out.ha.cell 1; have a2 := HH.out.ha.cell 2; have a3 := HH.out.ha.cell 3; have a4 := HH.out.ha.cell 4; have a5 := HH.out.ha.cell 5; have a6 := HH.out.ha.cell 6
    have g2 := HH.out.ha.free 2; have g3 := HH.out.ha.free 3; have g4 := HH.out.ha.free 4; have g5 := HH.out.ha.free 5; have g6 := HH.out.ha.free 6
    simp only [List.getElem?_toArray, List.getElem?_cons_zero, List.getElem?_cons_succ, List.setIfInBounds_toArray, List.set_cons_zero, List.set_cons_succ] at a0 a1 a2 a3 a4 a5 a6
    have r0 := HH.out.hr.cell 0; have r1 := HH.out.hr.cell 1; have r2 := HH.out.hr.cell 2; have r3 := HH.out.hr.cell 3; have r4 := HH.out.hr.cell 4; have r5 := HH.out.hr.cell 5; have r6 := HH.out.hr.cell 6
    have f0 := HH.out.hr.free 0; have f1 := HH.out.hr.free 1; have f2 := HH.out.hr.free 2; have f3 := HH.out.hr.free 3; have f4 := HH.out.hr.free 4; have f5 := HH.out.hr.free 5; have f6 := HH.out.hr.free 6
    simp only [List.getElem?_toArray, List.getElem?_cons_zero, List.getElem?_cons_succ, List.setIfInBounds_toArray, List.set_cons_zero, List.set_cons_succ] at r0 r1 r2 r3 r4 r5 r6
    clear HH
    go_wp2
    ((try simp only [Exit.inBlock, Exit.then]); refine bodyPost_ret (v := (.tuple #[.agg #[.int .i64 0, .int .i64 0, .string ⟨#[]⟩, .string ⟨#[]⟩, .int .i64 0, .int .i64 0, .int .i64 0], .int .i64 35])) ?_ rfl ⟨?_, ?_⟩; (rw [results_cell_tmp1 rfl]; go_simp))
    · rfl
    · repeat (first | (with_reducible exact HBX.out) | refine below_set ?_ _ _ (by omega) _)
  | true =>
    have hh : Pr.rd ⟨3, j, d⟩ = some ⟨3, j, Pr.e0, d, 0, 0, 0⟩ := by rw [rd_3 j d hW]
    rw [hh]
    have HW := Lib.hid (pwhole_walk 3 j d)
    rw [hW] at HW
    clear hW hh
    go_enter Tryd.func28, Tryd.ntmps28
    go_upto_region 2 with (fail)
    have H2 := Lib.hid (T3.new w #[.int .i64 3, .int .i64 j, .string d] #[.int .i64 0, .int .i64 0, .string ⟨#[]⟩, .string ⟨#[]⟩, .int .i64 0, .int .i64 0, .int .i64 0] #[.int .i64 3, .int .i64 j, .string ⟨#[]⟩, .string ⟨#[]⟩, .int .i64 0, .int .i64 0, .int .i64 0] 42 70 70)
    have p0 := H2.out.hp.cell 0; have p1 := H2.out.hp.cell 1; have p2 := H2.out.hp.cell 2
    simp only [List.getElem?_toArray, List.getElem?_cons_zero, List.getElem?_cons_succ] at p0 p1 p2
    generalize ((w.alloc (.cells #[.int .i64 3, .int .i64 j, .string d] 42)).alloc (.cells #[.int .i64 0, .int .i64 0, .string ⟨#[]⟩, .string ⟨#[]⟩, .int .i64 0, .int .i64 0, .int .i64 0] 70)).alloc (.cells #[.int .i64 3, .int .i64 j, .string ⟨#[]⟩, .string ⟨#[]⟩, .int .i64 0, .int .i64 0, .int .i64 0] 70) = w2 at *
    go_wp2_with fail
    (with_reducible refine (HW.out _).mono ?_)
    rintro e w3 ⟨rfl, hb⟩
    have HH := Lib.hid (H2.out.keep hb)
    clear p0 p1 p2 hb H2 HW
    have HBX := Lib.hid HH.out.hb
    have p0 := HH.out.hp.cell 0; have p1 := HH.out.hp.cell 1; have p2 := HH.out.hp.cell 2
    simp only [List.getElem?_toArray, List.getElem?_cons_zero, List.getElem?_cons_succ, List.setIfInBounds_toArray, List.set_cons_zero, List.set_cons_succ] at p0 p1 p2
    have a0 := HH.out.ha.cell 0; have a1 := HH.out.ha.cell 1; have a2 := HH.out.ha.cell 2; have a3 := HH.out.ha.cell 3; have a4 := HH.out.ha.cell 4; have a5 := HH.out.ha.cell 5; have a6 := HH.out.ha.cell 6
    have g2 := HH.out.ha.free 2; have g3 := HH.out.ha.free 3; have g4 := HH.out.ha.free 4; have g5 := HH.out.ha.free 5; have g6 := HH.out.ha.free 6
    simp only [List.getElem?_toArray, List.getElem?_cons_zero, List.getElem?_cons_succ, List.setIfInBounds_toArray, List.set_cons_zero, List.set_cons_succ] at a0 a1 a2 a3 a4 a5 a6
    have r0 := HH.out.hr.cell 0; have r1 := HH.out.hr.cell 1; have r2 := HH.out.hr.cell 2; have r3 := HH.out.hr.cell 3; have r4 := HH.out.hr.cell 4; have r5 := HH.out.hr.cell 5; have r6 := HH.out.hr.cell 6
    have f0 := HH.out.hr.free 0; have f1 := HH.out.hr.free 1; have f2 := HH.out.hr.free 2; have f3 := HH.out.hr.free 3; have f4 := HH.out.hr.free 4; have f5 := HH.out.hr.free 5; have f6 := HH.out.hr.free 6
    simp only [List.getElem?_toArray, List.getElem?_cons_zero, List.getElem?_cons_succ, List.setIfInBounds_toArray, List.set_cons_zero, List.set_cons_succ] at r0 r1 r2 r3 r4 r5 r6
    clear HH
    go_wp2
    ((try simp only [Exit.inBlock, Exit.then]); refine bodyPost_ret (v := (.tuple #[.agg #[.int .i64 3, .int .i64 j, .string ⟨#[]⟩, .string d, .int .i64 0, .int .i64 0, .int .i64 0], .int .i64 0])) ?_ rfl ⟨?_, ?_⟩; (rw [results_cell_tmp1 rfl]; go_simp))
    · rfl
    · repeat (first | (with_reducible exact HBX.out) | refine below_set ?_ _ _ (by omega) _)
set_option maxRecDepth 100000 in
set_option maxHeartbeats 1600000 in
theorem pread4 (j : Int) (d : ByteArray) (w : World) : Calls Tryd.prog 28 #[.agg #[.int .i64 4, .int .i64 j, .string d]] w fun e w' => e = .returned (readV (Pr.rd ⟨4, j, d⟩)) ∧ Below w.heap.size w w' := by
  cases hW : Pr.whole ⟨4, j, d⟩ with
  | false =>
    have hh : Pr.rd ⟨4, j, d⟩ = none := by rw [rd_w _ hW]
    rw [hh]
    have HW := Lib.hid (pwhole_walk 4 j d)
    rw [hW] at HW
    clear hW hh
    go_enter Tryd.func28, Tryd.ntmps28
    go_upto_region 2 with (fail)
    have H2 := Lib.hid (T3.new w #[.int .i64 4, .int .i64 j, .string d] #[.int .i64 0, .int .i64 0, .string ⟨#[]⟩, .string ⟨#[]⟩, .int .i64 0, .int .i64 0, .int .i64 0] #[.int .i64 4, .int .i64 j, .string ⟨#[]⟩, .string ⟨#[]⟩, .int .i64 0, .int .i64 0, .int .i64 0] 42 70 70)
    have p0 := H2.out.hp.cell 0; have p1 := H2.out.hp.cell 1; have p2 := H2.out.hp.cell 2
    simp only [List.getElem?_toArray, List.getElem?_cons_zero, List.getElem?_cons_succ] at p0 p1 p2
    generalize ((w.alloc (.cells #[.int .i64 4, .int .i64 j, .string d] 42)).alloc (.cells #[.int .i64 0, .int .i64 0, .string ⟨#[]⟩, .string ⟨#[]⟩, .int .i64 0, .int .i64 0, .int .i64 0] 70)).alloc (.cells #[.int .i64 4, .int .i64 j, .string ⟨#[]⟩, .string ⟨#[]⟩, .int .i64 0, .int .i64 0, .int .i64 0] 70) = w2 at *
    go_wp2_with fail
    (with_reducible refine (HW.out _).mono ?_)
    rintro e w3 ⟨rfl, hb⟩
    have HH := Lib.hid (H2.out.keep hb)
    clear p0 p1 p2 hb H2 HW
    have HBX := Lib.hid HH.out.hb
    have p0 := HH.out.hp.cell 0; have p1 := HH.out.hp.cell 1; have p2 := HH.out.hp.cell 2
    simp only [List.getElem?_toArray, List.getElem?_cons_zero, List.getElem?_cons_succ, List.setIfInBounds_toArray, List.set_cons_zero, List.set_cons_succ] at p0 p1 p2
    have a0 := HH.out.ha.cell 0; have a1 := HH.out.ha.cell 1; have a2 := HH.out.ha.cell 2; have a3 := HH.out.ha.cell 3; have a4 := HH.out.ha.cell 4; have a5 := HH.out.ha.cell 5; have a6 := HH.out.ha.cell 6
    have g2 := HH.out.ha.free 2; have g3 := HH.out.ha.free 3; have g4 := HH.out.ha.free 4; have g5 := HH.out.ha.free 5; have g6 := HH.out.ha.free 6
    simp only [List.getElem?_toArray, List.getElem?_cons_zero, List.getElem?_cons_succ, List.setIfInBounds_toArray, List.set_cons_zero, List.set_cons_succ] at a0 a1 a2 a3 a4 a5 a6
    have r0 := HH.out.hr.cell 0; have r1 := HH.out.hr.cell 1; have r2 := HH.out.hr.cell 2; have r3 := HH.out.hr.cell 3; have r4 := HH.out.hr.cell 4; have r5 := HH.out.hr.cell 5; have r6 := HH.out.hr.cell 6
    have f0 := HH.out.hr.free 0; have f1 := HH.out.hr.free 1; have f2 := HH.out.hr.free 2; have f3 := HH.out.hr.free 3; have f4 := HH.out.hr.free 4; have f5 := HH.out.hr.free 5; have f6 := HH.out.hr.free 6
    simp only [List.getElem?_toArray, List.getElem?_cons_zero, List.getElem?_cons_succ, List.setIfInBounds_toArray, List.set_cons_zero, List.set_cons_succ] at r0 r1 r2 r3 r4 r5 r6
    clear HH
    go_wp2
    ((try simp only [Exit.inBlock, Exit.then]); refine bodyPost_ret (v := (.tuple #[.agg #[.int .i64 0, .int .i64 0, .string ⟨#[]⟩, .string ⟨#[]⟩, .int .i64 0, .int .i64 0, .int .i64 0], .int .i64 35])) ?_ rfl ⟨?_, ?_⟩; (rw [results_cell_tmp1 rfl]; go_simp))
    · rfl
    · repeat (first | (with_reducible exact HBX.out) | refine below_set ?_ _ _ (by omega) _)
  | true =>
    by_cases hs : d.size = 0
    · skip
      have es : d.toList.isEmpty = true := by rw [sempty, decide_eq_true hs]
      have hh : Pr.rd ⟨4, j, d⟩ = some ⟨4, j, Pr.e0, Pr.e0, 0, 0, 0⟩ := by rw [rd_4 j d hW, if_pos hs]
      rw [hh]
      clear hs
      have HW := Lib.hid (pwhole_walk 4 j d)
      rw [hW] at HW
      clear hW hh
      go_enter Tryd.func28, Tryd.ntmps28
      go_upto_region 2 with (fail)
      have H2 := Lib.hid (T3.new w #[.int .i64 4, .int .i64 j, .string d] #[.int .i64 0, .int .i64 0, .string ⟨#[]⟩, .string ⟨#[]⟩, .int .i64 0, .int .i64 0, .int .i64 0] #[.int .i64 4, .int .i64 j, .string ⟨#[]⟩, .string ⟨#[]⟩, .int .i64 0, .int .i64 0, .int .i64 0] 42 70 70)
      have p0 := H2.out.hp.cell 0; have p1 := H2.out.hp.cell 1; have p2 := H2.out.hp.cell 2
      simp only [List.getElem?_toArray, List.getElem?_cons_zero, List.getElem?_cons_succ] at p0 p1 p2
      generalize ((w.alloc (.cells #[.int .i64 4, .int .i64 j, .string d] 42)).alloc (.cells #[.int .i64 0, .int .i64 0, .string ⟨#[]⟩, .string ⟨#[]⟩, .int .i64 0, .int .i64 0, .int .i64 0] 70)).alloc (.cells #[.int .i64 4, .int .i64 j, .string ⟨#[]⟩, .string ⟨#[]⟩, .int .i64 0, .int .i64 0, .int .i64 0] 70) = w2 at *
      go_wp2_with fail
      (with_reducible refine (HW.out _).mono ?_)
      rintro e w3 ⟨rfl, hb⟩
      have HH := Lib.hid (H2.out.keep hb)
      clear p0 p1 p2 hb H2 HW
      have HBX := Lib.hid HH.out.hb
      have p0 := HH.out.hp.cell 0; have p1 := HH.out.hp.cell 1; have p2 := HH.out.hp.cell 2
      simp only [List.getElem?_toArray, List.getElem?_cons_zero, List.getElem?_cons_succ, List.setIfInBounds_toArray, List.set_cons_zero, List.set_cons_succ] at p0 p1 p2
      have a0 := HH.out.ha.cell 0; have a1 := HH.out.ha.cell 1; have a2 := HH.out.ha.cell 2; have a3 := HH.out.ha.cell 3; have a4 := HH.out.ha.cell 4; have a5 := HH.out.ha.cell 5; have a6 := HH.out.ha.cell 6
      have g2 := HH.out.ha.free 2; have g3 := HH.out.ha.free 3; have g4 := HH.out.ha.free 4; have g5 := HH.out.ha.free 5; have g6 := HH.out.ha.free 6
      simp only [List.getElem?_toArray, List.getElem?_cons_zero, List.getElem?_cons_succ, List.setIfInBounds_toArray, List.set_cons_zero, List.set_cons_succ] at a0 a1 a2 a3 a4 a5 a6
      have r0 := HH.out.hr.cell 0; have r1 := HH.out.hr.cell 1; have r2 := HH.out.hr.cell 2; have r3 := HH.out.hr.cell 3; have r4 := HH.out.hr.cell 4; have r5 := HH.out.hr.cell 5; have r6 := HH.out.hr.cell 6
      have f0 := HH.out.hr.free 0; have f1 := HH.out.hr.free 1; have f2 := HH.out.hr.free 2; have f3 := HH.out.hr.free 3; have f4 := HH.out.hr.free 4; have f5 := HH.out.hr.free 5; have f6 := HH.out.hr.free 6
      simp only [List.getElem?_toArray, List.getElem?_cons_zero, List.getElem?_cons_succ, List.setIfInBounds_toArray, List.set_cons_zero, List.set_cons_succ] at r0 r1 r2 r3 r4 r5 r6
      clear HH
      go_wp2
      ((try simp only [Exit.inBlock, Exit.then]); refine bodyPost_ret (v := (.tuple #[.agg #[.int .i64 4, .int .i64 j, .string ⟨#[]⟩, .string ⟨#[]⟩, .int .i64 0, .int .i64 0, .int .i64 0], .int .i64 0])) ?_ rfl ⟨?_, ?_⟩; (rw [results_cell_tmp1 rfl]; go_simp))
      · rfl
      · repeat (first | (with_reducible exact HBX.out) | refine below_set ?_ _ _ (by omega) _)
    · skip
      have es : d.toList.isEmpty = false := by rw [sempty, decide_eq_false hs]
      have hh : Pr.rd ⟨4, j, d⟩ = none := by rw [rd_4 j d hW, if_neg hs]
      rw [hh]
      clear hs
      have HW := Lib.hid (pwhole_walk 4 j d)
      rw [hW] at HW
      clear hW hh
      go_enter Tryd.func28, Tryd.ntmps28
      go_upto_region 2 with (fail)
      have H2 := Lib.hid (T3.new w #[.int .i64 4, .int .i64 j, .string d] #[.int .i64 0, .int .i64 0, .string ⟨#[]⟩, .string ⟨#[]⟩, .int .i64 0, .int .i64 0, .int .i64 0] #[.int .i64 4, .int .i64 j, .string ⟨#[]⟩, .string ⟨#[]⟩, .int .i64 0, .int .i64 0, .int .i64 0] 42 70 70)
      have p0 := H2.out.hp.cell 0; have p1 := H2.out.hp.cell 1; have p2 := H2.out.hp.cell 2
      simp only [List.getElem?_toArray, List.getElem?_cons_zero, List.getElem?_cons_succ] at p0 p1 p2
      generalize ((w.alloc (.cells #[.int .i64 4, .int .i64 j, .string d] 42)).alloc (.cells #[.int .i64 0, .int .i64 0, .string ⟨#[]⟩, .string ⟨#[]⟩, .int .i64 0, .int .i64 0, .int .i64 0] 70)).alloc (.cells #[.int .i64 4, .int .i64 j, .string ⟨#[]⟩, .string ⟨#[]⟩, .int .i64 0, .int .i64 0, .int .i64 0] 70) = w2 at *
      go_wp2_with fail
      (with_reducible refine (HW.out _).mono ?_)
      rintro e w3 ⟨rfl, hb⟩
      have HH := Lib.hid (H2.out.keep hb)
      clear p0 p1 p2 hb H2 HW
      have HBX := Lib.hid HH.out.hb
      have p0 := HH.out.hp.cell 0; have p1 := HH.out.hp.cell 1; have p2 := HH.out.hp.cell 2
      simp only [List.getElem?_toArray, List.getElem?_cons_zero, List.getElem?_cons_succ, List.setIfInBounds_toArray, List.set_cons_zero, List.set_cons_succ] at p0 p1 p2
      have a0 := HH.out.ha.cell 0; have a1 := HH.out.ha.cell 1; have a2 := HH.out.ha.cell 2; have a3 := HH.out.ha.cell 3; have a4 := HH.out.ha.cell 4; have a5 := HH.out.ha.cell 5; have a6 := HH.out.ha.cell 6
      have g2 := HH.out.ha.free 2; have g3 := HH.out.ha.free 3; have g4 := HH.out.ha.free 4; have g5 := HH.out.ha.free 5; have g6 := HH.out.ha.free 6
      simp only [List.getElem?_toArray, List.getElem?_cons_zero, List.getElem?_cons_succ, List.setIfInBounds_toArray, List.set_cons_zero, List.set_cons_succ] at a0 a1 a2 a3 a4 a5 a6
      have r0 := HH.out.hr.cell 0; have r1 := HH.out.hr.cell 1; have r2 := HH.out.hr.cell 2; have r3 := HH.out.hr.cell 3; have r4 := HH.out.hr.cell 4; have r5 := HH.out.hr.cell 5; have r6 := HH.out.hr.cell 6
      have f0 := HH.out.hr.free 0; have f1 := HH.out.hr.free 1; have f2 := HH.out.hr.free 2; have f3 := HH.out.hr.free 3; have f4 := HH.out.hr.free 4; have f5 := HH.out.hr.free 5; have f6 := HH.out.hr.free 6
      simp only [List.getElem?_toArray, List.getElem?_cons_zero, List.getElem?_cons_succ, List.setIfInBounds_toArray, List.set_cons_zero, List.set_cons_succ] at r0 r1 r2 r3 r4 r5 r6
      clear HH
      go_wp2
      ((try simp only [Exit.inBlock, Exit.then]); refine bodyPost_ret (v := (.tuple #[.agg #[.int .i64 0, .int .i64 0, .string ⟨#[]⟩, .string ⟨#[]⟩, .int .i64 0, .int .i64 0, .int .i64 0], .int .i64 35])) ?_ rfl ⟨?_, ?_⟩; (rw [results_cell_tmp1 rfl]; go_simp))
      · rfl
      · repeat (first | (with_reducible exact HBX.out) | refine below_set ?_ _ _ (by omega) _)
set_option maxRecDepth 100000 in
set_option maxHeartbeats 1600000 in
theorem pread5 (j : Int) (d : ByteArray) (w : World) : Calls Tryd.prog 28 #[.agg #[.int .i64 5, .int .i64 j, .string d]] w fun e w' => e = .returned (readV (Pr.rd ⟨5, j, d⟩)) ∧ Below w.heap.size w w' := by
  cases hW : Pr.whole ⟨5, j, d⟩ with
  | false =>
    have hh : Pr.rd ⟨5, j, d⟩ = none := by rw [rd_w _ hW]
    rw [hh]
    have HW := Lib.hid (pwhole_walk 5 j d)
    rw [hW] at HW
    clear hW hh
    go_enter Tryd.func28, Tryd.ntmps28
    go_upto_region 2 with (fail)
    have H2 := Lib.hid (T3.new w #[.int .i64 5, .int .i64 j, .string d] #[.int .i64 0, .int .i64 0, .string ⟨#[]⟩, .string ⟨#[]⟩, .int .i64 0, .int .i64 0, .int .i64 0] #[.int .i64 5, .int .i64 j, .string ⟨#[]⟩, .string ⟨#[]⟩, .int .i64 0, .int .i64 0, .int .i64 0] 42 70 70)
    have p0 := H2.out.hp.cell 0; have p1 := H2.out.hp.cell 1; have p2 := H2.out.hp.cell 2
    simp only [List.getElem?_toArray, List.getElem?_cons_zero, List.getElem?_cons_succ] at p0 p1 p2
    generalize ((w.alloc (.cells #[.int .i64 5, .int .i64 j, .string d] 42)).alloc (.cells #[.int .i64 0, .int .i64 0, .string ⟨#[]⟩, .string ⟨#[]⟩, .int .i64 0, .int .i64 0, .int .i64 0] 70)).alloc (.cells #[.int .i64 5, .int .i64 j, .string ⟨#[]⟩, .string ⟨#[]⟩, .int .i64 0, .int .i64 0, .int .i64 0] 70) = w2 at *
    go_wp2_with fail
    (with_reducible refine (HW.out _).mono ?_)
    rintro e w3 ⟨rfl, hb⟩
    have HH := Lib.hid (H2.out.keep hb)
    clear p0 p1 p2 hb H2 HW
    have HBX := Lib.hid HH.out.hb
    have p0 := HH.out.hp.cell 0; have p1 := HH.out.hp.cell 1; have p2 := HH.out.hp.cell 2
    simp only [List.getElem?_toArray, List.getElem?_cons_zero, List.getElem?_cons_succ, List.setIfInBounds_toArray, List.set_cons_zero, List.set_cons_succ] at p0 p1 p2
    have a0 := HH.out.ha.cell 0; have a1 := HH.out.ha.cell 1; have a2 := HH.out.ha.cell 2; have a3 := HH.out.ha.cell 3; have a4 := HH.out.ha.cell 4; have a5 := HH.out.ha.cell 5; have a6 := HH.out.ha.cell 6
    have g2 := HH.out.ha.free 2; have g3 := HH.out.ha.free 3; have g4 := HH.out.ha.free 4; have g5 := HH.out.ha.free 5; have g6 := HH.out.ha.free 6
    simp only [List.getElem?_toArray, List.getElem?_cons_zero, List.getElem?_cons_succ, List.setIfInBounds_toArray, List.set_cons_zero, List.set_cons_succ] at a0 a1 a2 a3 a4 a5 a6
    have r0 := HH.out.hr.cell 0; have r1 := HH.out.hr.cell 1; have r2 := HH.out.hr.cell 2; have r3 := HH.out.hr.cell 3; have r4 := HH.out.hr.cell 4; have r5 := HH.out.hr.cell 5; have r6 := HH.out.hr.cell 6
    have f0 := HH.out.hr.free 0; have f1 := HH.out.hr.free 1; have f2 := HH.out.hr.free 2; have f3 := HH.out.hr.free 3; have f4 := HH.out.hr.free 4; have f5 := HH.out.hr.free 5; have f6 := HH.out.hr.free 6
    simp only [List.getElem?_toArray, List.getElem?_cons_zero, List.getElem?_cons_succ, List.setIfInBounds_toArray, List.set_cons_zero, List.set_cons_succ] at r0 r1 r2 r3 r4 r5 r6
    clear HH
    go_wp2
    ((try simp only [Exit.inBlock, Exit.then]); refine bodyPost_ret (v := (.tuple #[.agg #[.int .i64 0, .int .i64 0, .string ⟨#[]⟩, .string ⟨#[]⟩, .int .i64 0, .int .i64 0, .int .i64 0], .int .i64 35])) ?_ rfl ⟨?_, ?_⟩; (rw [results_cell_tmp1 rfl]; go_simp))
    · rfl
    · repeat (first | (with_reducible exact HBX.out) | refine below_set ?_ _ _ (by omega) _)
  | true =>
    by_cases hs : d.size = 0
    · skip
      have es : d.toList.isEmpty = true := by rw [sempty, decide_eq_true hs]
      have hh : Pr.rd ⟨5, j, d⟩ = some ⟨5, j, Pr.e0, Pr.e0, 0, 0, 0⟩ := by rw [rd_5 j d hW, if_pos hs]
      rw [hh]
      clear hs
      have HW := Lib.hid (pwhole_walk 5 j d)
      rw [hW] at HW
      clear hW hh
      go_enter Tryd.func28, Tryd.ntmps28
      go_upto_region 2 with (fail)
      have H2 := Lib.hid (T3.new w #[.int .i64 5, .int .i64 j, .string d] #[.int .i64 0, .int .i64 0, .string ⟨#[]⟩, .string ⟨#[]⟩, .int .i64 0, .int .i64 0, .int .i64 0] #[.int .i64 5, .int .i64 j, .string ⟨#[]⟩, .string ⟨#[]⟩, .int .i64 0, .int .i64 0, .int .i64 0] 42 70 70)
      have p0 := H2.out.hp.cell 0; have p1 := H2.out.hp.cell 1; have p2 := H2.out.hp.cell 2
      simp only [List.getElem?_toArray, List.getElem?_cons_zero, List.getElem?_cons_succ] at p0 p1 p2
      generalize ((w.alloc (.cells #[.int .i64 5, .int .i64 j, .string d] 42)).alloc (.cells #[.int .i64 0, .int .i64 0, .string ⟨#[]⟩, .string ⟨#[]⟩, .int .i64 0, .int .i64 0, .int .i64 0] 70)).alloc (.cells #[.int .i64 5, .int .i64 j, .string ⟨#[]⟩, .string ⟨#[]⟩, .int .i64 0, .int .i64 0, .int .i64 0] 70) = w2 at *
      go_wp2_with fail
      (with_reducible refine (HW.out _).mono ?_)
      rintro e w3 ⟨rfl, hb⟩
      have HH := Lib.hid (H2.out.keep hb)
      clear p0 p1 p2 hb H2 HW
      have HBX := Lib.hid HH.out.hb
      have p0 := HH.out.hp.cell 0; have p1 := HH.out.hp.cell 1; have p2 := HH.out.hp.cell 2
      simp only [List.getElem?_toArray, List.getElem?_cons_zero, List.getElem?_cons_succ, List.setIfInBounds_toArray, List.set_cons_zero, List.set_cons_succ] at p0 p1 p2
      have a0 := HH.out.ha.cell 0; have a1 := HH.out.ha.cell 1; have a2 := HH.out.ha.cell 2; have a3 := HH.out.ha.cell 3; have a4 := HH.out.ha.cell 4; have a5 := HH.out.ha.cell 5; have a6 := HH.out.ha.cell 6
      have g2 := HH.out.ha.free 2; have g3 := HH.out.ha.free 3; have g4 := HH.out.ha.free 4; have g5 := HH.out.ha.free 5; have g6 := HH.out.ha.free 6
      simp only [List.getElem?_toArray, List.getElem?_cons_zero, List.getElem?_cons_succ, List.setIfInBounds_toArray, List.set_cons_zero, List.set_cons_succ] at a0 a1 a2 a3 a4 a5 a6
      have r0 := HH.out.hr.cell 0; have r1 := HH.out.hr.cell 1; have r2 := HH.out.hr.cell 2; have r3 := HH.out.hr.cell 3; have r4 := HH.out.hr.cell 4; have r5 := HH.out.hr.cell 5; have r6 := HH.out.hr.cell 6
      have f0 := HH.out.hr.free 0; have f1 := HH.out.hr.free 1; have f2 := HH.out.hr.free 2; have f3 := HH.out.hr.free 3; have f4 := HH.out.hr.free 4; have f5 := HH.out.hr.free 5; have f6 := HH.out.hr.free 6
      simp only [List.getElem?_toArray, List.getElem?_cons_zero, List.getElem?_cons_succ, List.setIfInBounds_toArray, List.set_cons_zero, List.set_cons_succ] at r0 r1 r2 r3 r4 r5 r6
      clear HH
      go_wp2
      ((try simp only [Exit.inBlock, Exit.then]); refine bodyPost_ret (v := (.tuple #[.agg #[.int .i64 5, .int .i64 j, .string ⟨#[]⟩, .string ⟨#[]⟩, .int .i64 0, .int .i64 0, .int .i64 0], .int .i64 0])) ?_ rfl ⟨?_, ?_⟩; (rw [results_cell_tmp1 rfl]; go_simp))
      · rfl
      · repeat (first | (with_reducible exact HBX.out) | refine below_set ?_ _ _ (by omega) _)
    · skip
      have es : d.toList.isEmpty = false := by rw [sempty, decide_eq_false hs]
      have hh : Pr.rd ⟨5, j, d⟩ = none := by rw [rd_5 j d hW, if_neg hs]
      rw [hh]
      clear hs
      have HW := Lib.hid (pwhole_walk 5 j d)
      rw [hW] at HW
      clear hW hh
      go_enter Tryd.func28, Tryd.ntmps28
      go_upto_region 2 with (fail)
      have H2 := Lib.hid (T3.new w #[.int .i64 5, .int .i64 j, .string d] #[.int .i64 0, .int .i64 0, .string ⟨#[]⟩, .string ⟨#[]⟩, .int .i64 0, .int .i64 0, .int .i64 0] #[.int .i64 5, .int .i64 j, .string ⟨#[]⟩, .string ⟨#[]⟩, .int .i64 0, .int .i64 0, .int .i64 0] 42 70 70)
      have p0 := H2.out.hp.cell 0; have p1 := H2.out.hp.cell 1; have p2 := H2.out.hp.cell 2
      simp only [List.getElem?_toArray, List.getElem?_cons_zero, List.getElem?_cons_succ] at p0 p1 p2
      generalize ((w.alloc (.cells #[.int .i64 5, .int .i64 j, .string d] 42)).alloc (.cells #[.int .i64 0, .int .i64 0, .string ⟨#[]⟩, .string ⟨#[]⟩, .int .i64 0, .int .i64 0, .int .i64 0] 70)).alloc (.cells #[.int .i64 5, .int .i64 j, .string ⟨#[]⟩, .string ⟨#[]⟩, .int .i64 0, .int .i64 0, .int .i64 0] 70) = w2 at *
      go_wp2_with fail
      (with_reducible refine (HW.out _).mono ?_)
      rintro e w3 ⟨rfl, hb⟩
      have HH := Lib.hid (H2.out.keep hb)
      clear p0 p1 p2 hb H2 HW
      have HBX := Lib.hid HH.out.hb
      have p0 := HH.out.hp.cell 0; have p1 := HH.out.hp.cell 1; have p2 := HH.out.hp.cell 2
      simp only [List.getElem?_toArray, List.getElem?_cons_zero, List.getElem?_cons_succ, List.setIfInBounds_toArray, List.set_cons_zero, List.set_cons_succ] at p0 p1 p2
      have a0 := HH.out.ha.cell 0; have a1 := HH.out.ha.cell 1; have a2 := HH.out.ha.cell 2; have a3 := HH.out.ha.cell 3; have a4 := HH.out.ha.cell 4; have a5 := HH.out.ha.cell 5; have a6 := HH.out.ha.cell 6
      have g2 := HH.out.ha.free 2; have g3 := HH.out.ha.free 3; have g4 := HH.out.ha.free 4; have g5 := HH.out.ha.free 5; have g6 := HH.out.ha.free 6
      simp only [List.getElem?_toArray, List.getElem?_cons_zero, List.getElem?_cons_succ, List.setIfInBounds_toArray, List.set_cons_zero, List.set_cons_succ] at a0 a1 a2 a3 a4 a5 a6
      have r0 := HH.out.hr.cell 0; have r1 := HH.out.hr.cell 1; have r2 := HH.out.hr.cell 2; have r3 := HH.out.hr.cell 3; have r4 := HH.out.hr.cell 4; have r5 := HH.out.hr.cell 5; have r6 := HH.out.hr.cell 6
      have f0 := HH.out.hr.free 0; have f1 := HH.out.hr.free 1; have f2 := HH.out.hr.free 2; have f3 := HH.out.hr.free 3; have f4 := HH.out.hr.free 4; have f5 := HH.out.hr.free 5; have f6 := HH.out.hr.free 6
      simp only [List.getElem?_toArray, List.getElem?_cons_zero, List.getElem?_cons_succ, List.setIfInBounds_toArray, List.set_cons_zero, List.set_cons_succ] at r0 r1 r2 r3 r4 r5 r6
      clear HH
      go_wp2
      ((try simp only [Exit.inBlock, Exit.then]); refine bodyPost_ret (v := (.tuple #[.agg #[.int .i64 0, .int .i64 0, .string ⟨#[]⟩, .string ⟨#[]⟩, .int .i64 0, .int .i64 0, .int .i64 0], .int .i64 35])) ?_ rfl ⟨?_, ?_⟩; (rw [results_cell_tmp1 rfl]; go_simp))
      · rfl
      · repeat (first | (with_reducible exact HBX.out) | refine below_set ?_ _ _ (by omega) _)
set_option maxRecDepth 100000 in
set_option maxHeartbeats 1600000 in
theorem pread6 (j : Int) (d : ByteArray) (w : World) : Calls Tryd.prog 28 #[.agg #[.int .i64 6, .int .i64 j, .string d]] w fun e w' => e = .returned (readV (Pr.rd ⟨6, j, d⟩)) ∧ Below w.heap.size w w' := by
  cases hW : Pr.whole ⟨6, j, d⟩ with
  | false =>
    have HN := Lib.hid (fun w => xnumber_walk d w)
    generalize (if d.size = 4 then (Fr.num4 d.data.toList : Int) else 0) = n at *
    generalize (if d.size = 4 then (0 : Int) else 1) = m at *
    have hh : Pr.rd ⟨6, j, d⟩ = none := by rw [rd_w _ hW]
    rw [hh]
    have HW := Lib.hid (pwhole_walk 6 j d)
    rw [hW] at HW
    clear hW hh
    go_enter Tryd.func28, Tryd.ntmps28
    go_upto_region 2 with (fail)
    have H2 := Lib.hid (T3.new w #[.int .i64 6, .int .i64 j, .string d] #[.int .i64 0, .int .i64 0, .string ⟨#[]⟩, .string ⟨#[]⟩, .int .i64 0, .int .i64 0, .int .i64 0] #[.int .i64 6, .int .i64 j, .string ⟨#[]⟩, .string ⟨#[]⟩, .int .i64 0, .int .i64 0, .int .i64 0] 42 70 70)
    have p0 := H2.out.hp.cell 0; have p1 := H2.out.hp.cell 1; have p2 := H2.out.hp.cell 2
    simp only [List.getElem?_toArray, List.getElem?_cons_zero, List.getElem?_cons_succ] at p0 p1 p2
    generalize ((w.alloc (.cells #[.int .i64 6, .int .i64 j, .string d] 42)).alloc (.cells #[.int .i64 0, .int .i64 0, .string ⟨#[]⟩, .string ⟨#[]⟩, .int .i64 0, .int .i64 0, .int .i64 0] 70)).alloc (.cells #[.int .i64 6, .int .i64 j, .string ⟨#[]⟩, .string ⟨#[]⟩, .int .i64 0, .int .i64 0, .int .i64 0] 70) = w2 at *
    go_wp2_with fail
    (with_reducible refine (HW.out _).mono ?_)
    rintro e w3 ⟨rfl, hb⟩
    have HH := Lib.hid (H2.out.keep hb)
    clear p0 p1 p2 hb H2 HW
    have p0 := HH.out.hp.cell 0; have p1 := HH.out.hp.cell 1; have p2 := HH.out.hp.cell 2
    simp only [List.getElem?_toArray, List.getElem?_cons_zero, List.getElem?_cons_succ, List.setIfInBounds_toArray, List.set_cons_zero, List.set_cons_succ] at p0 p1 p2
    go_wp2_with fail
    (with_reducible refine (HN.out _).mono ?_)
    rintro e w4 ⟨rfl, rfl⟩
    clear p0 p1 p2 HN
    have HBX := Lib.hid HH.out.hb
    have p0 := HH.out.hp.cell 0; have p1 := HH.out.hp.cell 1; have p2 := HH.out.hp.cell 2
    simp only [List.getElem?_toArray, List.getElem?_cons_zero, List.getElem?_cons_succ, List.setIfInBounds_toArray, List.set_cons_zero, List.set_cons_succ] at p0 p1 p2
    have a0 := HH.out.ha.cell 0; have a1 := HH.out.ha.cell 1; have a2 := HH.out.ha.cell 2; have a3 := HH.out.ha.cell 3; have a4 := HH.out.ha.cell 4; have a5 := HH.out.ha.cell 5; have a6 := HH.out.ha.cell 6
    have g2 := HH.out.ha.free 2; have g3 := HH.out.ha.free 3; have g4 := HH.out.ha.free 4; have g5 := HH.out.ha.free 5; have g6 := HH.out.ha.free 6
    simp only [List.getElem?_toArray, List.getElem?_cons_zero, List.getElem?_cons_succ, List.setIfInBounds_toArray, List.set_cons_zero, List.set_cons_succ] at a0 a1 a2 a3 a4 a5 a6
    have r0 := HH.out.hr.cell 0; have r1 := HH.out.hr.cell 1; have r2 := HH.out.hr.cell 2; have r3 := HH.out.hr.cell 3; have r4 := HH.out.hr.cell 4; have r5 := HH.out.hr.cell 5; have r6 := HH.out.hr.cell 6
    have f0 := HH.out.hr.free 0; have f1 := HH.out.hr.free 1; have f2 := HH.out.hr.free 2; have f3 := HH.out.hr.free 3; have f4 := HH.out.hr.free 4; have f5 := HH.out.hr.free 5; have f6 := HH.out.hr.free 6
    simp only [List.getElem?_toArray, List.getElem?_cons_zero, List.getElem?_cons_succ, List.setIfInBounds_toArray, List.set_cons_zero, List.set_cons_succ] at r0 r1 r2 r3 r4 r5 r6
    clear HH
    go_wp2
    ((try simp only [Exit.inBlock, Exit.then]); refine bodyPost_ret (v := (.tuple #[.agg #[.int .i64 0, .int .i64 0, .string ⟨#[]⟩, .string ⟨#[]⟩, .int .i64 0, .int .i64 0, .int .i64 0], .int .i64 35])) ?_ rfl ⟨?_, ?_⟩; (rw [results_cell_tmp1 rfl]; go_simp))
    · rfl
    · repeat (first | (with_reducible exact HBX.out) | refine below_set ?_ _ _ (by omega) _)
  | true =>
    have HN := Lib.hid (fun w => xnumber_walk d w)
    by_cases hs : d.size = 4
    · rw [if_pos hs, if_pos hs] at HN
      have hrd := rd_6 j d hW
      rw [if_pos hs] at hrd
      generalize (Fr.num4 d.data.toList : Int) = n at *
      have hh : Pr.rd ⟨6, j, d⟩ = some ⟨6, j, Pr.e0, Pr.e0, 0, 0, n⟩ := by rw [hrd]
      rw [hh]
      clear hs hrd
      have HW := Lib.hid (pwhole_walk 6 j d)
      rw [hW] at HW
      clear hW hh
      go_enter Tryd.func28, Tryd.ntmps28
      go_upto_region 2 with (fail)
      have H2 := Lib.hid (T3.new w #[.int .i64 6, .int .i64 j, .string d] #[.int .i64 0, .int .i64 0, .string ⟨#[]⟩, .string ⟨#[]⟩, .int .i64 0, .int .i64 0, .int .i64 0] #[.int .i64 6, .int .i64 j, .string ⟨#[]⟩, .string ⟨#[]⟩, .int .i64 0, .int .i64 0, .int .i64 0] 42 70 70)
      have p0 := H2.out.hp.cell 0; have p1 := H2.out.hp.cell 1; have p2 := H2.out.hp.cell 2
      simp only [List.getElem?_toArray, List.getElem?_cons_zero, List.getElem?_cons_succ] at p0 p1 p2
      generalize ((w.alloc (.cells #[.int .i64 6, .int .i64 j, .string d] 42)).alloc (.cells #[.int .i64 0, .int .i64 0, .string ⟨#[]⟩, .string ⟨#[]⟩, .int .i64 0, .int .i64 0, .int .i64 0] 70)).alloc (.cells #[.int .i64 6, .int .i64 j, .string ⟨#[]⟩, .string ⟨#[]⟩, .int .i64 0, .int .i64 0, .int .i64 0] 70) = w2 at *
      go_wp2_with fail
      (with_reducible refine (HW.out _).mono ?_)
      rintro e w3 ⟨rfl, hb⟩
      have HH := Lib.hid (H2.out.keep hb)
      clear p0 p1 p2 hb H2 HW
      have p0 := HH.out.hp.cell 0; have p1 := HH.out.hp.cell 1; have p2 := HH.out.hp.cell 2
      simp only [List.getElem?_toArray, List.getElem?_cons_zero, List.getElem?_cons_succ, List.setIfInBounds_toArray, List.set_cons_zero, List.set_cons_succ] at p0 p1 p2
      go_wp2_with fail
      (with_reducible refine (HN.out _).mono ?_)
      rintro e w4 ⟨rfl, rfl⟩
      clear p0 p1 p2 HN
      have HBX := Lib.hid HH.out.hb
      have p0 := HH.out.hp.cell 0; have p1 := HH.out.hp.cell 1; have p2 := HH.out.hp.cell 2
      simp only [List.getElem?_toArray, List.getElem?_cons_zero, List.getElem?_cons_succ, List.setIfInBounds_toArray, List.set_cons_zero, List.set_cons_succ] at p0 p1 p2
      have a0 := HH.out.ha.cell 0; have a1 := HH.out.ha.cell 1; have a2 := HH.out.ha.cell 2; have a3 := HH.out.ha.cell 3; have a4 := HH.out.ha.cell 4; have a5 := HH.out.ha.cell 5; have a6 := HH.out.ha.cell 6
      have g2 := HH.out.ha.free 2; have g3 := HH.out.ha.free 3; have g4 := HH.out.ha.free 4; have g5 := HH.out.ha.free 5; have g6 := HH.out.ha.free 6
      simp only [List.getElem?_toArray, List.getElem?_cons_zero, List.getElem?_cons_succ, List.setIfInBounds_toArray, List.set_cons_zero, List.set_cons_succ] at a0 a1 a2 a3 a4 a5 a6
      have r0 := HH.out.hr.cell 0; have r1 := HH.out.hr.cell 1; have r2 := HH.out.hr.cell 2; have r3 := HH.out.hr.cell 3; have r4 := HH.out.hr.cell 4; have r5 := HH.out.hr.cell 5; have r6 := HH.out.hr.cell 6
      have f0 := HH.out.hr.free 0; have f1 := HH.out.hr.free 1; have f2 := HH.out.hr.free 2; have f3 := HH.out.hr.free 3; have f4 := HH.out.hr.free 4; have f5 := HH.out.hr.free 5; have f6 := HH.out.hr.free 6
      simp only [List.getElem?_toArray, List.getElem?_cons_zero, List.getElem?_cons_succ, List.setIfInBounds_toArray, List.set_cons_zero, List.set_cons_succ] at r0 r1 r2 r3 r4 r5 r6
      clear HH
      go_wp2
      ((try simp only [Exit.inBlock, Exit.then]); refine bodyPost_ret (v := (.tuple #[.agg #[.int .i64 6, .int .i64 j, .string ⟨#[]⟩, .string ⟨#[]⟩, .int .i64 0, .int .i64 0, .int .i64 n], .int .i64 0])) ?_ rfl ⟨?_, ?_⟩; (rw [results_cell_tmp1 rfl]; go_simp))
      · rfl
      · repeat (first | (with_reducible exact HBX.out) | refine below_set ?_ _ _ (by omega) _)
    · rw [if_neg hs, if_neg hs] at HN
      have hh : Pr.rd ⟨6, j, d⟩ = none := by rw [rd_6 j d hW, if_neg hs]
      rw [hh]
      clear hs
      have HW := Lib.hid (pwhole_walk 6 j d)
      rw [hW] at HW
      clear hW hh
      go_enter Tryd.func28, Tryd.ntmps28
      go_upto_region 2 with (fail)
      have H2 := Lib.hid (T3.new w #[.int .i64 6, .int .i64 j, .string d] #[.int .i64 0, .int .i64 0, .string ⟨#[]⟩, .string ⟨#[]⟩, .int .i64 0, .int .i64 0, .int .i64 0] #[.int .i64 6, .int .i64 j, .string ⟨#[]⟩, .string ⟨#[]⟩, .int .i64 0, .int .i64 0, .int .i64 0] 42 70 70)
      have p0 := H2.out.hp.cell 0; have p1 := H2.out.hp.cell 1; have p2 := H2.out.hp.cell 2
      simp only [List.getElem?_toArray, List.getElem?_cons_zero, List.getElem?_cons_succ] at p0 p1 p2
      generalize ((w.alloc (.cells #[.int .i64 6, .int .i64 j, .string d] 42)).alloc (.cells #[.int .i64 0, .int .i64 0, .string ⟨#[]⟩, .string ⟨#[]⟩, .int .i64 0, .int .i64 0, .int .i64 0] 70)).alloc (.cells #[.int .i64 6, .int .i64 j, .string ⟨#[]⟩, .string ⟨#[]⟩, .int .i64 0, .int .i64 0, .int .i64 0] 70) = w2 at *
      go_wp2_with fail
      (with_reducible refine (HW.out _).mono ?_)
      rintro e w3 ⟨rfl, hb⟩
      have HH := Lib.hid (H2.out.keep hb)
      clear p0 p1 p2 hb H2 HW
      have p0 := HH.out.hp.cell 0; have p1 := HH.out.hp.cell 1; have p2 := HH.out.hp.cell 2
      simp only [List.getElem?_toArray, List.getElem?_cons_zero, List.getElem?_cons_succ, List.setIfInBounds_toArray, List.set_cons_zero, List.set_cons_succ] at p0 p1 p2
      go_wp2_with fail
      (with_reducible refine (HN.out _).mono ?_)
      rintro e w4 ⟨rfl, rfl⟩
      clear p0 p1 p2 HN
      have HBX := Lib.hid HH.out.hb
      have p0 := HH.out.hp.cell 0; have p1 := HH.out.hp.cell 1; have p2 := HH.out.hp.cell 2
      simp only [List.getElem?_toArray, List.getElem?_cons_zero, List.getElem?_cons_succ, List.setIfInBounds_toArray, List.set_cons_zero, List.set_cons_succ] at p0 p1 p2
      have a0 := HH.out.ha.cell 0; have a1 := HH.out.ha.cell 1; have a2 := HH.out.ha.cell 2; have a3 := HH.out.ha.cell 3; have a4 := HH.out.ha.cell 4; have a5 := HH.out.ha.cell 5; have a6 := HH.out.ha.cell 6
      have g2 := HH.out.ha.free 2; have g3 := HH.out.ha.free 3; have g4 := HH.out.ha.free 4; have g5 := HH.out.ha.free 5; have g6 := HH.out.ha.free 6
      simp only [List.getElem?_toArray, List.getElem?_cons_zero, List.getElem?_cons_succ, List.setIfInBounds_toArray, List.set_cons_zero, List.set_cons_succ] at a0 a1 a2 a3 a4 a5 a6
      have r0 := HH.out.hr.cell 0; have r1 := HH.out.hr.cell 1; have r2 := HH.out.hr.cell 2; have r3 := HH.out.hr.cell 3; have r4 := HH.out.hr.cell 4; have r5 := HH.out.hr.cell 5; have r6 := HH.out.hr.cell 6
      have f0 := HH.out.hr.free 0; have f1 := HH.out.hr.free 1; have f2 := HH.out.hr.free 2; have f3 := HH.out.hr.free 3; have f4 := HH.out.hr.free 4; have f5 := HH.out.hr.free 5; have f6 := HH.out.hr.free 6
      simp only [List.getElem?_toArray, List.getElem?_cons_zero, List.getElem?_cons_succ, List.setIfInBounds_toArray, List.set_cons_zero, List.set_cons_succ] at r0 r1 r2 r3 r4 r5 r6
      clear HH
      go_wp2
      ((try simp only [Exit.inBlock, Exit.then]); refine bodyPost_ret (v := (.tuple #[.agg #[.int .i64 0, .int .i64 0, .string ⟨#[]⟩, .string ⟨#[]⟩, .int .i64 0, .int .i64 0, .int .i64 0], .int .i64 35])) ?_ rfl ⟨?_, ?_⟩; (rw [results_cell_tmp1 rfl]; go_simp))
      · rfl
      · repeat (first | (with_reducible exact HBX.out) | refine below_set ?_ _ _ (by omega) _)
set_option maxRecDepth 100000 in
set_option maxHeartbeats 1600000 in
theorem pread7 (j : Int) (d : ByteArray) (w : World) : Calls Tryd.prog 28 #[.agg #[.int .i64 7, .int .i64 j, .string d]] w fun e w' => e = .returned (readV (Pr.rd ⟨7, j, d⟩)) ∧ Below w.heap.size w w' := by
  cases hW : Pr.whole ⟨7, j, d⟩ with
  | false =>
    have hh : Pr.rd ⟨7, j, d⟩ = none := by rw [rd_w _ hW]
    rw [hh]
    have HW := Lib.hid (pwhole_walk 7 j d)
    rw [hW] at HW
    clear hW hh
    go_enter Tryd.func28, Tryd.ntmps28
    go_upto_region 2 with (fail)
    have H2 := Lib.hid (T3.new w #[.int .i64 7, .int .i64 j, .string d] #[.int .i64 0, .int .i64 0, .string ⟨#[]⟩, .string ⟨#[]⟩, .int .i64 0, .int .i64 0, .int .i64 0] #[.int .i64 7, .int .i64 j, .string ⟨#[]⟩, .string ⟨#[]⟩, .int .i64 0, .int .i64 0, .int .i64 0] 42 70 70)
    have p0 := H2.out.hp.cell 0; have p1 := H2.out.hp.cell 1; have p2 := H2.out.hp.cell 2
    simp only [List.getElem?_toArray, List.getElem?_cons_zero, List.getElem?_cons_succ] at p0 p1 p2
    generalize ((w.alloc (.cells #[.int .i64 7, .int .i64 j, .string d] 42)).alloc (.cells #[.int .i64 0, .int .i64 0, .string ⟨#[]⟩, .string ⟨#[]⟩, .int .i64 0, .int .i64 0, .int .i64 0] 70)).alloc (.cells #[.int .i64 7, .int .i64 j, .string ⟨#[]⟩, .string ⟨#[]⟩, .int .i64 0, .int .i64 0, .int .i64 0] 70) = w2 at *
    go_wp2_with fail
    (with_reducible refine (HW.out _).mono ?_)
    rintro e w3 ⟨rfl, hb⟩
    have HH := Lib.hid (H2.out.keep hb)
    clear p0 p1 p2 hb H2 HW
    have HBX := Lib.hid HH.out.hb
    have p0 := HH.out.hp.cell 0; have p1 := HH.out.hp.cell 1; have p2 := HH.out.hp.cell 2
    simp only [List.getElem?_toArray, List.getElem?_cons_zero, List.getElem?_cons_succ, List.setIfInBounds_toArray, List.set_cons_zero, List.set_cons_succ] at p0 p1 p2
    have a0 := HH.out.ha.cell 0; have a1 := HH.out.ha.cell 1; have a2 := HH.out.ha.cell 2; have a3 := HH.out.ha.cell 3; have a4 := HH.out.ha.cell 4; have a5 := HH.out.ha.cell 5; have a6 := HH.out.ha.cell 6
    have g2 := HH.out.ha.free 2; have g3 := HH.out.ha.free 3; have g4 := HH.out.ha.free 4; have g5 := HH.out.ha.free 5; have g6 := HH.out.ha.free 6
    simp only [List.getElem?_toArray, List.getElem?_cons_zero, List.getElem?_cons_succ, List.setIfInBounds_toArray, List.set_cons_zero, List.set_cons_succ] at a0 a1 a2 a3 a4 a5 a6
    have r0 := HH.out.hr.cell 0; have r1 := HH.out.hr.cell 1; have r2 := HH.out.hr.cell 2; have r3 := HH.out.hr.cell 3; have r4 := HH.out.hr.cell 4; have r5 := HH.out.hr.cell 5; have r6 := HH.out.hr.cell 6
    have f0 := HH.out.hr.free 0; have f1 := HH.out.hr.free 1; have f2 := HH.out.hr.free 2; have f3 := HH.out.hr.free 3; have f4 := HH.out.hr.free 4; have f5 := HH.out.hr.free 5; have f6 := HH.out.hr.free 6
    simp only [List.getElem?_toArray, List.getElem?_cons_zero, List.getElem?_cons_succ, List.setIfInBounds_toArray, List.set_cons_zero, List.set_cons_succ] at r0 r1 r2 r3 r4 r5 r6
    clear HH
    go_wp2
    ((try simp only [Exit.inBlock, Exit.then]); refine bodyPost_ret (v := (.tuple #[.agg #[.int .i64 0, .int .i64 0, .string ⟨#[]⟩, .string ⟨#[]⟩, .int .i64 0, .int .i64 0, .int .i64 0], .int .i64 35])) ?_ rfl ⟨?_, ?_⟩; (rw [results_cell_tmp1 rfl]; go_simp))
    · rfl
    · repeat (first | (with_reducible exact HBX.out) | refine below_set ?_ _ _ (by omega) _)
  | true =>
    by_cases hj : j = 0
    · by_cases hs : d.size = 0
      · skip
        have ej : (j == 0) = true := by rw [hj]; rfl
        have ej' : (j != 0) = false := by rw [hj]; rfl
        have es : d.toList.isEmpty = true := by rw [sempty, decide_eq_true hs]
        have hh : Pr.rd ⟨7, j, d⟩ = some ⟨7, j, Pr.e0, Pr.e0, 0, 0, 0⟩ := by rw [rd_7 j d hW, if_pos ⟨hj, hs⟩]
        rw [hh]
        clear hj hs
        have HW := Lib.hid (pwhole_walk 7 j d)
        rw [hW] at HW
        clear hW hh
        go_enter Tryd.func28, Tryd.ntmps28
        go_upto_region 2 with (fail)
        have H2 := Lib.hid (T3.new w #[.int .i64 7, .int .i64 j, .string d] #[.int .i64 0, .int .i64 0, .string ⟨#[]⟩, .string ⟨#[]⟩, .int .i64 0, .int .i64 0, .int .i64 0] #[.int .i64 7, .int .i64 j, .string ⟨#[]⟩, .string ⟨#[]⟩, .int .i64 0, .int .i64 0, .int .i64 0] 42 70 70)
        have p0 := H2.out.hp.cell 0; have p1 := H2.out.hp.cell 1; have p2 := H2.out.hp.cell 2
        simp only [List.getElem?_toArray, List.getElem?_cons_zero, List.getElem?_cons_succ] at p0 p1 p2
        generalize ((w.alloc (.cells #[.int .i64 7, .int .i64 j, .string d] 42)).alloc (.cells #[.int .i64 0, .int .i64 0, .string ⟨#[]⟩, .string ⟨#[]⟩, .int .i64 0, .int .i64 0, .int .i64 0] 70)).alloc (.cells #[.int .i64 7, .int .i64 j, .string ⟨#[]⟩, .string ⟨#[]⟩, .int .i64 0, .int .i64 0, .int .i64 0] 70) = w2 at *
        go_wp2_with fail
        (with_reducible refine (HW.out _).mono ?_)
        rintro e w3 ⟨rfl, hb⟩
        have HH := Lib.hid (H2.out.keep hb)
        clear p0 p1 p2 hb H2 HW
        have HBX := Lib.hid HH.out.hb
        have p0 := HH.out.hp.cell 0; have p1 := HH.out.hp.cell 1; have p2 := HH.out.hp.cell 2
        simp only [List.getElem?_toArray, List.getElem?_cons_zero, List.getElem?_cons_succ, List.setIfInBounds_toArray, List.set_cons_zero, List.set_cons_succ] at p0 p1 p2
        have a0 := HH.out.ha.cell 0; have a1 := HH.out.ha.cell 1; have a2 := HH.out.ha.cell 2; have a3 := HH.out.ha.cell 3; have a4 := HH.out.ha.cell 4; have a5 := HH.out.ha.cell 5; have a6 := HH.out.ha.cell 6
        have g2 := HH.out.ha.free 2; have g3 := HH.out.ha.free 3; have g4 := HH.out.ha.free 4; have g5 := HH.out.ha.free 5; have g6 := HH.out.ha.free 6
        simp only [List.getElem?_toArray, List.getElem?_cons_zero, List.getElem?_cons_succ, List.setIfInBounds_toArray, List.set_cons_zero, List.set_cons_succ] at a0 a1 a2 a3 a4 a5 a6
        have r0 := HH.out.hr.cell 0; have r1 := HH.out.hr.cell 1; have r2 := HH.out.hr.cell 2; have r3 := HH.out.hr.cell 3; have r4 := HH.out.hr.cell 4; have r5 := HH.out.hr.cell 5; have r6 := HH.out.hr.cell 6
        have f0 := HH.out.hr.free 0; have f1 := HH.out.hr.free 1; have f2 := HH.out.hr.free 2; have f3 := HH.out.hr.free 3; have f4 := HH.out.hr.free 4; have f5 := HH.out.hr.free 5; have f6 := HH.out.hr.free 6
        simp only [List.getElem?_toArray, List.getElem?_cons_zero, List.getElem?_cons_succ, List.setIfInBounds_toArray, List.set_cons_zero, List.set_cons_succ] at r0 r1 r2 r3 r4 r5 r6
        clear HH
        go_wp2
        ((try simp only [Exit.inBlock, Exit.then]); refine bodyPost_ret (v := (.tuple #[.agg #[.int .i64 7, .int .i64 j, .string ⟨#[]⟩, .string ⟨#[]⟩, .int .i64 0, .int .i64 0, .int .i64 0], .int .i64 0])) ?_ rfl ⟨?_, ?_⟩; (rw [results_cell_tmp1 rfl]; go_simp))
        · rfl
        · repeat (first | (with_reducible exact HBX.out) | refine below_set ?_ _ _ (by omega) _)
      · skip
        have ej : (j == 0) = true := by rw [hj]; rfl
        have ej' : (j != 0) = false := by rw [hj]; rfl
        have es : d.toList.isEmpty = false := by rw [sempty, decide_eq_false hs]
        have hh : Pr.rd ⟨7, j, d⟩ = none := by rw [rd_7 j d hW, if_neg (fun x => hs x.2)]
        rw [hh]
        clear hj hs
        have HW := Lib.hid (pwhole_walk 7 j d)
        rw [hW] at HW
        clear hW hh
        go_enter Tryd.func28, Tryd.ntmps28
        go_upto_region 2 with (fail)
        have H2 := Lib.hid (T3.new w #[.int .i64 7, .int .i64 j, .string d] #[.int .i64 0, .int .i64 0, .string ⟨#[]⟩, .string ⟨#[]⟩, .int .i64 0, .int .i64 0, .int .i64 0] #[.int .i64 7, .int .i64 j, .string ⟨#[]⟩, .string ⟨#[]⟩, .int .i64 0, .int .i64 0, .int .i64 0] 42 70 70)
        have p0 := H2.out.hp.cell 0; have p1 := H2.out.hp.cell 1; have p2 := H2.out.hp.cell 2
        simp only [List.getElem?_toArray, List.getElem?_cons_zero, List.getElem?_cons_succ] at p0 p1 p2
        generalize ((w.alloc (.cells #[.int .i64 7, .int .i64 j, .string d] 42)).alloc (.cells #[.int .i64 0, .int .i64 0, .string ⟨#[]⟩, .string ⟨#[]⟩, .int .i64 0, .int .i64 0, .int .i64 0] 70)).alloc (.cells #[.int .i64 7, .int .i64 j, .string ⟨#[]⟩, .string ⟨#[]⟩, .int .i64 0, .int .i64 0, .int .i64 0] 70) = w2 at *
        go_wp2_with fail
        (with_reducible refine (HW.out _).mono ?_)
        rintro e w3 ⟨rfl, hb⟩
        have HH := Lib.hid (H2.out.keep hb)
        clear p0 p1 p2 hb H2 HW
        have HBX := Lib.hid HH.out.hb
        have p0 := HH.out.hp.cell 0; have p1 := HH.out.hp.cell 1; have p2 := HH.out.hp.cell 2
        simp only [List.getElem?_toArray, List.getElem?_cons_zero, List.getElem?_cons_succ, List.setIfInBounds_toArray, List.set_cons_zero, List.set_cons_succ] at p0 p1 p2
        have a0 := HH.out.ha.cell 0; have a1 := HH.out.ha.cell 1; have a2 := HH.out.ha.cell 2; have a3 := HH.out.ha.cell 3; have a4 := HH.out.ha.cell 4; have a5 := HH.out.ha.cell 5; have a6 := HH.out.ha.cell 6
        have g2 := HH.out.ha.free 2; have g3 := HH.out.ha.free 3; have g4 := HH.out.ha.free 4; have g5 := HH.out.ha.free 5; have g6 := HH.out.ha.free 6
        simp only [List.getElem?_toArray, List.getElem?_cons_zero, List.getElem?_cons_succ, List.setIfInBounds_toArray, List.set_cons_zero, List.set_cons_succ] at a0 a1 a2 a3 a4 a5 a6
        have r0 := HH.out.hr.cell 0; have r1 := HH.out.hr.cell 1; have r2 := HH.out.hr.cell 2; have r3 := HH.out.hr.cell 3; have r4 := HH.out.hr.cell 4; have r5 := HH.out.hr.cell 5; have r6 := HH.out.hr.cell 6
        have f0 := HH.out.hr.free 0; have f1 := HH.out.hr.free 1; have f2 := HH.out.hr.free 2; have f3 := HH.out.hr.free 3; have f4 := HH.out.hr.free 4; have f5 := HH.out.hr.free 5; have f6 := HH.out.hr.free 6
        simp only [List.getElem?_toArray, List.getElem?_cons_zero, List.getElem?_cons_succ, List.setIfInBounds_toArray, List.set_cons_zero, List.set_cons_succ] at r0 r1 r2 r3 r4 r5 r6
        clear HH
        go_wp2
        ((try simp only [Exit.inBlock, Exit.then]); refine bodyPost_ret (v := (.tuple #[.agg #[.int .i64 0, .int .i64 0, .string ⟨#[]⟩, .string ⟨#[]⟩, .int .i64 0, .int .i64 0, .int .i64 0], .int .i64 35])) ?_ rfl ⟨?_, ?_⟩; (rw [results_cell_tmp1 rfl]; go_simp))
        · rfl
        · repeat (first | (with_reducible exact HBX.out) | refine below_set ?_ _ _ (by omega) _)
    · skip
      have ej : (j == 0) = false := by simpa using hj
      have ej' : (j != 0) = true := by simpa using hj
      have hh : Pr.rd ⟨7, j, d⟩ = none := by rw [rd_7 j d hW, if_neg (fun x => hj x.1)]
      rw [hh]
      clear hj
      have HW := Lib.hid (pwhole_walk 7 j d)
      rw [hW] at HW
      clear hW hh
      go_enter Tryd.func28, Tryd.ntmps28
      go_upto_region 2 with (fail)
      have H2 := Lib.hid (T3.new w #[.int .i64 7, .int .i64 j, .string d] #[.int .i64 0, .int .i64 0, .string ⟨#[]⟩, .string ⟨#[]⟩, .int .i64 0, .int .i64 0, .int .i64 0] #[.int .i64 7, .int .i64 j, .string ⟨#[]⟩, .string ⟨#[]⟩, .int .i64 0, .int .i64 0, .int .i64 0] 42 70 70)
      have p0 := H2.out.hp.cell 0; have p1 := H2.out.hp.cell 1; have p2 := H2.out.hp.cell 2
      simp only [List.getElem?_toArray, List.getElem?_cons_zero, List.getElem?_cons_succ] at p0 p1 p2
      generalize ((w.alloc (.cells #[.int .i64 7, .int .i64 j, .string d] 42)).alloc (.cells #[.int .i64 0, .int .i64 0, .string ⟨#[]⟩, .string ⟨#[]⟩, .int .i64 0, .int .i64 0, .int .i64 0] 70)).alloc (.cells #[.int .i64 7, .int .i64 j, .string ⟨#[]⟩, .string ⟨#[]⟩, .int .i64 0, .int .i64 0, .int .i64 0] 70) = w2 at *
      go_wp2_with fail
      (with_reducible refine (HW.out _).mono ?_)
      rintro e w3 ⟨rfl, hb⟩
      have HH := Lib.hid (H2.out.keep hb)
      clear p0 p1 p2 hb H2 HW
      have HBX := Lib.hid HH.out.hb
      have p0 := HH.out.hp.cell 0; have p1 := HH.out.hp.cell 1; have p2 := HH.out.hp.cell 2
      simp only [List.getElem?_toArray, List.getElem?_cons_zero, List.getElem?_cons_succ, List.setIfInBounds_toArray, List.set_cons_zero, List.set_cons_succ] at p0 p1 p2
      have a0 := HH.out.ha.cell 0; have a1 := HH.out.ha.cell 1; have a2 := HH.out.ha.cell 2; have a3 := HH.out.ha.cell 3; have a4 := HH.out.ha.cell 4; have a5 := HH.out.ha.cell 5; have a6 := HH.out.ha.cell 6
      have g2 := HH.out.ha.free 2; have g3 := HH.out.ha.free 3; have g4 := HH.out.ha.free 4; have g5 := HH.out.ha.free 5; have g6 := HH.out.ha.free 6
      simp only [List.getElem?_toArray, List.getElem?_cons_zero, List.getElem?_cons_succ, List.setIfInBounds_toArray, List.set_cons_zero, List.set_cons_succ] at a0 a1 a2 a3 a4 a5 a6
      have r0 := HH.out.hr.cell 0; have r1 := HH.out.hr.cell 1; have r2 := HH.out.hr.cell 2; have r3 := HH.out.hr.cell 3; have r4 := HH.out.hr.cell 4; have r5 := HH.out.hr.cell 5; have r6 := HH.out.hr.cell 6
      have f0 := HH.out.hr.free 0; have f1 := HH.out.hr.free 1; have f2 := HH.out.hr.free 2; have f3 := HH.out.hr.free 3; have f4 := HH.out.hr.free 4; have f5 := HH.out.hr.free 5; have f6 := HH.out.hr.free 6
      simp only [List.getElem?_toArray, List.getElem?_cons_zero, List.getElem?_cons_succ, List.setIfInBounds_toArray, List.set_cons_zero, List.set_cons_succ] at r0 r1 r2 r3 r4 r5 r6
      clear HH
      go_wp2
      ((try simp only [Exit.inBlock, Exit.then]); refine bodyPost_ret (v := (.tuple #[.agg #[.int .i64 0, .int .i64 0, .string ⟨#[]⟩, .string ⟨#[]⟩, .int .i64 0, .int .i64 0, .int .i64 0], .int .i64 35])) ?_ rfl ⟨?_, ?_⟩; (rw [results_cell_tmp1 rfl]; go_simp))
      · rfl
      · repeat (first | (with_reducible exact HBX.out) | refine below_set ?_ _ _ (by omega) _)
set_option maxRecDepth 100000 in
set_option maxHeartbeats 1600000 in
theorem preadx (t j : Int) (d : ByteArray) (w : World) (h1 : t ≠ 1) (h2 : t ≠ 2) (h3 : t ≠ 3) (h4 : t ≠ 4) (h5 : t ≠ 5) (h6 : t ≠ 6) (h7 : t ≠ 7) : Calls Tryd.prog 28 #[.agg #[.int .i64 t, .int .i64 j, .string d]] w fun e w' => e = .returned (readV (Pr.rd ⟨t, j, d⟩)) ∧ Below w.heap.size w w' := by
  have e1 : (t == 1) = false := by simpa using h1
  have e2 : (t == 2) = false := by simpa using h2
  have e3 : (t == 3) = false := by simpa using h3
  have e4 : (t == 4) = false := by simpa using h4
  have e5 : (t == 5) = false := by simpa using h5
  have e6 : (t == 6) = false := by simpa using h6
  have e7 : (t == 7) = false := by simpa using h7
  have hlo : decide (t < 1) = true ∨ (decide (t < 1) = false ∧ decide (7 < t) = true) := by
    by_cases h : t < 1
    · exact .inl (decide_eq_true h)
    · exact .inr ⟨decide_eq_false h, decide_eq_true (by omega)⟩
  have hrd := rd_x t j d h1 h2 h3 h4 h5 h6 h7
  clear h1 h2 h3 h4 h5 h6 h7
  cases hW : Pr.whole ⟨t, j, d⟩ with
  | false =>
    rcases hlo with hlo | ⟨hlo, hhi⟩
    · skip
      have hh : Pr.rd ⟨t, j, d⟩ = none := by rw [hrd]
      rw [hh]
      clear hrd
      have HW := Lib.hid (pwhole_walk t j d)
      rw [hW] at HW
      clear hW hh
      go_enter Tryd.func28, Tryd.ntmps28
      go_upto_region 2 with (fail)
      have H2 := Lib.hid (T3.new w #[.int .i64 t, .int .i64 j, .string d] #[.int .i64 0, .int .i64 0, .string ⟨#[]⟩, .string ⟨#[]⟩, .int .i64 0, .int .i64 0, .int .i64 0] #[.int .i64 t, .int .i64 j, .string ⟨#[]⟩, .string ⟨#[]⟩, .int .i64 0, .int .i64 0, .int .i64 0] 42 70 70)
      have p0 := H2.out.hp.cell 0; have p1 := H2.out.hp.cell 1; have p2 := H2.out.hp.cell 2
      simp only [List.getElem?_toArray, List.getElem?_cons_zero, List.getElem?_cons_succ] at p0 p1 p2
      generalize ((w.alloc (.cells #[.int .i64 t, .int .i64 j, .string d] 42)).alloc (.cells #[.int .i64 0, .int .i64 0, .string ⟨#[]⟩, .string ⟨#[]⟩, .int .i64 0, .int .i64 0, .int .i64 0] 70)).alloc (.cells #[.int .i64 t, .int .i64 j, .string ⟨#[]⟩, .string ⟨#[]⟩, .int .i64 0, .int .i64 0, .int .i64 0] 70) = w2 at *
      go_wp2_with fail
      (with_reducible refine (HW.out _).mono ?_)
      rintro e w3 ⟨rfl, hb⟩
      have HH := Lib.hid (H2.out.keep hb)
      clear p0 p1 p2 hb H2 HW
      have HBX := Lib.hid HH.out.hb
      have p0 := HH.out.hp.cell 0; have p1 := HH.out.hp.cell 1; have p2 := HH.out.hp.cell 2
      simp only [List.getElem?_toArray, List.getElem?_cons_zero, List.getElem?_cons_succ, List.setIfInBounds_toArray, List.set_cons_zero, List.set_cons_succ] at p0 p1 p2
      have a0 := HH.out.ha.cell 0; have a1 := HH.out.ha.cell 1; have a2 := HH.out.ha.cell 2; have a3 := HH.out.ha.cell 3; have a4 := HH.out.ha.cell 4; have a5 := HH.out.ha.cell 5; have a6 := HH.out.ha.cell 6
      have g2 := HH.out.ha.free 2; have g3 := HH.out.ha.free 3; have g4 := HH.out.ha.free 4; have g5 := HH.out.ha.free 5; have g6 := HH.out.ha.free 6
      simp only [List.getElem?_toArray, List.getElem?_cons_zero, List.getElem?_cons_succ, List.setIfInBounds_toArray, List.set_cons_zero, List.set_cons_succ] at a0 a1 a2 a3 a4 a5 a6
      have r0 := HH.out.hr.cell 0; have r1 := HH.out.hr.cell 1; have r2 := HH.out.hr.cell 2; have r3 := HH.out.hr.cell 3; have r4 := HH.out.hr.cell 4; have r5 := HH.out.hr.cell 5; have r6 := HH.out.hr.cell 6
      have f0 := HH.out.hr.free 0; have f1 := HH.out.hr.free 1; have f2 := HH.out.hr.free 2; have f3 := HH.out.hr.free 3; have f4 := HH.out.hr.free 4; have f5 := HH.out.hr.free 5; have f6 := HH.out.hr.free 6
      simp only [List.getElem?_toArray, List.getElem?_cons_zero, List.getElem?_cons_succ, List.setIfInBounds_toArray, List.set_cons_zero, List.set_cons_succ] at r0 r1 r2 r3 r4 r5 r6
      clear HH
      go_wp2
      ((try simp only [Exit.inBlock, Exit.then]); refine bodyPost_ret (v := (.tuple #[.agg #[.int .i64 0, .int .i64 0, .string ⟨#[]⟩, .string ⟨#[]⟩, .int .i64 0, .int .i64 0, .int .i64 0], .int .i64 35])) ?_ rfl ⟨?_, ?_⟩; (rw [results_cell_tmp1 rfl]; go_simp))
      · rfl
      · repeat (first | (with_reducible exact HBX.out) | refine below_set ?_ _ _ (by omega) _)
    · skip
      have hh : Pr.rd ⟨t, j, d⟩ = none := by rw [hrd]
      rw [hh]
      clear hrd
      have HW := Lib.hid (pwhole_walk t j d)
      rw [hW] at HW
      clear hW hh
      go_enter Tryd.func28, Tryd.ntmps28
      go_upto_region 2 with (fail)
      have H2 := Lib.hid (T3.new w #[.int .i64 t, .int .i64 j, .string d] #[.int .i64 0, .int .i64 0, .string ⟨#[]⟩, .string ⟨#[]⟩, .int .i64 0, .int .i64 0, .int .i64 0] #[.int .i64 t, .int .i64 j, .string ⟨#[]⟩, .string ⟨#[]⟩, .int .i64 0, .int .i64 0, .int .i64 0] 42 70 70)
      have p0 := H2.out.hp.cell 0; have p1 := H2.out.hp.cell 1; have p2 := H2.out.hp.cell 2
      simp only [List.getElem?_toArray, List.getElem?_cons_zero, List.getElem?_cons_succ] at p0 p1 p2
      generalize ((w.alloc (.cells #[.int .i64 t, .int .i64 j, .string d] 42)).alloc (.cells #[.int .i64 0, .int .i64 0, .string ⟨#[]⟩, .string ⟨#[]⟩, .int .i64 0, .int .i64 0, .int .i64 0] 70)).alloc (.cells #[.int .i64 t, .int .i64 j, .string ⟨#[]⟩, .string ⟨#[]⟩, .int .i64 0, .int .i64 0, .int .i64 0] 70) = w2 at *
      go_wp2_with fail
      (with_reducible refine (HW.out _).mono ?_)
      rintro e w3 ⟨rfl, hb⟩
      have HH := Lib.hid (H2.out.keep hb)
      clear p0 p1 p2 hb H2 HW
      have HBX := Lib.hid HH.out.hb
      have p0 := HH.out.hp.cell 0; have p1 := HH.out.hp.cell 1; have p2 := HH.out.hp.cell 2
      simp only [List.getElem?_toArray, List.getElem?_cons_zero, List.getElem?_cons_succ, List.setIfInBounds_toArray, List.set_cons_zero, List.set_cons_succ] at p0 p1 p2
      have a0 := HH.out.ha.cell 0; have a1 := HH.out.ha.cell 1; have a2 := HH.out.ha.cell 2; have a3 := HH.out.ha.cell 3; have a4 := HH.out.ha.cell 4; have a5 := HH.out.ha.cell 5; have a6 := HH.out.ha.cell 6
      have g2 := HH.out.ha.free 2; have g3 := HH.out.ha.free 3; have g4 := HH.out.ha.free 4; have g5 := HH.out.ha.free 5; have g6 := HH.out.ha.free 6
      simp only [List.getElem?_toArray, List.getElem?_cons_zero, List.getElem?_cons_succ, List.setIfInBounds_toArray, List.set_cons_zero, List.set_cons_succ] at a0 a1 a2 a3 a4 a5 a6
      have r0 := HH.out.hr.cell 0; have r1 := HH.out.hr.cell 1; have r2 := HH.out.hr.cell 2; have r3 := HH.out.hr.cell 3; have r4 := HH.out.hr.cell 4; have r5 := HH.out.hr.cell 5; have r6 := HH.out.hr.cell 6
      have f0 := HH.out.hr.free 0; have f1 := HH.out.hr.free 1; have f2 := HH.out.hr.free 2; have f3 := HH.out.hr.free 3; have f4 := HH.out.hr.free 4; have f5 := HH.out.hr.free 5; have f6 := HH.out.hr.free 6
      simp only [List.getElem?_toArray, List.getElem?_cons_zero, List.getElem?_cons_succ, List.setIfInBounds_toArray, List.set_cons_zero, List.set_cons_succ] at r0 r1 r2 r3 r4 r5 r6
      clear HH
      go_wp2
      ((try simp only [Exit.inBlock, Exit.then]); refine bodyPost_ret (v := (.tuple #[.agg #[.int .i64 0, .int .i64 0, .string ⟨#[]⟩, .string ⟨#[]⟩, .int .i64 0, .int .i64 0, .int .i64 0], .int .i64 35])) ?_ rfl ⟨?_, ?_⟩; (rw [results_cell_tmp1 rfl]; go_simp))
      · rfl
      · repeat (first | (with_reducible exact HBX.out) | refine below_set ?_ _ _ (by omega) _)
  | true =>
    rcases hlo with hlo | ⟨hlo, hhi⟩
    · skip
      have hh : Pr.rd ⟨t, j, d⟩ = none := by rw [hrd]
      rw [hh]
      clear hrd
      have HW := Lib.hid (pwhole_walk t j d)
      rw [hW] at HW
      clear hW hh
      go_enter Tryd.func28, Tryd.ntmps28
      go_upto_region 2 with (fail)
      have H2 := Lib.hid (T3.new w #[.int .i64 t, .int .i64 j, .string d] #[.int .i64 0, .int .i64 0, .string ⟨#[]⟩, .string ⟨#[]⟩, .int .i64 0, .int .i64 0, .int .i64 0] #[.int .i64 t, .int .i64 j, .string ⟨#[]⟩, .string ⟨#[]⟩, .int .i64 0, .int .i64 0, .int .i64 0] 42 70 70)
      have p0 := H2.out.hp.cell 0; have p1 := H2.out.hp.cell 1; have p2 := H2.out.hp.cell 2
      simp only [List.getElem?_toArray, List.getElem?_cons_zero, List.getElem?_cons_succ] at p0 p1 p2
      generalize ((w.alloc (.cells #[.int .i64 t, .int .i64 j, .string d] 42)).alloc (.cells #[.int .i64 0, .int .i64 0, .string ⟨#[]⟩, .string ⟨#[]⟩, .int .i64 0, .int .i64 0, .int .i64 0] 70)).alloc (.cells #[.int .i64 t, .int .i64 j, .string ⟨#[]⟩, .string ⟨#[]⟩, .int .i64 0, .int .i64 0, .int .i64 0] 70) = w2 at *
      go_wp2_with fail
      (with_reducible refine (HW.out _).mono ?_)
      rintro e w3 ⟨rfl, hb⟩
      have HH := Lib.hid (H2.out.keep hb)
      clear p0 p1 p2 hb H2 HW
      have HBX := Lib.hid HH.out.hb
      have p0 := HH.out.hp.cell 0; have p1 := HH.out.hp.cell 1; have p2 := HH.out.hp.cell 2
      simp only [List.getElem?_toArray, List.getElem?_cons_zero, List.getElem?_cons_succ, List.setIfInBounds_toArray, List.set_cons_zero, List.set_cons_succ] at p0 p1 p2
      have a0 := HH.out.ha.cell 0; have a1 := HH.out.ha.cell 1; have a2 := HH.out.ha.cell 2; have a3 := HH.out.ha.cell 3; have a4 := HH.out.ha.cell 4; have a5 := HH.out.ha.cell 5; have a6 := HH.out.ha.cell 6
      have g2 := HH.out.ha.free 2; have g3 := HH.out.ha.free 3; have g4 := HH.out.ha.free 4; have g5 := HH.out.ha.free 5; have g6 := HH.out.ha.free 6
      simp only [List.getElem?_toArray, List.getElem?_cons_zero, List.getElem?_cons_succ, List.setIfInBounds_toArray, List.set_cons_zero, List.set_cons_succ] at a0 a1 a2 a3 a4 a5 a6
      have r0 := HH.out.hr.cell 0; have r1 := HH.out.hr.cell 1; have r2 := HH.out.hr.cell 2; have r3 := HH.out.hr.cell 3; have r4 := HH.out.hr.cell 4; have r5 := HH.out.hr.cell 5; have r6 := HH.out.hr.cell 6
      have f0 := HH.out.hr.free 0; have f1 := HH.out.hr.free 1; have f2 := HH.out.hr.free 2; have f3 := HH.out.hr.free 3; have f4 := HH.out.hr.free 4; have f5 := HH.out.hr.free 5; have f6 := HH.out.hr.free 6
      simp only [List.getElem?_toArray, List.getElem?_cons_zero, List.getElem?_cons_succ, List.setIfInBounds_toArray, List.set_cons_zero, List.set_cons_succ] at r0 r1 r2 r3 r4 r5 r6
      clear HH
      go_wp2
      ((try simp only [Exit.inBlock, Exit.then]); refine bodyPost_ret (v := (.tuple #[.agg #[.int .i64 0, .int .i64 0, .string ⟨#[]⟩, .string ⟨#[]⟩, .int .i64 0, .int .i64 0, .int .i64 0], .int .i64 35])) ?_ rfl ⟨?_, ?_⟩; (rw [results_cell_tmp1 rfl]; go_simp))
      · rfl
      · repeat (first | (with_reducible exact HBX.out) | refine below_set ?_ _ _ (by omega) _)
    · skip
      have hh : Pr.rd ⟨t, j, d⟩ = none := by rw [hrd]
      rw [hh]
      clear hrd
      have HW := Lib.hid (pwhole_walk t j d)
      rw [hW] at HW
      clear hW hh
      go_enter Tryd.func28, Tryd.ntmps28
      go_upto_region 2 with (fail)
      have H2 := Lib.hid (T3.new w #[.int .i64 t, .int .i64 j, .string d] #[.int .i64 0, .int .i64 0, .string ⟨#[]⟩, .string ⟨#[]⟩, .int .i64 0, .int .i64 0, .int .i64 0] #[.int .i64 t, .int .i64 j, .string ⟨#[]⟩, .string ⟨#[]⟩, .int .i64 0, .int .i64 0, .int .i64 0] 42 70 70)
      have p0 := H2.out.hp.cell 0; have p1 := H2.out.hp.cell 1; have p2 := H2.out.hp.cell 2
      simp only [List.getElem?_toArray, List.getElem?_cons_zero, List.getElem?_cons_succ] at p0 p1 p2
      generalize ((w.alloc (.cells #[.int .i64 t, .int .i64 j, .string d] 42)).alloc (.cells #[.int .i64 0, .int .i64 0, .string ⟨#[]⟩, .string ⟨#[]⟩, .int .i64 0, .int .i64 0, .int .i64 0] 70)).alloc (.cells #[.int .i64 t, .int .i64 j, .string ⟨#[]⟩, .string ⟨#[]⟩, .int .i64 0, .int .i64 0, .int .i64 0] 70) = w2 at *
      go_wp2_with fail
      (with_reducible refine (HW.out _).mono ?_)
      rintro e w3 ⟨rfl, hb⟩
      have HH := Lib.hid (H2.out.keep hb)
      clear p0 p1 p2 hb H2 HW
      have HBX := Lib.hid HH.out.hb
      have p0 := HH.out.hp.cell 0; have p1 := HH.out.hp.cell 1; have p2 := HH.out.hp.cell 2
      simp only [List.getElem?_toArray, List.getElem?_cons_zero, List.getElem?_cons_succ, List.setIfInBounds_toArray, List.set_cons_zero, List.set_cons_succ] at p0 p1 p2
      have a0 := HH.out.ha.cell 0; have a1 := HH.out.ha.cell 1; have a2 := HH.out.ha.cell 2; have a3 := HH.out.ha.cell 3; have a4 := HH.out.ha.cell 4; have a5 := HH.out.ha.cell 5; have a6 := HH.out.ha.cell 6
      have g2 := HH.out.ha.free 2; have g3 := HH.out.ha.free 3; have g4 := HH.out.ha.free 4; have g5 := HH.out.ha.free 5; have g6 := HH.out.ha.free 6
      simp only [List.getElem?_toArray, List.getElem?_cons_zero, List.getElem?_cons_succ, List.setIfInBounds_toArray, List.set_cons_zero, List.set_cons_succ] at a0 a1 a2 a3 a4 a5 a6
      have r0 := HH.out.hr.cell 0; have r1 := HH.out.hr.cell 1; have r2 := HH.out.hr.cell 2; have r3 := HH.out.hr.cell 3; have r4 := HH.out.hr.cell 4; have r5 := HH.out.hr.cell 5; have r6 := HH.out.hr.cell 6
      have f0 := HH.out.hr.free 0; have f1 := HH.out.hr.free 1; have f2 := HH.out.hr.free 2; have f3 := HH.out.hr.free 3; have f4 := HH.out.hr.free 4; have f5 := HH.out.hr.free 5; have f6 := HH.out.hr.free 6
      simp only [List.getElem?_toArray, List.getElem?_cons_zero, List.getElem?_cons_succ, List.setIfInBounds_toArray, List.set_cons_zero, List.set_cons_succ] at r0 r1 r2 r3 r4 r5 r6
      clear HH
      go_wp2
      ((try simp only [Exit.inBlock, Exit.then]); refine bodyPost_ret (v := (.tuple #[.agg #[.int .i64 0, .int .i64 0, .string ⟨#[]⟩, .string ⟨#[]⟩, .int .i64 0, .int .i64 0, .int .i64 0], .int .i64 35])) ?_ rfl ⟨?_, ?_⟩; (rw [results_cell_tmp1 rfl]; go_simp))
      · rfl
      · repeat (first | (with_reducible exact HBX.out) | refine below_set ?_ _ _ (by omega) _)
theorem pread_walk (t j : Int) (d : ByteArray) (w : World) (hT : Tabs w) : Calls Tryd.prog 28 #[.agg #[.int .i64 t, .int .i64 j, .string d]] w fun e w' => e = .returned (readV (Pr.rd ⟨t, j, d⟩)) ∧ Below w.heap.size w w' := by
  by_cases h1 : t = 1
  · subst h1; exact pread1 j d w hT
  by_cases h2 : t = 2
  · subst h2; exact pread2 j d w
  by_cases h3 : t = 3
  · subst h3; exact pread3 j d w
  by_cases h4 : t = 4
  · subst h4; exact pread4 j d w
  by_cases h5 : t = 5
  · subst h5; exact pread5 j d w
  by_cases h6 : t = 6
  · subst h6; exact pread6 j d w
  by_cases h7 : t = 7
  · subst h7; exact pread7 j d w
  exact preadx t j d w h1 h2 h3 h4 h5 h6 h7
end Go.Proofs.YtajalllecoclcaaDoor
