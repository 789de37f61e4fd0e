/- Requests and answers: Ask, Write. -/
import Derived.Test.YtckdbkbecelgcaaDoorPrWalk3
import Derived.Test.YtckdbkbecelgcaaDoorPrNe
import Derived.Test.YtckdbkbecelgcaaDoorMake
namespace Go.Proofs.YtckdbkbecelgcaaDoor
open Go.RowKit
set_option linter.unusedVariables false
set_option linter.unusedSimpArgs false

def askF (o : Option Fr.Frm) : Value := match o with
  | some f => .tuple #[.agg #[.int .i64 f.t, .int .i64 f.j, .string f.d], .int .i64 0]
  | none => .tuple #[.agg #[.int .i64 0, .int .i64 0, .string ⟨#[]⟩], .int .i64 35]
def RQ (t j : Int) (tok txt : ByteArray) (k lv n : Int) : List Value := [.int .i64 t, .int .i64 j, .string tok, .string txt, .int .i64 k, .int .i64 lv, .int .i64 n]
theorem fset3 {w : World} {r : Nat} {x y z : Value} {T : TypeId} (h : Has w r #[x, y, z] T) (a b c : Value) : Has (((w.setCell ⟨r, 0, none⟩ a).setCell ⟨r, 1, none⟩ b).setCell ⟨r, 2, none⟩ c) r #[a, b, c] T := ((h.setCell 0 a).setCell 1 b).setCell 2 c
theorem oset3 {w : World} {q r : Nat} {cs : Array Value} {T : TypeId} (h : Has w q cs T) (hq : q ≠ r) (a b c : Value) : Has (((w.setCell ⟨r, 0, none⟩ a).setCell ⟨r, 1, none⟩ b).setCell ⟨r, 2, none⟩ c) q cs T := ((h.setCell_other _ _ hq).setCell_other _ _ hq).setCell_other _ _ hq
theorem bset3 {B : Nat} {w w' : World} {r : Nat} (h : Below B w w') (hr : B ≤ r) (a b c : Value) : Below B w (((w'.setCell ⟨r, 0, none⟩ a).setCell ⟨r, 1, none⟩ b).setCell ⟨r, 2, none⟩ c) := below_set (below_set (below_set h r 0 hr a) r 1 hr b) r 2 hr c
set_option maxRecDepth 100000 in
set_option maxHeartbeats 2000000 in
theorem ask_walk (t j : Int) (tok txt : ByteArray) (k lv n : Int) (w : World) (hT : Tabs w) : Calls Tryd.prog 12 #[.agg #[.int .i64 t, .int .i64 j, .string tok, .string txt, .int .i64 k, .int .i64 lv, .int .i64 n]] w fun e w' => e = .returned (askF (Pr.ask ⟨t, j, tok, txt, k, lv, n⟩)) ∧ Below w.heap.size w w' := by
  have HT := Lib.hid hT
  clear hT
  have HDW := Lib.hid (fun w => data_walk t j tok txt k lv n w)
  have HRW := Lib.hid (fun w h => pread_walk t j (Pr.pd ⟨t, j, tok, txt, k, lv, n⟩) w h)
  have hask : Pr.ask ⟨t, j, tok, txt, k, lv, n⟩ = if Pr.rd ⟨t, j, Pr.pd ⟨t, j, tok, txt, k, lv, n⟩⟩ = some ⟨t, j, tok, txt, k, lv, n⟩ then some ⟨t, j, Pr.pd ⟨t, j, tok, txt, k, lv, n⟩⟩ else none := rfl
  generalize Pr.ask ⟨t, j, tok, txt, k, lv, n⟩ = A at *
  generalize Pr.pd ⟨t, j, tok, txt, k, lv, n⟩ = D at *
  have HASK := Lib.hid hask
  clear hask
  go_enter Tryd.func12, Tryd.ntmps12
  go_upto_region 1 with (fail)
  obtain ⟨hp, hr, hb⟩ := rn_two w #[.int .i64 t, .int .i64 j, .string tok, .string txt, .int .i64 k, .int .i64 lv, .int .i64 n] #[.int .i64 0, .int .i64 0, .string ⟨#[]⟩] 27 23
  have HP1 := Lib.hid hp
  have HR1 := Lib.hid hr
  have HB1 := Lib.hid hb
  clear hp hr hb
  generalize hw1 : (w.alloc (.cells #[.int .i64 t, .int .i64 j, .string tok, .string txt, .int .i64 k, .int .i64 lv, .int .i64 n] 27)).alloc (.cells #[.int .i64 0, .int .i64 0, .string ⟨#[]⟩] 23) = w1 at *
  have hz : w1.heap.size = w.heap.size + 1 + 1 := by rw [← hw1, World.size_alloc, World.size_alloc]
  have HZ := Lib.hid hz
  clear hw1 hz
  apply Quiet.region_make 7 4 (Psi := fun x w' => ∃ r, x = .pointer (some ⟨r, 0, none⟩) ∧ w1.heap.size ≤ r ∧ Has w' r #[.int .i64 0, .int .i64 0, .string ⟨#[]⟩] 23) (by kernel_rfl) (by kernel_rfl) (by kernel_rfl)
  case H1 =>
    intro wb hwb
    have d0 : ∀ x : Later wb, x.at.cell? ⟨w.heap.size, 0, none⟩ = some (.int .i64 t) := fun x => x.cell ((Later.mk hwb).cell (HP1.out.cell 0))
    have d1 : ∀ x : Later wb, x.at.cell? ⟨w.heap.size, 1, none⟩ = some (.int .i64 j) := fun x => x.cell ((Later.mk hwb).cell (HP1.out.cell 1))
    have d2 : ∀ x : Later wb, x.at.cell? ⟨w.heap.size, 2, none⟩ = some (.string tok) := fun x => x.cell ((Later.mk hwb).cell (HP1.out.cell 2))
    have d3 : ∀ x : Later wb, x.at.cell? ⟨w.heap.size, 3, none⟩ = some (.string txt) := fun x => x.cell ((Later.mk hwb).cell (HP1.out.cell 3))
    have d4 : ∀ x : Later wb, x.at.cell? ⟨w.heap.size, 4, none⟩ = some (.int .i64 k) := fun x => x.cell ((Later.mk hwb).cell (HP1.out.cell 4))
    have d5 : ∀ x : Later wb, x.at.cell? ⟨w.heap.size, 5, none⟩ = some (.int .i64 lv) := fun x => x.cell ((Later.mk hwb).cell (HP1.out.cell 5))
    have d6 : ∀ x : Later wb, x.at.cell? ⟨w.heap.size, 6, none⟩ = some (.int .i64 n) := fun x => x.cell ((Later.mk hwb).cell (HP1.out.cell 6))
    have HVX := Lib.hid (fun x : Later wb => later_call (x := x) (HDW.out x.at))
    show wpQuiet _ _ (fun w' => ∃ x : Later wb, w' = x.at) _ _ _
    simp only [List.take_succ_cons, List.take_zero]
    repeat (go_big_quiet_step (exact HVX.out _))
    exact rfl
  case make =>
    intro o ho wa hwa
    obtain rfl := Option.some.inj ho
    refine ⟨.pointer (some ⟨wa.heap.size, 0, none⟩), wa.alloc (.cells #[.int .i64 0, .int .i64 0, .string ⟨#[]⟩] 23), ?_, ?_, ⟨wa.heap.size, rfl, hwa.size, Has.new wa _ _⟩⟩
    · kernel_rfl
    · exact (Below.refl _ _).alloc (Nat.le_refl _) _
  case mono =>
    rintro x wa wb ⟨r, hx, hr, hh⟩ hwb
    exact ⟨r, hx, hr, Has.below hh hwb (Has.lt hh)⟩
  rintro x w2 hl2 ⟨r, rfl, hr1, hh⟩
  simp only [List.drop_succ_cons, List.drop_zero, Act.put, List.setIfInBounds_toArray, List.set_cons_succ, List.set_cons_zero]
  have HP2 := Lib.hid (HP1.out.below hl2 HP1.out.lt)
  have HR2 := Lib.hid (HR1.out.below hl2 HR1.out.lt)
  have HB2 := Lib.hid (HB1.out.trans (hl2.mono HB1.out.size))
  have HF2 := Lib.hid hh
  rw [HZ.out] at hr1
  have hrl := hh.lt
  clear HP1 HR1 HB1 HDW hl2 hh
  have z0 := HF2.out.cell 0; have z1 := HF2.out.cell 1; have z2 := HF2.out.cell 2
  have y0 := HF2.out.free 0; have y1 := HF2.out.free 1; have y2 := HF2.out.free 2
  simp only [List.getElem?_toArray, List.getElem?_cons_zero, List.getElem?_cons_succ] at z0 z1 z2
  go_upto_region 2 with (fail)
  have HF3 := Lib.hid (fset3 HF2.out (.int .i64 t) (.int .i64 j) (.string D))
  have HP3 := Lib.hid (oset3 HP2.out (r := r) (by omega) (.int .i64 t) (.int .i64 j) (.string D))
  have HR3 := Lib.hid (oset3 HR2.out (r := r) (by omega) (.int .i64 t) (.int .i64 j) (.string D))
  have HB3 := Lib.hid (bset3 HB2.out (r := r) (by omega) (.int .i64 t) (.int .i64 j) (.string D))
  clear z0 z1 z2 y0 y1 y2 HF2 HP2 HR2 HB2
  generalize ((w2.setCell ⟨r, 0, none⟩ (.int .i64 t)).setCell ⟨r, 1, none⟩ (.int .i64 j)).setCell ⟨r, 2, none⟩ (.string D) = w3 at *
  have z0 := HF3.out.cell 0; have z1 := HF3.out.cell 1; have z2 := HF3.out.cell 2
  simp only [List.getElem?_toArray, List.getElem?_cons_zero, List.getElem?_cons_succ] at z0 z1 z2
  have HRX := Lib.hid (HRW.out w3 (HT.out.keep HB3.out))
  clear HRW
  cases hrd : Pr.rd ⟨t, j, D⟩ with
  | none =>
    rw [hrd] at HRX HASK
    simp only [readV] at HRX
    have HA := Lib.hid (show A = none by rw [HASK.out, if_neg (by simp)])
    clear hrd HASK
    go_wp2_with fail
    (with_reducible refine (HRX.out).mono ?_)
    rintro e w4 ⟨rfl, hb⟩
    have HF4 := Lib.hid (HF3.out.below hb HF3.out.lt)
    have HP4 := Lib.hid (HP3.out.below hb HP3.out.lt)
    have HR4 := Lib.hid (HR3.out.below hb HR3.out.lt)
    have HB4 := Lib.hid (HB3.out.trans (hb.mono HB3.out.size))
    clear hb z0 z1 z2 HF3 HP3 HR3 HB3 HRX
    go_upto_region 3 with (fail)
    have HF5 := Lib.hid (HF4.out.alloc (.cells #[.int .i64 0, .int .i64 0, .string ⟨#[]⟩, .string ⟨#[]⟩, .int .i64 0, .int .i64 0, .int .i64 0] 27))
    have HP5 := Lib.hid (HP4.out.alloc (.cells #[.int .i64 0, .int .i64 0, .string ⟨#[]⟩, .string ⟨#[]⟩, .int .i64 0, .int .i64 0, .int .i64 0] 27))
    have HR5 := Lib.hid (HR4.out.alloc (.cells #[.int .i64 0, .int .i64 0, .string ⟨#[]⟩, .string ⟨#[]⟩, .int .i64 0, .int .i64 0, .int .i64 0] 27))
    have HB5 := Lib.hid (HB4.out.alloc HB4.out.size (.cells #[.int .i64 0, .int .i64 0, .string ⟨#[]⟩, .string ⟨#[]⟩, .int .i64 0, .int .i64 0, .int .i64 0] 27))
    have HX5 := Lib.hid (Has.new w4 #[.int .i64 0, .int .i64 0, .string ⟨#[]⟩, .string ⟨#[]⟩, .int .i64 0, .int .i64 0, .int .i64 0] 27)
    clear HF4 HP4 HR4 HB4
    generalize w4.heap.size = u at *
    generalize w4.alloc (.cells #[.int .i64 0, .int .i64 0, .string ⟨#[]⟩, .string ⟨#[]⟩, .int .i64 0, .int .i64 0, .int .i64 0] 27) = w5 at *
    have z0 := HF5.out.cell 0; have z1 := HF5.out.cell 1; have z2 := HF5.out.cell 2
    have p0 := HP5.out.cell 0; have p1 := HP5.out.cell 1; have p2 := HP5.out.cell 2; have p3 := HP5.out.cell 3; have p4 := HP5.out.cell 4; have p5 := HP5.out.cell 5; have p6 := HP5.out.cell 6
    have x0 := HX5.out.cell 0; have x1 := HX5.out.cell 1; have x2 := HX5.out.cell 2; have x3 := HX5.out.cell 3; have x4 := HX5.out.cell 4; have x5 := HX5.out.cell 5; have x6 := HX5.out.cell 6
    have r0 := HR5.out.cell 0; have r1' := HR5.out.cell 1; have r2 := HR5.out.cell 2
    have f0 := HR5.out.free 0; have f1 := HR5.out.free 1; have f2 := HR5.out.free 2
    simp only [List.getElem?_toArray, List.getElem?_cons_zero, List.getElem?_cons_succ] at z0 z1 z2 p0 p1 p2 p3 p4 p5 p6 x0 x1 x2 x3 x4 x5 x6 r0 r1' r2
    clear HF5 HP5 HR5 HX5
    go_wp2
    ((try simp only [Exit.inBlock, Exit.then]); refine bodyPost_ret (v := (.tuple #[.agg #[.int .i64 0, .int .i64 0, .string ⟨#[]⟩], .int .i64 35])) ?_ rfl ⟨?_, ?_⟩; (rw [results_cell_tmp1 rfl]; go_simp))
    · rw [HA.out]; rfl
    · repeat (first | (with_reducible exact HB5.out) | refine below_set ?_ _ _ (by omega) _)
  | some x =>
    rw [hrd] at HRX HASK
    by_cases hx : x = ⟨t, j, tok, txt, k, lv, n⟩
    · subst hx
      simp only [readV] at HRX
      have HA := Lib.hid (show A = some ⟨t, j, D⟩ by rw [HASK.out, if_pos rfl])
      clear hrd HASK
      go_wp2_with fail
      (with_reducible refine (HRX.out).mono ?_)
      rintro e w4 ⟨rfl, hb⟩
      have HF4 := Lib.hid (HF3.out.below hb HF3.out.lt)
      have HP4 := Lib.hid (HP3.out.below hb HP3.out.lt)
      have HR4 := Lib.hid (HR3.out.below hb HR3.out.lt)
      have HB4 := Lib.hid (HB3.out.trans (hb.mono HB3.out.size))
      clear hb z0 z1 z2 HF3 HP3 HR3 HB3 HRX
      go_upto_region 3 with (fail)
      have HF5 := Lib.hid (HF4.out.alloc (.cells #[.int .i64 t, .int .i64 j, .string tok, .string txt, .int .i64 k, .int .i64 lv, .int .i64 n] 27))
      have HP5 := Lib.hid (HP4.out.alloc (.cells #[.int .i64 t, .int .i64 j, .string tok, .string txt, .int .i64 k, .int .i64 lv, .int .i64 n] 27))
      have HR5 := Lib.hid (HR4.out.alloc (.cells #[.int .i64 t, .int .i64 j, .string tok, .string txt, .int .i64 k, .int .i64 lv, .int .i64 n] 27))
      have HB5 := Lib.hid (HB4.out.alloc HB4.out.size (.cells #[.int .i64 t, .int .i64 j, .string tok, .string txt, .int .i64 k, .int .i64 lv, .int .i64 n] 27))
      have HX5 := Lib.hid (Has.new w4 #[.int .i64 t, .int .i64 j, .string tok, .string txt, .int .i64 k, .int .i64 lv, .int .i64 n] 27)
      clear HF4 HP4 HR4 HB4
      generalize w4.heap.size = u at *
      generalize w4.alloc (.cells #[.int .i64 t, .int .i64 j, .string tok, .string txt, .int .i64 k, .int .i64 lv, .int .i64 n] 27) = w5 at *
      have z0 := HF5.out.cell 0; have z1 := HF5.out.cell 1; have z2 := HF5.out.cell 2
      have p0 := HP5.out.cell 0; have p1 := HP5.out.cell 1; have p2 := HP5.out.cell 2; have p3 := HP5.out.cell 3; have p4 := HP5.out.cell 4; have p5 := HP5.out.cell 5; have p6 := HP5.out.cell 6
      have x0 := HX5.out.cell 0; have x1 := HX5.out.cell 1; have x2 := HX5.out.cell 2; have x3 := HX5.out.cell 3; have x4 := HX5.out.cell 4; have x5 := HX5.out.cell 5; have x6 := HX5.out.cell 6
      have r0 := HR5.out.cell 0; have r1' := HR5.out.cell 1; have r2 := HR5.out.cell 2
      have f0 := HR5.out.free 0; have f1 := HR5.out.free 1; have f2 := HR5.out.free 2
      simp only [List.getElem?_toArray, List.getElem?_cons_zero, List.getElem?_cons_succ] at z0 z1 z2 p0 p1 p2 p3 p4 p5 p6 x0 x1 x2 x3 x4 x5 x6 r0 r1' r2
      clear HF5 HP5 HR5 HX5
      go_wp2
      ((try simp only [Exit.inBlock, Exit.then]); refine bodyPost_ret (v := (.tuple #[.agg #[.int .i64 t, .int .i64 j, .string D], .int .i64 0])) ?_ rfl ⟨?_, ?_⟩; (rw [results_cell_tmp1 rfl]; go_simp))
      · rw [HA.out]; rfl
      · repeat (first | (with_reducible exact HB5.out) | refine below_set ?_ _ _ (by omega) _)
    · have hne := rq_neq x ⟨t, j, tok, txt, k, lv, n⟩ hx
      have HA := Lib.hid (show A = none by rw [HASK.out, if_neg (fun e => hx (Option.some.inj e))])
      obtain ⟨b1, b2, b3, b4, b5, b6, b7⟩ := x
      simp only [readV] at HRX
      simp only [rqV] at hne
      clear hrd HASK hx
      go_wp2_with fail
      (with_reducible refine (HRX.out).mono ?_)
      rintro e w4 ⟨rfl, hb⟩
      have HF4 := Lib.hid (HF3.out.below hb HF3.out.lt)
      have HP4 := Lib.hid (HP3.out.below hb HP3.out.lt)
      have HR4 := Lib.hid (HR3.out.below hb HR3.out.lt)
      have HB4 := Lib.hid (HB3.out.trans (hb.mono HB3.out.size))
      clear hb z0 z1 z2 HF3 HP3 HR3 HB3 HRX
      go_upto_region 3 with (fail)
      have HF5 := Lib.hid (HF4.out.alloc (.cells #[.int .i64 b1, .int .i64 b2, .string b3, .string b4, .int .i64 b5, .int .i64 b6, .int .i64 b7] 27))
      have HP5 := Lib.hid (HP4.out.alloc (.cells #[.int .i64 b1, .int .i64 b2, .string b3, .string b4, .int .i64 b5, .int .i64 b6, .int .i64 b7] 27))
      have HR5 := Lib.hid (HR4.out.alloc (.cells #[.int .i64 b1, .int .i64 b2, .string b3, .string b4, .int .i64 b5, .int .i64 b6, .int .i64 b7] 27))
      have HB5 := Lib.hid (HB4.out.alloc HB4.out.size (.cells #[.int .i64 b1, .int .i64 b2, .string b3, .string b4, .int .i64 b5, .int .i64 b6, .int .i64 b7] 27))
      have HX5 := Lib.hid (Has.new w4 #[.int .i64 b1, .int .i64 b2, .string b3, .string b4, .int .i64 b5, .int .i64 b6, .int .i64 b7] 27)
      clear HF4 HP4 HR4 HB4
      generalize w4.heap.size = u at *
      generalize w4.alloc (.cells #[.int .i64 b1, .int .i64 b2, .string b3, .string b4, .int .i64 b5, .int .i64 b6, .int .i64 b7] 27) = w5 at *
      have z0 := HF5.out.cell 0; have z1 := HF5.out.cell 1; have z2 := HF5.out.cell 2
      have p0 := HP5.out.cell 0; have p1 := HP5.out.cell 1; have p2 := HP5.out.cell 2; have p3 := HP5.out.cell 3; have p4 := HP5.out.cell 4; have p5 := HP5.out.cell 5; have p6 := HP5.out.cell 6
      have x0 := HX5.out.cell 0; have x1 := HX5.out.cell 1; have x2 := HX5.out.cell 2; have x3 := HX5.out.cell 3; have x4 := HX5.out.cell 4; have x5 := HX5.out.cell 5; have x6 := HX5.out.cell 6
      have r0 := HR5.out.cell 0; have r1' := HR5.out.cell 1; have r2 := HR5.out.cell 2
      have f0 := HR5.out.free 0; have f1 := HR5.out.free 1; have f2 := HR5.out.free 2
      simp only [List.getElem?_toArray, List.getElem?_cons_zero, List.getElem?_cons_succ] at z0 z1 z2 p0 p1 p2 p3 p4 p5 p6 x0 x1 x2 x3 x4 x5 x6 r0 r1' r2
      clear HF5 HP5 HR5 HX5
      go_wp2
      ((try simp only [Exit.inBlock, Exit.then]); refine bodyPost_ret (v := (.tuple #[.agg #[.int .i64 0, .int .i64 0, .string ⟨#[]⟩], .int .i64 35])) ?_ rfl ⟨?_, ?_⟩; (rw [results_cell_tmp1 rfl]; go_simp))
      · rw [HA.out]; rfl
      · repeat (first | (with_reducible exact HB5.out) | refine below_set ?_ _ _ (by omega) _)
end Go.Proofs.YtckdbkbecelgcaaDoor
