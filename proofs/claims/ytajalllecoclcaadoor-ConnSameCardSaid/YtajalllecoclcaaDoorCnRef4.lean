/- The reference's acts: Step. -/
import Derived.Test.YtajalllecoclcaaDoorCnRef1
namespace Go.Proofs.YtajalllecoclcaaDoor
open Go.RowKit
set_option linter.unusedVariables false
set_option linter.unusedSimpArgs false

theorem cnstep_l (l : List Tn.Ten) (L : List Cn.Act) (f : Fr.Frm) (h : Cn.tenant L = -1) : Cn.step l L f = Cn.login l f := by unfold Cn.step; rw [if_pos h]
theorem cnstep_n (l : List Tn.Ten) (L : List Cn.Act) (f : Fr.Frm) (h : ¬ Cn.tenant L = -1) (hr : Pr.rd f = none) : Cn.step l L f = ⟨1, f.j, 0, 0, 0, 0, Pr.e0, 35⟩ := by unfold Cn.step; rw [if_neg h, hr]; rfl
theorem cnstep_s (l : List Tn.Ten) (L : List Cn.Act) (f : Fr.Frm) (r : Pr.Rq) (h : ¬ Cn.tenant L = -1) (hr : Pr.rd f = some r) : Cn.step l L f = Cn.act L r := by unfold Cn.step; rw [if_neg h, hr]
theorem cnover_6 (L : List Cn.Act) (r : Pr.Rq) (h : Cn.had L 6 r.j = true) : Cn.over L r = true := by unfold Cn.over; rw [h]; rfl
theorem cnover_5 (L : List Cn.Act) (r : Pr.Rq) (b : Bool) (h : Cn.had L 6 r.j = false) (h5 : Cn.had L 5 r.j = b) (ht : r.t = 3 ∨ r.t = 4) : Cn.over L r = b := by
  unfold Cn.over
  rw [h, h5]
  rcases ht with ht | ht <;> simp [ht]
theorem cnover_x (L : List Cn.Act) (r : Pr.Rq) (h : Cn.had L 6 r.j = false) (h3 : ¬ r.t = 3) (h4 : ¬ r.t = 4) : Cn.over L r = false := by
  unfold Cn.over
  rw [h]
  simp [h3, h4]
set_option maxRecDepth 100000 in
set_option maxHeartbeats 3000000 in
theorem refstep_walk (l : List Tn.Ten) (L : List Cn.Act) (ta : Option Addr) (tc : Nat) (la : Option Addr) (lc : Nat) (t j : Int) (d : ByteArray) (w : World) (hrt : RowS w 5 ta l.length tc (l.flatMap tncells)) (hr : RowS w 8 la L.length lc (L.flatMap accells)) (hl : l.length ≤ 1000) (h60 : L.length ≤ 60) (hg : Cn.Good L) :
    Calls Tryd.prog 17 #[.agg #[.slice ta l.length tc, .slice la L.length lc], .agg #[.int .i64 t, .int .i64 j, .string d]] w fun r w' => r = .returned (actV (Cn.step l L ⟨t, j, d⟩)) ∧ Below w.heap.size w w' := by
  have HRT := Lib.hid hrt
  have HRL := Lib.hid hr
  have HRD := Lib.hid (fun w => rread_walk t j d w)
  have HTN := Lib.hid (fun w hr => reftenant_walk L ta l.length tc la lc w hr h60)
  have HLG := Lib.hid (fun w hrt => Calls.act (reflogin_walk l L ta tc la lc t j d w hrt hl))
  have SL := cnstep_l l L ⟨t, j, d⟩; have SN := cnstep_n l L ⟨t, j, d⟩; have SS := cnstep_s l L ⟨t, j, d⟩
  have hten : Cn.tenant L = -1 ∨ 0 ≤ Cn.tenant L := by
    rcases hg.ten with ⟨h, _⟩ | h
    · exact .inl h
    · exact .inr h
  have HH3 := Lib.hid (fun w hr => refhad_walk L ta l.length tc la lc 3 j w hr h60)
  have HH5 := Lib.hid (fun w hr => refhad_walk L ta l.length tc la lc 5 j w hr h60)
  have HH6 := Lib.hid (fun w hr => refhad_walk L ta l.length tc la lc 6 j w hr h60)
  have HOP := Lib.hid (fun (r : Pr.Rq) w hr => Calls.act (refopen_walk l L ta tc la lc r t d w hr h60))
  generalize Cn.step l L ⟨t, j, d⟩ = X at *
  clear hrt hr hg h60 hl
  by_cases h0 : Cn.tenant L = -1
  · rw [SL h0]
    rw [h0] at HTN
    generalize Cn.login l ⟨t, j, d⟩ = X at *
    clear SL SN SS hten HH3 HH5 HH6 HOP HRD h0
    go_enter Tryd.func17, Tryd.ntmps17
    go_upto_region 1 with (fail)
    have H3 := Lib.hid (T3.new w #[.slice ta l.length tc, .slice la L.length lc] #[.int .i64 t, .int .i64 j, .string d] #[.int .i64 0, .int .i64 0, .int .i64 0, .int .i64 0, .int .i64 0, .int .i64 0, .string ⟨#[]⟩, .int .i64 0] 33 42 44)
    generalize ((w.alloc (.cells #[.slice ta l.length tc, .slice la L.length lc] 33)).alloc (.cells #[.int .i64 t, .int .i64 j, .string d] 42)).alloc (.cells #[.int .i64 0, .int .i64 0, .int .i64 0, .int .i64 0, .int .i64 0, .int .i64 0, .string ⟨#[]⟩, .int .i64 0] 44) = w1 at *
    have p0 := H3.out.hp.cell 0; have p1 := H3.out.hp.cell 1
    have q0 := H3.out.hr.cell 0; have q1 := H3.out.hr.cell 1; have q2 := H3.out.hr.cell 2
    have z0 := H3.out.ha.cell 0; have z1 := H3.out.ha.cell 1; have z2 := H3.out.ha.cell 2; have z3 := H3.out.ha.cell 3; have z4 := H3.out.ha.cell 4; have z5 := H3.out.ha.cell 5; have z6 := H3.out.ha.cell 6; have z7 := H3.out.ha.cell 7
    have g0 := H3.out.ha.free 0; have g1 := H3.out.ha.free 1; have g2 := H3.out.ha.free 2; have g3 := H3.out.ha.free 3; have g4 := H3.out.ha.free 4; have g5 := H3.out.ha.free 5; have g6 := H3.out.ha.free 6; have g7 := H3.out.ha.free 7
    simp only [List.getElem?_toArray, List.getElem?_cons_zero, List.getElem?_cons_succ] at p0 p1 q0 q1 q2 z0 z1 z2 z3 z4 z5 z6 z7
    go_wp2_with fail
    with_reducible refine (HTN.out _ (HRL.out.keep H3.out.hb)).mono ?_
    rintro r9 w9 ⟨rfl, hb⟩
    clear p0 p1 q0 q1 q2 z0 z1 z2 z3 z4 z5 z6 z7 g0 g1 g2 g3 g4 g5 g6 g7
    have H3b := Lib.hid (H3.out.keep hb)
    clear H3
    have H3 := H3b
    clear H3b
    clear hb HTN
    have p0 := H3.out.hp.cell 0; have p1 := H3.out.hp.cell 1
    have q0 := H3.out.hr.cell 0; have q1 := H3.out.hr.cell 1; have q2 := H3.out.hr.cell 2
    have z0 := H3.out.ha.cell 0; have z1 := H3.out.ha.cell 1; have z2 := H3.out.ha.cell 2; have z3 := H3.out.ha.cell 3; have z4 := H3.out.ha.cell 4; have z5 := H3.out.ha.cell 5; have z6 := H3.out.ha.cell 6; have z7 := H3.out.ha.cell 7
    have g0 := H3.out.ha.free 0; have g1 := H3.out.ha.free 1; have g2 := H3.out.ha.free 2; have g3 := H3.out.ha.free 3; have g4 := H3.out.ha.free 4; have g5 := H3.out.ha.free 5; have g6 := H3.out.ha.free 6; have g7 := H3.out.ha.free 7
    simp only [List.getElem?_toArray, List.getElem?_cons_zero, List.getElem?_cons_succ] at p0 p1 q0 q1 q2 z0 z1 z2 z3 z4 z5 z6 z7
    go_wp2_with fail
    with_reducible refine (HLG.out _ (HRT.out.keep H3.out.hb)).mono ?_
    rintro r4 w4 ⟨rfl, hb⟩
    clear p0 p1 q0 q1 q2 z0 z1 z2 z3 z4 z5 z6 z7 g0 g1 g2 g3 g4 g5 g6 g7
    have H3b := Lib.hid (H3.out.keep hb)
    clear H3
    have H3 := H3b
    clear H3b
    clear hb HLG
    have p0 := H3.out.hp.cell 0; have p1 := H3.out.hp.cell 1
    have q0 := H3.out.hr.cell 0; have q1 := H3.out.hr.cell 1; have q2 := H3.out.hr.cell 2
    have z0 := H3.out.ha.cell 0; have z1 := H3.out.ha.cell 1; have z2 := H3.out.ha.cell 2; have z3 := H3.out.ha.cell 3; have z4 := H3.out.ha.cell 4; have z5 := H3.out.ha.cell 5; have z6 := H3.out.ha.cell 6; have z7 := H3.out.ha.cell 7
    have g0 := H3.out.ha.free 0; have g1 := H3.out.ha.free 1; have g2 := H3.out.ha.free 2; have g3 := H3.out.ha.free 3; have g4 := H3.out.ha.free 4; have g5 := H3.out.ha.free 5; have g6 := H3.out.ha.free 6; have g7 := H3.out.ha.free 7
    simp only [List.getElem?_toArray, List.getElem?_cons_zero, List.getElem?_cons_succ] at p0 p1 q0 q1 q2 z0 z1 z2 z3 z4 z5 z6 z7
    have HBX := Lib.hid H3.out.hb
    go_wp2
    ((try simp only [Exit.inBlock, Exit.then]); refine bodyPost_ret (v := (.agg #[.int .i64 X.what, .int .i64 X.job, .int .i64 X.ten, .int .i64 X.kind, .int .i64 X.lev, .int .i64 X.n, .string X.txt, .int .i64 X.err])) ?_ rfl ⟨?_, ?_⟩; (rw [results_cell1 rfl]; go_simp))
    · rfl
    · repeat (first | (with_reducible exact HBX.out) | refine below_set ?_ _ _ (by omega) _)
  have h0' : ¬ Cn.tenant L < 0 := by omega
  have SM := SN h0
  have SQ := fun r => SS r h0
  clear SL SN SS HLG hten h0
  generalize Cn.tenant L = T at *
  cases hr : Pr.rd ⟨t, j, d⟩ with
  | none =>
    rw [SM hr]
    rw [hr] at HRD
    simp only [askV] at HRD
    simp only [actV]
    clear SM SQ HH3 HH5 HH6 HOP hr
    go_enter Tryd.func17, Tryd.ntmps17
    go_upto_region 1 with (fail)
    have H3 := Lib.hid (T3.new w #[.slice ta l.length tc, .slice la L.length lc] #[.int .i64 t, .int .i64 j, .string d] #[.int .i64 0, .int .i64 0, .int .i64 0, .int .i64 0, .int .i64 0, .int .i64 0, .string ⟨#[]⟩, .int .i64 0] 33 42 44)
    generalize ((w.alloc (.cells #[.slice ta l.length tc, .slice la L.length lc] 33)).alloc (.cells #[.int .i64 t, .int .i64 j, .string d] 42)).alloc (.cells #[.int .i64 0, .int .i64 0, .int .i64 0, .int .i64 0, .int .i64 0, .int .i64 0, .string ⟨#[]⟩, .int .i64 0] 44) = w1 at *
    have p0 := H3.out.hp.cell 0; have p1 := H3.out.hp.cell 1
    have q0 := H3.out.hr.cell 0; have q1 := H3.out.hr.cell 1; have q2 := H3.out.hr.cell 2
    have z0 := H3.out.ha.cell 0; have z1 := H3.out.ha.cell 1; have z2 := H3.out.ha.cell 2; have z3 := H3.out.ha.cell 3; have z4 := H3.out.ha.cell 4; have z5 := H3.out.ha.cell 5; have z6 := H3.out.ha.cell 6; have z7 := H3.out.ha.cell 7
    have g0 := H3.out.ha.free 0; have g1 := H3.out.ha.free 1; have g2 := H3.out.ha.free 2; have g3 := H3.out.ha.free 3; have g4 := H3.out.ha.free 4; have g5 := H3.out.ha.free 5; have g6 := H3.out.ha.free 6; have g7 := H3.out.ha.free 7
    simp only [List.getElem?_toArray, List.getElem?_cons_zero, List.getElem?_cons_succ] at p0 p1 q0 q1 q2 z0 z1 z2 z3 z4 z5 z6 z7
    go_wp2_with fail
    with_reducible refine (HTN.out _ (HRL.out.keep H3.out.hb)).mono ?_
    rintro r9 w9 ⟨rfl, hb⟩
    clear p0 p1 q0 q1 q2 z0 z1 z2 z3 z4 z5 z6 z7 g0 g1 g2 g3 g4 g5 g6 g7
    have H3b := Lib.hid (H3.out.keep hb)
    clear H3
    have H3 := H3b
    clear H3b
    clear hb HTN
    have p0 := H3.out.hp.cell 0; have p1 := H3.out.hp.cell 1
    have q0 := H3.out.hr.cell 0; have q1 := H3.out.hr.cell 1; have q2 := H3.out.hr.cell 2
    have z0 := H3.out.ha.cell 0; have z1 := H3.out.ha.cell 1; have z2 := H3.out.ha.cell 2; have z3 := H3.out.ha.cell 3; have z4 := H3.out.ha.cell 4; have z5 := H3.out.ha.cell 5; have z6 := H3.out.ha.cell 6; have z7 := H3.out.ha.cell 7
    have g0 := H3.out.ha.free 0; have g1 := H3.out.ha.free 1; have g2 := H3.out.ha.free 2; have g3 := H3.out.ha.free 3; have g4 := H3.out.ha.free 4; have g5 := H3.out.ha.free 5; have g6 := H3.out.ha.free 6; have g7 := H3.out.ha.free 7
    simp only [List.getElem?_toArray, List.getElem?_cons_zero, List.getElem?_cons_succ] at p0 p1 q0 q1 q2 z0 z1 z2 z3 z4 z5 z6 z7
    go_wp2_with fail
    with_reducible refine (HRD.out _).mono ?_
    rintro r2 w2 ⟨rfl, hb⟩
    clear p0 p1 q0 q1 q2 z0 z1 z2 z3 z4 z5 z6 z7 g0 g1 g2 g3 g4 g5 g6 g7
    have H3b := Lib.hid (H3.out.keep hb)
    clear H3
    have H3 := H3b
    clear H3b
    clear hb HRD
    go_upto_region 4 with (fail)
    have hb := (Below.refl _ w2).alloc (Nat.le_refl _) (.cells #[.int .i64 0, .int .i64 0, .string ⟨#[]⟩, .string ⟨#[]⟩, .int .i64 0, .int .i64 0, .int .i64 0, .bool false] 78)
    have HV := Lib.hid (Has.new w2 #[.int .i64 0, .int .i64 0, .string ⟨#[]⟩, .string ⟨#[]⟩, .int .i64 0, .int .i64 0, .int .i64 0, .bool false] 78)
    have H3b := Lib.hid (H3.out.keep hb)
    clear H3
    have H3 := H3b
    clear H3b
    clear hb
    generalize w2.alloc (.cells #[.int .i64 0, .int .i64 0, .string ⟨#[]⟩, .string ⟨#[]⟩, .int .i64 0, .int .i64 0, .int .i64 0, .bool false] 78) = w3 at *
    generalize w2.heap.size = pv at *
    have p0 := H3.out.hp.cell 0; have p1 := H3.out.hp.cell 1
    have q0 := H3.out.hr.cell 0; have q1 := H3.out.hr.cell 1; have q2 := H3.out.hr.cell 2
    have z0 := H3.out.ha.cell 0; have z1 := H3.out.ha.cell 1; have z2 := H3.out.ha.cell 2; have z3 := H3.out.ha.cell 3; have z4 := H3.out.ha.cell 4; have z5 := H3.out.ha.cell 5; have z6 := H3.out.ha.cell 6; have z7 := H3.out.ha.cell 7
    have g0 := H3.out.ha.free 0; have g1 := H3.out.ha.free 1; have g2 := H3.out.ha.free 2; have g3 := H3.out.ha.free 3; have g4 := H3.out.ha.free 4; have g5 := H3.out.ha.free 5; have g6 := H3.out.ha.free 6; have g7 := H3.out.ha.free 7
    simp only [List.getElem?_toArray, List.getElem?_cons_zero, List.getElem?_cons_succ] at p0 p1 q0 q1 q2 z0 z1 z2 z3 z4 z5 z6 z7
    have v0 := HV.out.cell 0; have v1 := HV.out.cell 1; have v2 := HV.out.cell 2; have v3 := HV.out.cell 3; have v4 := HV.out.cell 4; have v5 := HV.out.cell 5; have v6 := HV.out.cell 6; have v7 := HV.out.cell 7
    simp only [List.getElem?_toArray, List.getElem?_cons_zero, List.getElem?_cons_succ] at v0 v1 v2 v3 v4 v5 v6 v7
    go_wp2_with fail
    clear v0 v1 v2 v3 v4 v5 v6 v7
    with_reducible refine (refrefuse_walk _ _ _ _ _).mono ?_
    rintro r5 w5 ⟨rfl, hb⟩
    clear p0 p1 q0 q1 q2 z0 z1 z2 z3 z4 z5 z6 z7 g0 g1 g2 g3 g4 g5 g6 g7
    have H3b := Lib.hid (H3.out.keep hb)
    clear H3
    have H3 := H3b
    clear H3b
    clear hb
    have p0 := H3.out.hp.cell 0; have p1 := H3.out.hp.cell 1
    have q0 := H3.out.hr.cell 0; have q1 := H3.out.hr.cell 1; have q2 := H3.out.hr.cell 2
    have z0 := H3.out.ha.cell 0; have z1 := H3.out.ha.cell 1; have z2 := H3.out.ha.cell 2; have z3 := H3.out.ha.cell 3; have z4 := H3.out.ha.cell 4; have z5 := H3.out.ha.cell 5; have z6 := H3.out.ha.cell 6; have z7 := H3.out.ha.cell 7
    have g0 := H3.out.ha.free 0; have g1 := H3.out.ha.free 1; have g2 := H3.out.ha.free 2; have g3 := H3.out.ha.free 3; have g4 := H3.out.ha.free 4; have g5 := H3.out.ha.free 5; have g6 := H3.out.ha.free 6; have g7 := H3.out.ha.free 7
    simp only [List.getElem?_toArray, List.getElem?_cons_zero, List.getElem?_cons_succ] at p0 p1 q0 q1 q2 z0 z1 z2 z3 z4 z5 z6 z7
    have HBX := Lib.hid H3.out.hb
    go_wp2
    ((try simp only [Exit.inBlock, Exit.then]); refine bodyPost_ret (v := (.agg #[.int .i64 1, .int .i64 j, .int .i64 0, .int .i64 0, .int .i64 0, .int .i64 0, .string ⟨#[]⟩, .int .i64 35])) ?_ rfl ⟨?_, ?_⟩; (rw [results_cell1 rfl]; go_simp))
    · rfl
    · repeat (first | (with_reducible exact HBX.out) | refine below_set ?_ _ _ (by omega) _)
  | some r =>
    rw [SQ _ hr]
    rw [hr] at HRD
    simp only [askV] at HRD
    have hrd := Pr.rd_data _ _ hr
    have hrt := Cn.rd_t _ _ hr
    have HOQ := Lib.hid (HOP.out r)
    clear HOP
    have HOP := HOQ
    clear HOQ
    have A1 := act_1 L r; have A2 := act_2 L r; have A7 := act_7 L r; have AN := act_n L r; have AO := act_o L r; have AU := act_u L r
    have O6 := cnover_6 L r; have O5 := cnover_5 L r; have OX := cnover_x L r
    have U3 := use_3 r; have U4 := use_4 r; have U5 := use_5 r; have UX := use_x r
    clear SM SQ hr
    generalize Cn.act L r = X at *
    generalize Cn.opn L r = Xo at *
    generalize Cn.use r = Xu at *
    generalize Cn.over L r = ov at *
    simp only at hrd
    obtain ⟨rt, rj, tok, txt, k, lv, n⟩ := r
    simp only at hrd HRD HOP A1 A2 A7 AN AO AU O6 O5 OX U3 U4 U5 UX hrt
    obtain ⟨rfl, rfl, -⟩ := hrd
    generalize rj = j at *
    by_cases t1 : rt = 1
    · rw [A1 t1]
      simp only [actV, Cn.refuse]
      subst t1
      clear A1 A2 A7 AN AO AU O6 O5 OX U3 U4 U5 UX HH3 HH5 HH6 HOP hrt
      go_enter Tryd.func17, Tryd.ntmps17
      go_upto_region 1 with (fail)
      have H3 := Lib.hid (T3.new w #[.slice ta l.length tc, .slice la L.length lc] #[.int .i64 1, .int .i64 j, .string d] #[.int .i64 0, .int .i64 0, .int .i64 0, .int .i64 0, .int .i64 0, .int .i64 0, .string ⟨#[]⟩, .int .i64 0] 33 42 44)
      generalize ((w.alloc (.cells #[.slice ta l.length tc, .slice la L.length lc] 33)).alloc (.cells #[.int .i64 1, .int .i64 j, .string d] 42)).alloc (.cells #[.int .i64 0, .int .i64 0, .int .i64 0, .int .i64 0, .int .i64 0, .int .i64 0, .string ⟨#[]⟩, .int .i64 0] 44) = w1 at *
      have p0 := H3.out.hp.cell 0; have p1 := H3.out.hp.cell 1
      have q0 := H3.out.hr.cell 0; have q1 := H3.out.hr.cell 1; have q2 := H3.out.hr.cell 2
      have z0 := H3.out.ha.cell 0; have z1 := H3.out.ha.cell 1; have z2 := H3.out.ha.cell 2; have z3 := H3.out.ha.cell 3; have z4 := H3.out.ha.cell 4; have z5 := H3.out.ha.cell 5; have z6 := H3.out.ha.cell 6; have z7 := H3.out.ha.cell 7
      have g0 := H3.out.ha.free 0; have g1 := H3.out.ha.free 1; have g2 := H3.out.ha.free 2; have g3 := H3.out.ha.free 3; have g4 := H3.out.ha.free 4; have g5 := H3.out.ha.free 5; have g6 := H3.out.ha.free 6; have g7 := H3.out.ha.free 7
      simp only [List.getElem?_toArray, List.getElem?_cons_zero, List.getElem?_cons_succ] at p0 p1 q0 q1 q2 z0 z1 z2 z3 z4 z5 z6 z7
      go_wp2_with fail
      with_reducible refine (HTN.out _ (HRL.out.keep H3.out.hb)).mono ?_
      rintro r9 w9 ⟨rfl, hb⟩
      clear p0 p1 q0 q1 q2 z0 z1 z2 z3 z4 z5 z6 z7 g0 g1 g2 g3 g4 g5 g6 g7
      have H3b := Lib.hid (H3.out.keep hb)
      clear H3
      have H3 := H3b
      clear H3b
      clear hb HTN
      have p0 := H3.out.hp.cell 0; have p1 := H3.out.hp.cell 1
      have q0 := H3.out.hr.cell 0; have q1 := H3.out.hr.cell 1; have q2 := H3.out.hr.cell 2
      have z0 := H3.out.ha.cell 0; have z1 := H3.out.ha.cell 1; have z2 := H3.out.ha.cell 2; have z3 := H3.out.ha.cell 3; have z4 := H3.out.ha.cell 4; have z5 := H3.out.ha.cell 5; have z6 := H3.out.ha.cell 6; have z7 := H3.out.ha.cell 7
      have g0 := H3.out.ha.free 0; have g1 := H3.out.ha.free 1; have g2 := H3.out.ha.free 2; have g3 := H3.out.ha.free 3; have g4 := H3.out.ha.free 4; have g5 := H3.out.ha.free 5; have g6 := H3.out.ha.free 6; have g7 := H3.out.ha.free 7
      simp only [List.getElem?_toArray, List.getElem?_cons_zero, List.getElem?_cons_succ] at p0 p1 q0 q1 q2 z0 z1 z2 z3 z4 z5 z6 z7
      go_wp2_with fail
      with_reducible refine (HRD.out _).mono ?_
      rintro r2 w2 ⟨rfl, hb⟩
      clear p0 p1 q0 q1 q2 z0 z1 z2 z3 z4 z5 z6 z7 g0 g1 g2 g3 g4 g5 g6 g7
      have H3b := Lib.hid (H3.out.keep hb)
      clear H3
      have H3 := H3b
      clear H3b
      clear hb HRD
      go_upto_region 4 with (fail)
      have hb := (Below.refl _ w2).alloc (Nat.le_refl _) (.cells #[.int .i64 1, .int .i64 j, .string tok, .string txt, .int .i64 k, .int .i64 lv, .int .i64 n, .bool true] 78)
      have HV := Lib.hid (Has.new w2 #[.int .i64 1, .int .i64 j, .string tok, .string txt, .int .i64 k, .int .i64 lv, .int .i64 n, .bool true] 78)
      have H3b := Lib.hid (H3.out.keep hb)
      clear H3
      have H3 := H3b
      clear H3b
      clear hb
      generalize w2.alloc (.cells #[.int .i64 1, .int .i64 j, .string tok, .string txt, .int .i64 k, .int .i64 lv, .int .i64 n, .bool true] 78) = w3 at *
      generalize w2.heap.size = pv at *
      have p0 := H3.out.hp.cell 0; have p1 := H3.out.hp.cell 1
      have q0 := H3.out.hr.cell 0; have q1 := H3.out.hr.cell 1; have q2 := H3.out.hr.cell 2
      have z0 := H3.out.ha.cell 0; have z1 := H3.out.ha.cell 1; have z2 := H3.out.ha.cell 2; have z3 := H3.out.ha.cell 3; have z4 := H3.out.ha.cell 4; have z5 := H3.out.ha.cell 5; have z6 := H3.out.ha.cell 6; have z7 := H3.out.ha.cell 7
      have g0 := H3.out.ha.free 0; have g1 := H3.out.ha.free 1; have g2 := H3.out.ha.free 2; have g3 := H3.out.ha.free 3; have g4 := H3.out.ha.free 4; have g5 := H3.out.ha.free 5; have g6 := H3.out.ha.free 6; have g7 := H3.out.ha.free 7
      simp only [List.getElem?_toArray, List.getElem?_cons_zero, List.getElem?_cons_succ] at p0 p1 q0 q1 q2 z0 z1 z2 z3 z4 z5 z6 z7
      have v0 := HV.out.cell 0; have v1 := HV.out.cell 1; have v2 := HV.out.cell 2; have v3 := HV.out.cell 3; have v4 := HV.out.cell 4; have v5 := HV.out.cell 5; have v6 := HV.out.cell 6; have v7 := HV.out.cell 7
      simp only [List.getElem?_toArray, List.getElem?_cons_zero, List.getElem?_cons_succ] at v0 v1 v2 v3 v4 v5 v6 v7
      go_wp2_with fail
      clear v0 v1 v2 v3 v4 v5 v6 v7
      with_reducible refine (refrefuse_walk _ _ _ _ _).mono ?_
      rintro r5 w5 ⟨rfl, hb⟩
      clear p0 p1 q0 q1 q2 z0 z1 z2 z3 z4 z5 z6 z7 g0 g1 g2 g3 g4 g5 g6 g7
      have H3b := Lib.hid (H3.out.keep hb)
      clear H3
      have H3 := H3b
      clear H3b
      clear hb
      have p0 := H3.out.hp.cell 0; have p1 := H3.out.hp.cell 1
      have q0 := H3.out.hr.cell 0; have q1 := H3.out.hr.cell 1; have q2 := H3.out.hr.cell 2
      have z0 := H3.out.ha.cell 0; have z1 := H3.out.ha.cell 1; have z2 := H3.out.ha.cell 2; have z3 := H3.out.ha.cell 3; have z4 := H3.out.ha.cell 4; have z5 := H3.out.ha.cell 5; have z6 := H3.out.ha.cell 6; have z7 := H3.out.ha.cell 7
      have g0 := H3.out.ha.free 0; have g1 := H3.out.ha.free 1; have g2 := H3.out.ha.free 2; have g3 := H3.out.ha.free 3; have g4 := H3.out.ha.free 4; have g5 := H3.out.ha.free 5; have g6 := H3.out.ha.free 6; have g7 := H3.out.ha.free 7
      simp only [List.getElem?_toArray, List.getElem?_cons_zero, List.getElem?_cons_succ] at p0 p1 q0 q1 q2 z0 z1 z2 z3 z4 z5 z6 z7
      have HBX := Lib.hid H3.out.hb
      go_wp2
      ((try simp only [Exit.inBlock, Exit.then]); refine bodyPost_ret (v := (.agg #[.int .i64 1, .int .i64 j, .int .i64 0, .int .i64 0, .int .i64 0, .int .i64 0, .string ⟨#[]⟩, .int .i64 8])) ?_ rfl ⟨?_, ?_⟩; (rw [results_cell1 rfl]; go_simp))
      · rfl
      · repeat (first | (with_reducible exact HBX.out) | refine below_set ?_ _ _ (by omega) _)
    by_cases t2 : rt = 2
    · rw [A2 t2]
      subst t2
      clear A1 A2 A7 AN AO AU O6 O5 OX U3 U4 U5 UX HH3 HH5 HH6 hrt t1
      go_enter Tryd.func17, Tryd.ntmps17
      go_upto_region 1 with (fail)
      have H3 := Lib.hid (T3.new w #[.slice ta l.length tc, .slice la L.length lc] #[.int .i64 2, .int .i64 j, .string d] #[.int .i64 0, .int .i64 0, .int .i64 0, .int .i64 0, .int .i64 0, .int .i64 0, .string ⟨#[]⟩, .int .i64 0] 33 42 44)
      generalize ((w.alloc (.cells #[.slice ta l.length tc, .slice la L.length lc] 33)).alloc (.cells #[.int .i64 2, .int .i64 j, .string d] 42)).alloc (.cells #[.int .i64 0, .int .i64 0, .int .i64 0, .int .i64 0, .int .i64 0, .int .i64 0, .string ⟨#[]⟩, .int .i64 0] 44) = w1 at *
      have p0 := H3.out.hp.cell 0; have p1 := H3.out.hp.cell 1
      have q0 := H3.out.hr.cell 0; have q1 := H3.out.hr.cell 1; have q2 := H3.out.hr.cell 2
      have z0 := H3.out.ha.cell 0; have z1 := H3.out.ha.cell 1; have z2 := H3.out.ha.cell 2; have z3 := H3.out.ha.cell 3; have z4 := H3.out.ha.cell 4; have z5 := H3.out.ha.cell 5; have z6 := H3.out.ha.cell 6; have z7 := H3.out.ha.cell 7
      have g0 := H3.out.ha.free 0; have g1 := H3.out.ha.free 1; have g2 := H3.out.ha.free 2; have g3 := H3.out.ha.free 3; have g4 := H3.out.ha.free 4; have g5 := H3.out.ha.free 5; have g6 := H3.out.ha.free 6; have g7 := H3.out.ha.free 7
      simp only [List.getElem?_toArray, List.getElem?_cons_zero, List.getElem?_cons_succ] at p0 p1 q0 q1 q2 z0 z1 z2 z3 z4 z5 z6 z7
      go_wp2_with fail
      with_reducible refine (HTN.out _ (HRL.out.keep H3.out.hb)).mono ?_
      rintro r9 w9 ⟨rfl, hb⟩
      clear p0 p1 q0 q1 q2 z0 z1 z2 z3 z4 z5 z6 z7 g0 g1 g2 g3 g4 g5 g6 g7
      have H3b := Lib.hid (H3.out.keep hb)
      clear H3
      have H3 := H3b
      clear H3b
      clear hb HTN
      have p0 := H3.out.hp.cell 0; have p1 := H3.out.hp.cell 1
      have q0 := H3.out.hr.cell 0; have q1 := H3.out.hr.cell 1; have q2 := H3.out.hr.cell 2
      have z0 := H3.out.ha.cell 0; have z1 := H3.out.ha.cell 1; have z2 := H3.out.ha.cell 2; have z3 := H3.out.ha.cell 3; have z4 := H3.out.ha.cell 4; have z5 := H3.out.ha.cell 5; have z6 := H3.out.ha.cell 6; have z7 := H3.out.ha.cell 7
      have g0 := H3.out.ha.free 0; have g1 := H3.out.ha.free 1; have g2 := H3.out.ha.free 2; have g3 := H3.out.ha.free 3; have g4 := H3.out.ha.free 4; have g5 := H3.out.ha.free 5; have g6 := H3.out.ha.free 6; have g7 := H3.out.ha.free 7
      simp only [List.getElem?_toArray, List.getElem?_cons_zero, List.getElem?_cons_succ] at p0 p1 q0 q1 q2 z0 z1 z2 z3 z4 z5 z6 z7
      go_wp2_with fail
      with_reducible refine (HRD.out _).mono ?_
      rintro r2 w2 ⟨rfl, hb⟩
      clear p0 p1 q0 q1 q2 z0 z1 z2 z3 z4 z5 z6 z7 g0 g1 g2 g3 g4 g5 g6 g7
      have H3b := Lib.hid (H3.out.keep hb)
      clear H3
      have H3 := H3b
      clear H3b
      clear hb HRD
      go_upto_region 4 with (fail)
      have hb := (Below.refl _ w2).alloc (Nat.le_refl _) (.cells #[.int .i64 2, .int .i64 j, .string tok, .string txt, .int .i64 k, .int .i64 lv, .int .i64 n, .bool true] 78)
      have HV := Lib.hid (Has.new w2 #[.int .i64 2, .int .i64 j, .string tok, .string txt, .int .i64 k, .int .i64 lv, .int .i64 n, .bool true] 78)
      have H3b := Lib.hid (H3.out.keep hb)
      clear H3
      have H3 := H3b
      clear H3b
      clear hb
      generalize w2.alloc (.cells #[.int .i64 2, .int .i64 j, .string tok, .string txt, .int .i64 k, .int .i64 lv, .int .i64 n, .bool true] 78) = w3 at *
      generalize w2.heap.size = pv at *
      have p0 := H3.out.hp.cell 0; have p1 := H3.out.hp.cell 1
      have q0 := H3.out.hr.cell 0; have q1 := H3.out.hr.cell 1; have q2 := H3.out.hr.cell 2
      have z0 := H3.out.ha.cell 0; have z1 := H3.out.ha.cell 1; have z2 := H3.out.ha.cell 2; have z3 := H3.out.ha.cell 3; have z4 := H3.out.ha.cell 4; have z5 := H3.out.ha.cell 5; have z6 := H3.out.ha.cell 6; have z7 := H3.out.ha.cell 7
      have g0 := H3.out.ha.free 0; have g1 := H3.out.ha.free 1; have g2 := H3.out.ha.free 2; have g3 := H3.out.ha.free 3; have g4 := H3.out.ha.free 4; have g5 := H3.out.ha.free 5; have g6 := H3.out.ha.free 6; have g7 := H3.out.ha.free 7
      simp only [List.getElem?_toArray, List.getElem?_cons_zero, List.getElem?_cons_succ] at p0 p1 q0 q1 q2 z0 z1 z2 z3 z4 z5 z6 z7
      have v0 := HV.out.cell 0; have v1 := HV.out.cell 1; have v2 := HV.out.cell 2; have v3 := HV.out.cell 3; have v4 := HV.out.cell 4; have v5 := HV.out.cell 5; have v6 := HV.out.cell 6; have v7 := HV.out.cell 7
      simp only [List.getElem?_toArray, List.getElem?_cons_zero, List.getElem?_cons_succ] at v0 v1 v2 v3 v4 v5 v6 v7
      go_wp2_with fail
      with_reducible refine (HOP.out _ (HRL.out.keep H3.out.hb)).mono ?_
      rintro r6 w6 ⟨rfl, hb⟩
      clear p0 p1 q0 q1 q2 z0 z1 z2 z3 z4 z5 z6 z7 g0 g1 g2 g3 g4 g5 g6 g7
      clear v0 v1 v2 v3 v4 v5 v6 v7
      have H3b := Lib.hid (H3.out.keep hb)
      clear H3
      have H3 := H3b
      clear H3b
      clear hb HOP
      have p0 := H3.out.hp.cell 0; have p1 := H3.out.hp.cell 1
      have q0 := H3.out.hr.cell 0; have q1 := H3.out.hr.cell 1; have q2 := H3.out.hr.cell 2
      have z0 := H3.out.ha.cell 0; have z1 := H3.out.ha.cell 1; have z2 := H3.out.ha.cell 2; have z3 := H3.out.ha.cell 3; have z4 := H3.out.ha.cell 4; have z5 := H3.out.ha.cell 5; have z6 := H3.out.ha.cell 6; have z7 := H3.out.ha.cell 7
      have g0 := H3.out.ha.free 0; have g1 := H3.out.ha.free 1; have g2 := H3.out.ha.free 2; have g3 := H3.out.ha.free 3; have g4 := H3.out.ha.free 4; have g5 := H3.out.ha.free 5; have g6 := H3.out.ha.free 6; have g7 := H3.out.ha.free 7
      simp only [List.getElem?_toArray, List.getElem?_cons_zero, List.getElem?_cons_succ] at p0 p1 q0 q1 q2 z0 z1 z2 z3 z4 z5 z6 z7
      have HBX := Lib.hid H3.out.hb
      go_wp2
      ((try simp only [Exit.inBlock, Exit.then]); refine bodyPost_ret (v := (.agg #[.int .i64 Xo.what, .int .i64 Xo.job, .int .i64 Xo.ten, .int .i64 Xo.kind, .int .i64 Xo.lev, .int .i64 Xo.n, .string Xo.txt, .int .i64 Xo.err])) ?_ rfl ⟨?_, ?_⟩; (rw [results_cell1 rfl]; go_simp))
      · rfl
      · repeat (first | (with_reducible exact HBX.out) | refine below_set ?_ _ _ (by omega) _)
    by_cases t7 : rt = 7
    · rw [A7 t7]
      simp only [actV]
      subst t7
      clear A1 A2 A7 AN AO AU O6 O5 OX U3 U4 U5 UX HH3 HH5 HH6 HOP hrt t1 t2
      go_enter Tryd.func17, Tryd.ntmps17
      go_upto_region 1 with (fail)
      have H3 := Lib.hid (T3.new w #[.slice ta l.length tc, .slice la L.length lc] #[.int .i64 7, .int .i64 j, .string d] #[.int .i64 0, .int .i64 0, .int .i64 0, .int .i64 0, .int .i64 0, .int .i64 0, .string ⟨#[]⟩, .int .i64 0] 33 42 44)
      generalize ((w.alloc (.cells #[.slice ta l.length tc, .slice la L.length lc] 33)).alloc (.cells #[.int .i64 7, .int .i64 j, .string d] 42)).alloc (.cells #[.int .i64 0, .int .i64 0, .int .i64 0, .int .i64 0, .int .i64 0, .int .i64 0, .string ⟨#[]⟩, .int .i64 0] 44) = w1 at *
      have p0 := H3.out.hp.cell 0; have p1 := H3.out.hp.cell 1
      have q0 := H3.out.hr.cell 0; have q1 := H3.out.hr.cell 1; have q2 := H3.out.hr.cell 2
      have z0 := H3.out.ha.cell 0; have z1 := H3.out.ha.cell 1; have z2 := H3.out.ha.cell 2; have z3 := H3.out.ha.cell 3; have z4 := H3.out.ha.cell 4; have z5 := H3.out.ha.cell 5; have z6 := H3.out.ha.cell 6; have z7 := H3.out.ha.cell 7
      have g0 := H3.out.ha.free 0; have g1 := H3.out.ha.free 1; have g2 := H3.out.ha.free 2; have g3 := H3.out.ha.free 3; have g4 := H3.out.ha.free 4; have g5 := H3.out.ha.free 5; have g6 := H3.out.ha.free 6; have g7 := H3.out.ha.free 7
      simp only [List.getElem?_toArray, List.getElem?_cons_zero, List.getElem?_cons_succ] at p0 p1 q0 q1 q2 z0 z1 z2 z3 z4 z5 z6 z7
      go_wp2_with fail
      with_reducible refine (HTN.out _ (HRL.out.keep H3.out.hb)).mono ?_
      rintro r9 w9 ⟨rfl, hb⟩
      clear p0 p1 q0 q1 q2 z0 z1 z2 z3 z4 z5 z6 z7 g0 g1 g2 g3 g4 g5 g6 g7
      have H3b := Lib.hid (H3.out.keep hb)
      clear H3
      have H3 := H3b
      clear H3b
      clear hb HTN
      have p0 := H3.out.hp.cell 0; have p1 := H3.out.hp.cell 1
      have q0 := H3.out.hr.cell 0; have q1 := H3.out.hr.cell 1; have q2 := H3.out.hr.cell 2
      have z0 := H3.out.ha.cell 0; have z1 := H3.out.ha.cell 1; have z2 := H3.out.ha.cell 2; have z3 := H3.out.ha.cell 3; have z4 := H3.out.ha.cell 4; have z5 := H3.out.ha.cell 5; have z6 := H3.out.ha.cell 6; have z7 := H3.out.ha.cell 7
      have g0 := H3.out.ha.free 0; have g1 := H3.out.ha.free 1; have g2 := H3.out.ha.free 2; have g3 := H3.out.ha.free 3; have g4 := H3.out.ha.free 4; have g5 := H3.out.ha.free 5; have g6 := H3.out.ha.free 6; have g7 := H3.out.ha.free 7
      simp only [List.getElem?_toArray, List.getElem?_cons_zero, List.getElem?_cons_succ] at p0 p1 q0 q1 q2 z0 z1 z2 z3 z4 z5 z6 z7
      go_wp2_with fail
      with_reducible refine (HRD.out _).mono ?_
      rintro r2 w2 ⟨rfl, hb⟩
      clear p0 p1 q0 q1 q2 z0 z1 z2 z3 z4 z5 z6 z7 g0 g1 g2 g3 g4 g5 g6 g7
      have H3b := Lib.hid (H3.out.keep hb)
      clear H3
      have H3 := H3b
      clear H3b
      clear hb HRD
      go_upto_region 4 with (fail)
      have hb := (Below.refl _ w2).alloc (Nat.le_refl _) (.cells #[.int .i64 7, .int .i64 j, .string tok, .string txt, .int .i64 k, .int .i64 lv, .int .i64 n, .bool true] 78)
      have HV := Lib.hid (Has.new w2 #[.int .i64 7, .int .i64 j, .string tok, .string txt, .int .i64 k, .int .i64 lv, .int .i64 n, .bool true] 78)
      have H3b := Lib.hid (H3.out.keep hb)
      clear H3
      have H3 := H3b
      clear H3b
      clear hb
      generalize w2.alloc (.cells #[.int .i64 7, .int .i64 j, .string tok, .string txt, .int .i64 k, .int .i64 lv, .int .i64 n, .bool true] 78) = w3 at *
      generalize w2.heap.size = pv at *
      have p0 := H3.out.hp.cell 0; have p1 := H3.out.hp.cell 1
      have q0 := H3.out.hr.cell 0; have q1 := H3.out.hr.cell 1; have q2 := H3.out.hr.cell 2
      have z0 := H3.out.ha.cell 0; have z1 := H3.out.ha.cell 1; have z2 := H3.out.ha.cell 2; have z3 := H3.out.ha.cell 3; have z4 := H3.out.ha.cell 4; have z5 := H3.out.ha.cell 5; have z6 := H3.out.ha.cell 6; have z7 := H3.out.ha.cell 7
      have g0 := H3.out.ha.free 0; have g1 := H3.out.ha.free 1; have g2 := H3.out.ha.free 2; have g3 := H3.out.ha.free 3; have g4 := H3.out.ha.free 4; have g5 := H3.out.ha.free 5; have g6 := H3.out.ha.free 6; have g7 := H3.out.ha.free 7
      simp only [List.getElem?_toArray, List.getElem?_cons_zero, List.getElem?_cons_succ] at p0 p1 q0 q1 q2 z0 z1 z2 z3 z4 z5 z6 z7
      have v0 := HV.out.cell 0; have v1 := HV.out.cell 1; have v2 := HV.out.cell 2; have v3 := HV.out.cell 3; have v4 := HV.out.cell 4; have v5 := HV.out.cell 5; have v6 := HV.out.cell 6; have v7 := HV.out.cell 7
      simp only [List.getElem?_toArray, List.getElem?_cons_zero, List.getElem?_cons_succ] at v0 v1 v2 v3 v4 v5 v6 v7
      go_wp2_with fail
      clear v0 v1 v2 v3 v4 v5 v6 v7
      have HBX := Lib.hid H3.out.hb
      go_wp2
      ((try simp only [Exit.inBlock, Exit.then]); refine bodyPost_ret (v := (.agg #[.int .i64 8, .int .i64 0, .int .i64 0, .int .i64 0, .int .i64 0, .int .i64 0, .string ⟨#[]⟩, .int .i64 0])) ?_ rfl ⟨?_, ?_⟩; (rw [results_cell1 rfl]; go_simp))
      · rfl
      · repeat (first | (with_reducible exact HBX.out) | refine below_set ?_ _ _ (by omega) _)
    have q1 : (rt == 1) = false := by simpa using t1
    have q2 : (rt == 2) = false := by simpa using t2
    have q7 : (rt == 7) = false := by simpa using t7
    cases h3 : Cn.had L 3 j with
    | false =>
      rw [AN t1 t2 t7 h3]
      rw [h3] at HH3
      simp only [actV, Cn.refuse]
      clear A1 A2 A7 AN AO AU O6 O5 OX U3 U4 U5 UX HH5 HH6 HOP hrt h3 t1 t2 t7
      go_enter Tryd.func17, Tryd.ntmps17
      go_upto_region 1 with (fail)
      have H3 := Lib.hid (T3.new w #[.slice ta l.length tc, .slice la L.length lc] #[.int .i64 rt, .int .i64 j, .string d] #[.int .i64 0, .int .i64 0, .int .i64 0, .int .i64 0, .int .i64 0, .int .i64 0, .string ⟨#[]⟩, .int .i64 0] 33 42 44)
      generalize ((w.alloc (.cells #[.slice ta l.length tc, .slice la L.length lc] 33)).alloc (.cells #[.int .i64 rt, .int .i64 j, .string d] 42)).alloc (.cells #[.int .i64 0, .int .i64 0, .int .i64 0, .int .i64 0, .int .i64 0, .int .i64 0, .string ⟨#[]⟩, .int .i64 0] 44) = w1 at *
      have p0 := H3.out.hp.cell 0; have p1 := H3.out.hp.cell 1
      have q0 := H3.out.hr.cell 0; have q1 := H3.out.hr.cell 1; have q2 := H3.out.hr.cell 2
      have z0 := H3.out.ha.cell 0; have z1 := H3.out.ha.cell 1; have z2 := H3.out.ha.cell 2; have z3 := H3.out.ha.cell 3; have z4 := H3.out.ha.cell 4; have z5 := H3.out.ha.cell 5; have z6 := H3.out.ha.cell 6; have z7 := H3.out.ha.cell 7
      have g0 := H3.out.ha.free 0; have g1 := H3.out.ha.free 1; have g2 := H3.out.ha.free 2; have g3 := H3.out.ha.free 3; have g4 := H3.out.ha.free 4; have g5 := H3.out.ha.free 5; have g6 := H3.out.ha.free 6; have g7 := H3.out.ha.free 7
      simp only [List.getElem?_toArray, List.getElem?_cons_zero, List.getElem?_cons_succ] at p0 p1 q0 q1 q2 z0 z1 z2 z3 z4 z5 z6 z7
      go_wp2_with fail
      with_reducible refine (HTN.out _ (HRL.out.keep H3.out.hb)).mono ?_
      rintro r9 w9 ⟨rfl, hb⟩
      clear p0 p1 q0 q1 q2 z0 z1 z2 z3 z4 z5 z6 z7 g0 g1 g2 g3 g4 g5 g6 g7
      have H3b := Lib.hid (H3.out.keep hb)
      clear H3
      have H3 := H3b
      clear H3b
      clear hb HTN
      have p0 := H3.out.hp.cell 0; have p1 := H3.out.hp.cell 1
      have q0 := H3.out.hr.cell 0; have q1 := H3.out.hr.cell 1; have q2 := H3.out.hr.cell 2
      have z0 := H3.out.ha.cell 0; have z1 := H3.out.ha.cell 1; have z2 := H3.out.ha.cell 2; have z3 := H3.out.ha.cell 3; have z4 := H3.out.ha.cell 4; have z5 := H3.out.ha.cell 5; have z6 := H3.out.ha.cell 6; have z7 := H3.out.ha.cell 7
      have g0 := H3.out.ha.free 0; have g1 := H3.out.ha.free 1; have g2 := H3.out.ha.free 2; have g3 := H3.out.ha.free 3; have g4 := H3.out.ha.free 4; have g5 := H3.out.ha.free 5; have g6 := H3.out.ha.free 6; have g7 := H3.out.ha.free 7
      simp only [List.getElem?_toArray, List.getElem?_cons_zero, List.getElem?_cons_succ] at p0 p1 q0 q1 q2 z0 z1 z2 z3 z4 z5 z6 z7
      go_wp2_with fail
      with_reducible refine (HRD.out _).mono ?_
      rintro r2 w2 ⟨rfl, hb⟩
      clear p0 p1 q0 q1 q2 z0 z1 z2 z3 z4 z5 z6 z7 g0 g1 g2 g3 g4 g5 g6 g7
      have H3b := Lib.hid (H3.out.keep hb)
      clear H3
      have H3 := H3b
      clear H3b
      clear hb HRD
      go_upto_region 4 with (fail)
      have hb := (Below.refl _ w2).alloc (Nat.le_refl _) (.cells #[.int .i64 rt, .int .i64 j, .string tok, .string txt, .int .i64 k, .int .i64 lv, .int .i64 n, .bool true] 78)
      have HV := Lib.hid (Has.new w2 #[.int .i64 rt, .int .i64 j, .string tok, .string txt, .int .i64 k, .int .i64 lv, .int .i64 n, .bool true] 78)
      have H3b := Lib.hid (H3.out.keep hb)
      clear H3
      have H3 := H3b
      clear H3b
      clear hb
      generalize w2.alloc (.cells #[.int .i64 rt, .int .i64 j, .string tok, .string txt, .int .i64 k, .int .i64 lv, .int .i64 n, .bool true] 78) = w3 at *
      generalize w2.heap.size = pv at *
      have p0 := H3.out.hp.cell 0; have p1 := H3.out.hp.cell 1
      have q0 := H3.out.hr.cell 0; have q1 := H3.out.hr.cell 1; have q2 := H3.out.hr.cell 2
      have z0 := H3.out.ha.cell 0; have z1 := H3.out.ha.cell 1; have z2 := H3.out.ha.cell 2; have z3 := H3.out.ha.cell 3; have z4 := H3.out.ha.cell 4; have z5 := H3.out.ha.cell 5; have z6 := H3.out.ha.cell 6; have z7 := H3.out.ha.cell 7
      have g0 := H3.out.ha.free 0; have g1 := H3.out.ha.free 1; have g2 := H3.out.ha.free 2; have g3 := H3.out.ha.free 3; have g4 := H3.out.ha.free 4; have g5 := H3.out.ha.free 5; have g6 := H3.out.ha.free 6; have g7 := H3.out.ha.free 7
      simp only [List.getElem?_toArray, List.getElem?_cons_zero, List.getElem?_cons_succ] at p0 p1 q0 q1 q2 z0 z1 z2 z3 z4 z5 z6 z7
      have v0 := HV.out.cell 0; have v1 := HV.out.cell 1; have v2 := HV.out.cell 2; have v3 := HV.out.cell 3; have v4 := HV.out.cell 4; have v5 := HV.out.cell 5; have v6 := HV.out.cell 6; have v7 := HV.out.cell 7
      simp only [List.getElem?_toArray, List.getElem?_cons_zero, List.getElem?_cons_succ] at v0 v1 v2 v3 v4 v5 v6 v7
      go_wp2_with fail
      with_reducible refine (HH3.out _ (HRL.out.keep H3.out.hb)).mono ?_
      rintro r3 w3 ⟨rfl, hb⟩
      clear p0 p1 q0 q1 q2 z0 z1 z2 z3 z4 z5 z6 z7 g0 g1 g2 g3 g4 g5 g6 g7
      clear v0 v1 v2 v3 v4 v5 v6 v7
      have H3b := Lib.hid (H3.out.keep hb)
      clear H3
      have H3 := H3b
      clear H3b
      have HVb := Lib.hid (HV.out.below hb HV.out.lt)
      clear HV
      have HV := HVb
      clear HVb
      clear hb HH3
      have p0 := H3.out.hp.cell 0; have p1 := H3.out.hp.cell 1
      have q0 := H3.out.hr.cell 0; have q1 := H3.out.hr.cell 1; have q2 := H3.out.hr.cell 2
      have z0 := H3.out.ha.cell 0; have z1 := H3.out.ha.cell 1; have z2 := H3.out.ha.cell 2; have z3 := H3.out.ha.cell 3; have z4 := H3.out.ha.cell 4; have z5 := H3.out.ha.cell 5; have z6 := H3.out.ha.cell 6; have z7 := H3.out.ha.cell 7
      have g0 := H3.out.ha.free 0; have g1 := H3.out.ha.free 1; have g2 := H3.out.ha.free 2; have g3 := H3.out.ha.free 3; have g4 := H3.out.ha.free 4; have g5 := H3.out.ha.free 5; have g6 := H3.out.ha.free 6; have g7 := H3.out.ha.free 7
      simp only [List.getElem?_toArray, List.getElem?_cons_zero, List.getElem?_cons_succ] at p0 p1 q0 q1 q2 z0 z1 z2 z3 z4 z5 z6 z7
      have v0 := HV.out.cell 0; have v1 := HV.out.cell 1; have v2 := HV.out.cell 2; have v3 := HV.out.cell 3; have v4 := HV.out.cell 4; have v5 := HV.out.cell 5; have v6 := HV.out.cell 6; have v7 := HV.out.cell 7
      simp only [List.getElem?_toArray, List.getElem?_cons_zero, List.getElem?_cons_succ] at v0 v1 v2 v3 v4 v5 v6 v7
      go_wp2_with fail
      clear v0 v1 v2 v3 v4 v5 v6 v7
      with_reducible refine (refrefuse_walk _ _ _ _ _).mono ?_
      rintro r5 w5 ⟨rfl, hb⟩
      clear p0 p1 q0 q1 q2 z0 z1 z2 z3 z4 z5 z6 z7 g0 g1 g2 g3 g4 g5 g6 g7
      have H3b := Lib.hid (H3.out.keep hb)
      clear H3
      have H3 := H3b
      clear H3b
      clear hb
      have p0 := H3.out.hp.cell 0; have p1 := H3.out.hp.cell 1
      have q0 := H3.out.hr.cell 0; have q1 := H3.out.hr.cell 1; have q2 := H3.out.hr.cell 2
      have z0 := H3.out.ha.cell 0; have z1 := H3.out.ha.cell 1; have z2 := H3.out.ha.cell 2; have z3 := H3.out.ha.cell 3; have z4 := H3.out.ha.cell 4; have z5 := H3.out.ha.cell 5; have z6 := H3.out.ha.cell 6; have z7 := H3.out.ha.cell 7
      have g0 := H3.out.ha.free 0; have g1 := H3.out.ha.free 1; have g2 := H3.out.ha.free 2; have g3 := H3.out.ha.free 3; have g4 := H3.out.ha.free 4; have g5 := H3.out.ha.free 5; have g6 := H3.out.ha.free 6; have g7 := H3.out.ha.free 7
      simp only [List.getElem?_toArray, List.getElem?_cons_zero, List.getElem?_cons_succ] at p0 p1 q0 q1 q2 z0 z1 z2 z3 z4 z5 z6 z7
      have HBX := Lib.hid H3.out.hb
      go_wp2
      ((try simp only [Exit.inBlock, Exit.then]); refine bodyPost_ret (v := (.agg #[.int .i64 1, .int .i64 j, .int .i64 0, .int .i64 0, .int .i64 0, .int .i64 0, .string ⟨#[]⟩, .int .i64 31])) ?_ rfl ⟨?_, ?_⟩; (rw [results_cell1 rfl]; go_simp))
      · rfl
      · repeat (first | (with_reducible exact HBX.out) | refine below_set ?_ _ _ (by omega) _)
    | true =>
      rw [h3] at HH3
      have AO2 := AO t1 t2 t7 h3
      have AU2 := AU t1 t2 t7 h3
      clear AO AU
      have AO := AO2
      have AU := AU2
      clear AO2 AU2
      cases h6 : Cn.had L 6 j with
      | true =>
        rw [AO (O6 h6)]
        rw [h6] at HH6
        simp only [actV, Cn.refuse]
        clear A1 A2 A7 AN AO AU O6 O5 OX U3 U4 U5 UX HH5 HOP hrt h3 h6 t1 t2 t7
        go_enter Tryd.func17, Tryd.ntmps17
        go_upto_region 1 with (fail)
        have H3 := Lib.hid (T3.new w #[.slice ta l.length tc, .slice la L.length lc] #[.int .i64 rt, .int .i64 j, .string d] #[.int .i64 0, .int .i64 0, .int .i64 0, .int .i64 0, .int .i64 0, .int .i64 0, .string ⟨#[]⟩, .int .i64 0] 33 42 44)
        generalize ((w.alloc (.cells #[.slice ta l.length tc, .slice la L.length lc] 33)).alloc (.cells #[.int .i64 rt, .int .i64 j, .string d] 42)).alloc (.cells #[.int .i64 0, .int .i64 0, .int .i64 0, .int .i64 0, .int .i64 0, .int .i64 0, .string ⟨#[]⟩, .int .i64 0] 44) = w1 at *
        have p0 := H3.out.hp.cell 0; have p1 := H3.out.hp.cell 1
        have q0 := H3.out.hr.cell 0; have q1 := H3.out.hr.cell 1; have q2 := H3.out.hr.cell 2
        have z0 := H3.out.ha.cell 0; have z1 := H3.out.ha.cell 1; have z2 := H3.out.ha.cell 2; have z3 := H3.out.ha.cell 3; have z4 := H3.out.ha.cell 4; have z5 := H3.out.ha.cell 5; have z6 := H3.out.ha.cell 6; have z7 := H3.out.ha.cell 7
        have g0 := H3.out.ha.free 0; have g1 := H3.out.ha.free 1; have g2 := H3.out.ha.free 2; have g3 := H3.out.ha.free 3; have g4 := H3.out.ha.free 4; have g5 := H3.out.ha.free 5; have g6 := H3.out.ha.free 6; have g7 := H3.out.ha.free 7
        simp only [List.getElem?_toArray, List.getElem?_cons_zero, List.getElem?_cons_succ] at p0 p1 q0 q1 q2 z0 z1 z2 z3 z4 z5 z6 z7
        go_wp2_with fail
        with_reducible refine (HTN.out _ (HRL.out.keep H3.out.hb)).mono ?_
        rintro r9 w9 ⟨rfl, hb⟩
        clear p0 p1 q0 q1 q2 z0 z1 z2 z3 z4 z5 z6 z7 g0 g1 g2 g3 g4 g5 g6 g7
        have H3b := Lib.hid (H3.out.keep hb)
        clear H3
        have H3 := H3b
        clear H3b
        clear hb HTN
        have p0 := H3.out.hp.cell 0; have p1 := H3.out.hp.cell 1
        have q0 := H3.out.hr.cell 0; have q1 := H3.out.hr.cell 1; have q2 := H3.out.hr.cell 2
        have z0 := H3.out.ha.cell 0; have z1 := H3.out.ha.cell 1; have z2 := H3.out.ha.cell 2; have z3 := H3.out.ha.cell 3; have z4 := H3.out.ha.cell 4; have z5 := H3.out.ha.cell 5; have z6 := H3.out.ha.cell 6; have z7 := H3.out.ha.cell 7
        have g0 := H3.out.ha.free 0; have g1 := H3.out.ha.free 1; have g2 := H3.out.ha.free 2; have g3 := H3.out.ha.free 3; have g4 := H3.out.ha.free 4; have g5 := H3.out.ha.free 5; have g6 := H3.out.ha.free 6; have g7 := H3.out.ha.free 7
        simp only [List.getElem?_toArray, List.getElem?_cons_zero, List.getElem?_cons_succ] at p0 p1 q0 q1 q2 z0 z1 z2 z3 z4 z5 z6 z7
        go_wp2_with fail
        with_reducible refine (HRD.out _).mono ?_
        rintro r2 w2 ⟨rfl, hb⟩
        clear p0 p1 q0 q1 q2 z0 z1 z2 z3 z4 z5 z6 z7 g0 g1 g2 g3 g4 g5 g6 g7
        have H3b := Lib.hid (H3.out.keep hb)
        clear H3
        have H3 := H3b
        clear H3b
        clear hb HRD
        go_upto_region 4 with (fail)
        have hb := (Below.refl _ w2).alloc (Nat.le_refl _) (.cells #[.int .i64 rt, .int .i64 j, .string tok, .string txt, .int .i64 k, .int .i64 lv, .int .i64 n, .bool true] 78)
        have HV := Lib.hid (Has.new w2 #[.int .i64 rt, .int .i64 j, .string tok, .string txt, .int .i64 k, .int .i64 lv, .int .i64 n, .bool true] 78)
        have H3b := Lib.hid (H3.out.keep hb)
        clear H3
        have H3 := H3b
        clear H3b
        clear hb
        generalize w2.alloc (.cells #[.int .i64 rt, .int .i64 j, .string tok, .string txt, .int .i64 k, .int .i64 lv, .int .i64 n, .bool true] 78) = w3 at *
        generalize w2.heap.size = pv at *
        have p0 := H3.out.hp.cell 0; have p1 := H3.out.hp.cell 1
        have q0 := H3.out.hr.cell 0; have q1 := H3.out.hr.cell 1; have q2 := H3.out.hr.cell 2
        have z0 := H3.out.ha.cell 0; have z1 := H3.out.ha.cell 1; have z2 := H3.out.ha.cell 2; have z3 := H3.out.ha.cell 3; have z4 := H3.out.ha.cell 4; have z5 := H3.out.ha.cell 5; have z6 := H3.out.ha.cell 6; have z7 := H3.out.ha.cell 7
        have g0 := H3.out.ha.free 0; have g1 := H3.out.ha.free 1; have g2 := H3.out.ha.free 2; have g3 := H3.out.ha.free 3; have g4 := H3.out.ha.free 4; have g5 := H3.out.ha.free 5; have g6 := H3.out.ha.free 6; have g7 := H3.out.ha.free 7
        simp only [List.getElem?_toArray, List.getElem?_cons_zero, List.getElem?_cons_succ] at p0 p1 q0 q1 q2 z0 z1 z2 z3 z4 z5 z6 z7
        have v0 := HV.out.cell 0; have v1 := HV.out.cell 1; have v2 := HV.out.cell 2; have v3 := HV.out.cell 3; have v4 := HV.out.cell 4; have v5 := HV.out.cell 5; have v6 := HV.out.cell 6; have v7 := HV.out.cell 7
        simp only [List.getElem?_toArray, List.getElem?_cons_zero, List.getElem?_cons_succ] at v0 v1 v2 v3 v4 v5 v6 v7
        go_wp2_with fail
        with_reducible refine (HH3.out _ (HRL.out.keep H3.out.hb)).mono ?_
        rintro r3 w3 ⟨rfl, hb⟩
        clear p0 p1 q0 q1 q2 z0 z1 z2 z3 z4 z5 z6 z7 g0 g1 g2 g3 g4 g5 g6 g7
        clear v0 v1 v2 v3 v4 v5 v6 v7
        have H3b := Lib.hid (H3.out.keep hb)
        clear H3
        have H3 := H3b
        clear H3b
        have HVb := Lib.hid (HV.out.below hb HV.out.lt)
        clear HV
        have HV := HVb
        clear HVb
        clear hb HH3
        have p0 := H3.out.hp.cell 0; have p1 := H3.out.hp.cell 1
        have q0 := H3.out.hr.cell 0; have q1 := H3.out.hr.cell 1; have q2 := H3.out.hr.cell 2
        have z0 := H3.out.ha.cell 0; have z1 := H3.out.ha.cell 1; have z2 := H3.out.ha.cell 2; have z3 := H3.out.ha.cell 3; have z4 := H3.out.ha.cell 4; have z5 := H3.out.ha.cell 5; have z6 := H3.out.ha.cell 6; have z7 := H3.out.ha.cell 7
        have g0 := H3.out.ha.free 0; have g1 := H3.out.ha.free 1; have g2 := H3.out.ha.free 2; have g3 := H3.out.ha.free 3; have g4 := H3.out.ha.free 4; have g5 := H3.out.ha.free 5; have g6 := H3.out.ha.free 6; have g7 := H3.out.ha.free 7
        simp only [List.getElem?_toArray, List.getElem?_cons_zero, List.getElem?_cons_succ] at p0 p1 q0 q1 q2 z0 z1 z2 z3 z4 z5 z6 z7
        have v0 := HV.out.cell 0; have v1 := HV.out.cell 1; have v2 := HV.out.cell 2; have v3 := HV.out.cell 3; have v4 := HV.out.cell 4; have v5 := HV.out.cell 5; have v6 := HV.out.cell 6; have v7 := HV.out.cell 7
        simp only [List.getElem?_toArray, List.getElem?_cons_zero, List.getElem?_cons_succ] at v0 v1 v2 v3 v4 v5 v6 v7
        go_wp2_with fail
        with_reducible refine (HH6.out _ (HRL.out.keep H3.out.hb)).mono ?_
        rintro r6 w6 ⟨rfl, hb⟩
        clear p0 p1 q0 q1 q2 z0 z1 z2 z3 z4 z5 z6 z7 g0 g1 g2 g3 g4 g5 g6 g7
        clear v0 v1 v2 v3 v4 v5 v6 v7
        have H3b := Lib.hid (H3.out.keep hb)
        clear H3
        have H3 := H3b
        clear H3b
        have HVb := Lib.hid (HV.out.below hb HV.out.lt)
        clear HV
        have HV := HVb
        clear HVb
        clear hb HH6
        have p0 := H3.out.hp.cell 0; have p1 := H3.out.hp.cell 1
        have q0 := H3.out.hr.cell 0; have q1 := H3.out.hr.cell 1; have q2 := H3.out.hr.cell 2
        have z0 := H3.out.ha.cell 0; have z1 := H3.out.ha.cell 1; have z2 := H3.out.ha.cell 2; have z3 := H3.out.ha.cell 3; have z4 := H3.out.ha.cell 4; have z5 := H3.out.ha.cell 5; have z6 := H3.out.ha.cell 6; have z7 := H3.out.ha.cell 7
        have g0 := H3.out.ha.free 0; have g1 := H3.out.ha.free 1; have g2 := H3.out.ha.free 2; have g3 := H3.out.ha.free 3; have g4 := H3.out.ha.free 4; have g5 := H3.out.ha.free 5; have g6 := H3.out.ha.free 6; have g7 := H3.out.ha.free 7
        simp only [List.getElem?_toArray, List.getElem?_cons_zero, List.getElem?_cons_succ] at p0 p1 q0 q1 q2 z0 z1 z2 z3 z4 z5 z6 z7
        have v0 := HV.out.cell 0; have v1 := HV.out.cell 1; have v2 := HV.out.cell 2; have v3 := HV.out.cell 3; have v4 := HV.out.cell 4; have v5 := HV.out.cell 5; have v6 := HV.out.cell 6; have v7 := HV.out.cell 7
        simp only [List.getElem?_toArray, List.getElem?_cons_zero, List.getElem?_cons_succ] at v0 v1 v2 v3 v4 v5 v6 v7
        go_wp2_with fail
        clear v0 v1 v2 v3 v4 v5 v6 v7
        with_reducible refine (refrefuse_walk _ _ _ _ _).mono ?_
        rintro r5 w5 ⟨rfl, hb⟩
        clear p0 p1 q0 q1 q2 z0 z1 z2 z3 z4 z5 z6 z7 g0 g1 g2 g3 g4 g5 g6 g7
        have H3b := Lib.hid (H3.out.keep hb)
        clear H3
        have H3 := H3b
        clear H3b
        clear hb
        have p0 := H3.out.hp.cell 0; have p1 := H3.out.hp.cell 1
        have q0 := H3.out.hr.cell 0; have q1 := H3.out.hr.cell 1; have q2 := H3.out.hr.cell 2
        have z0 := H3.out.ha.cell 0; have z1 := H3.out.ha.cell 1; have z2 := H3.out.ha.cell 2; have z3 := H3.out.ha.cell 3; have z4 := H3.out.ha.cell 4; have z5 := H3.out.ha.cell 5; have z6 := H3.out.ha.cell 6; have z7 := H3.out.ha.cell 7
        have g0 := H3.out.ha.free 0; have g1 := H3.out.ha.free 1; have g2 := H3.out.ha.free 2; have g3 := H3.out.ha.free 3; have g4 := H3.out.ha.free 4; have g5 := H3.out.ha.free 5; have g6 := H3.out.ha.free 6; have g7 := H3.out.ha.free 7
        simp only [List.getElem?_toArray, List.getElem?_cons_zero, List.getElem?_cons_succ] at p0 p1 q0 q1 q2 z0 z1 z2 z3 z4 z5 z6 z7
        have HBX := Lib.hid H3.out.hb
        go_wp2
        ((try simp only [Exit.inBlock, Exit.then]); refine bodyPost_ret (v := (.agg #[.int .i64 1, .int .i64 j, .int .i64 0, .int .i64 0, .int .i64 0, .int .i64 0, .string ⟨#[]⟩, .int .i64 32])) ?_ rfl ⟨?_, ?_⟩; (rw [results_cell1 rfl]; go_simp))
        · rfl
        · repeat (first | (with_reducible exact HBX.out) | refine below_set ?_ _ _ (by omega) _)
      | false =>
        rw [h6] at HH6
        by_cases t3 : rt = 3
        · cases h5 : Cn.had L 5 j with
          | true =>
            rw [AO (O5 true h6 h5 (.inl t3))]
            rw [h5] at HH5
            simp only [actV, Cn.refuse]
            subst t3
            clear A1 A2 A7 AN AO AU O6 O5 OX U3 U4 U5 UX HOP hrt h3 h5 h6 t1 t2 t7 q1 q2 q7
            go_enter Tryd.func17, Tryd.ntmps17
            go_upto_region 1 with (fail)
            have H3 := Lib.hid (T3.new w #[.slice ta l.length tc, .slice la L.length lc] #[.int .i64 3, .int .i64 j, .string d] #[.int .i64 0, .int .i64 0, .int .i64 0, .int .i64 0, .int .i64 0, .int .i64 0, .string ⟨#[]⟩, .int .i64 0] 33 42 44)
            generalize ((w.alloc (.cells #[.slice ta l.length tc, .slice la L.length lc] 33)).alloc (.cells #[.int .i64 3, .int .i64 j, .string d] 42)).alloc (.cells #[.int .i64 0, .int .i64 0, .int .i64 0, .int .i64 0, .int .i64 0, .int .i64 0, .string ⟨#[]⟩, .int .i64 0] 44) = w1 at *
            have p0 := H3.out.hp.cell 0; have p1 := H3.out.hp.cell 1
            have q0 := H3.out.hr.cell 0; have q1 := H3.out.hr.cell 1; have q2 := H3.out.hr.cell 2
            have z0 := H3.out.ha.cell 0; have z1 := H3.out.ha.cell 1; have z2 := H3.out.ha.cell 2; have z3 := H3.out.ha.cell 3; have z4 := H3.out.ha.cell 4; have z5 := H3.out.ha.cell 5; have z6 := H3.out.ha.cell 6; have z7 := H3.out.ha.cell 7
            have g0 := H3.out.ha.free 0; have g1 := H3.out.ha.free 1; have g2 := H3.out.ha.free 2; have g3 := H3.out.ha.free 3; have g4 := H3.out.ha.free 4; have g5 := H3.out.ha.free 5; have g6 := H3.out.ha.free 6; have g7 := H3.out.ha.free 7
            simp only [List.getElem?_toArray, List.getElem?_cons_zero, List.getElem?_cons_succ] at p0 p1 q0 q1 q2 z0 z1 z2 z3 z4 z5 z6 z7
            go_wp2_with fail
            with_reducible refine (HTN.out _ (HRL.out.keep H3.out.hb)).mono ?_
            rintro r9 w9 ⟨rfl, hb⟩
            clear p0 p1 q0 q1 q2 z0 z1 z2 z3 z4 z5 z6 z7 g0 g1 g2 g3 g4 g5 g6 g7
            have H3b := Lib.hid (H3.out.keep hb)
            clear H3
            have H3 := H3b
            clear H3b
            clear hb HTN
            have p0 := H3.out.hp.cell 0; have p1 := H3.out.hp.cell 1
            have q0 := H3.out.hr.cell 0; have q1 := H3.out.hr.cell 1; have q2 := H3.out.hr.cell 2
            have z0 := H3.out.ha.cell 0; have z1 := H3.out.ha.cell 1; have z2 := H3.out.ha.cell 2; have z3 := H3.out.ha.cell 3; have z4 := H3.out.ha.cell 4; have z5 := H3.out.ha.cell 5; have z6 := H3.out.ha.cell 6; have z7 := H3.out.ha.cell 7
            have g0 := H3.out.ha.free 0; have g1 := H3.out.ha.free 1; have g2 := H3.out.ha.free 2; have g3 := H3.out.ha.free 3; have g4 := H3.out.ha.free 4; have g5 := H3.out.ha.free 5; have g6 := H3.out.ha.free 6; have g7 := H3.out.ha.free 7
            simp only [List.getElem?_toArray, List.getElem?_cons_zero, List.getElem?_cons_succ] at p0 p1 q0 q1 q2 z0 z1 z2 z3 z4 z5 z6 z7
            go_wp2_with fail
            with_reducible refine (HRD.out _).mono ?_
            rintro r2 w2 ⟨rfl, hb⟩
            clear p0 p1 q0 q1 q2 z0 z1 z2 z3 z4 z5 z6 z7 g0 g1 g2 g3 g4 g5 g6 g7
            have H3b := Lib.hid (H3.out.keep hb)
            clear H3
            have H3 := H3b
            clear H3b
            clear hb HRD
            go_upto_region 4 with (fail)
            have hb := (Below.refl _ w2).alloc (Nat.le_refl _) (.cells #[.int .i64 3, .int .i64 j, .string tok, .string txt, .int .i64 k, .int .i64 lv, .int .i64 n, .bool true] 78)
            have HV := Lib.hid (Has.new w2 #[.int .i64 3, .int .i64 j, .string tok, .string txt, .int .i64 k, .int .i64 lv, .int .i64 n, .bool true] 78)
            have H3b := Lib.hid (H3.out.keep hb)
            clear H3
            have H3 := H3b
            clear H3b
            clear hb
            generalize w2.alloc (.cells #[.int .i64 3, .int .i64 j, .string tok, .string txt, .int .i64 k, .int .i64 lv, .int .i64 n, .bool true] 78) = w3 at *
            generalize w2.heap.size = pv at *
            have p0 := H3.out.hp.cell 0; have p1 := H3.out.hp.cell 1
            have q0 := H3.out.hr.cell 0; have q1 := H3.out.hr.cell 1; have q2 := H3.out.hr.cell 2
            have z0 := H3.out.ha.cell 0; have z1 := H3.out.ha.cell 1; have z2 := H3.out.ha.cell 2; have z3 := H3.out.ha.cell 3; have z4 := H3.out.ha.cell 4; have z5 := H3.out.ha.cell 5; have z6 := H3.out.ha.cell 6; have z7 := H3.out.ha.cell 7
            have g0 := H3.out.ha.free 0; have g1 := H3.out.ha.free 1; have g2 := H3.out.ha.free 2; have g3 := H3.out.ha.free 3; have g4 := H3.out.ha.free 4; have g5 := H3.out.ha.free 5; have g6 := H3.out.ha.free 6; have g7 := H3.out.ha.free 7
            simp only [List.getElem?_toArray, List.getElem?_cons_zero, List.getElem?_cons_succ] at p0 p1 q0 q1 q2 z0 z1 z2 z3 z4 z5 z6 z7
            have v0 := HV.out.cell 0; have v1 := HV.out.cell 1; have v2 := HV.out.cell 2; have v3 := HV.out.cell 3; have v4 := HV.out.cell 4; have v5 := HV.out.cell 5; have v6 := HV.out.cell 6; have v7 := HV.out.cell 7
            simp only [List.getElem?_toArray, List.getElem?_cons_zero, List.getElem?_cons_succ] at v0 v1 v2 v3 v4 v5 v6 v7
            go_wp2_with fail
            with_reducible refine (HH3.out _ (HRL.out.keep H3.out.hb)).mono ?_
            rintro r3 w3 ⟨rfl, hb⟩
            clear p0 p1 q0 q1 q2 z0 z1 z2 z3 z4 z5 z6 z7 g0 g1 g2 g3 g4 g5 g6 g7
            clear v0 v1 v2 v3 v4 v5 v6 v7
            have H3b := Lib.hid (H3.out.keep hb)
            clear H3
            have H3 := H3b
            clear H3b
            have HVb := Lib.hid (HV.out.below hb HV.out.lt)
            clear HV
            have HV := HVb
            clear HVb
            clear hb HH3
            have p0 := H3.out.hp.cell 0; have p1 := H3.out.hp.cell 1
            have q0 := H3.out.hr.cell 0; have q1 := H3.out.hr.cell 1; have q2 := H3.out.hr.cell 2
            have z0 := H3.out.ha.cell 0; have z1 := H3.out.ha.cell 1; have z2 := H3.out.ha.cell 2; have z3 := H3.out.ha.cell 3; have z4 := H3.out.ha.cell 4; have z5 := H3.out.ha.cell 5; have z6 := H3.out.ha.cell 6; have z7 := H3.out.ha.cell 7
            have g0 := H3.out.ha.free 0; have g1 := H3.out.ha.free 1; have g2 := H3.out.ha.free 2; have g3 := H3.out.ha.free 3; have g4 := H3.out.ha.free 4; have g5 := H3.out.ha.free 5; have g6 := H3.out.ha.free 6; have g7 := H3.out.ha.free 7
            simp only [List.getElem?_toArray, List.getElem?_cons_zero, List.getElem?_cons_succ] at p0 p1 q0 q1 q2 z0 z1 z2 z3 z4 z5 z6 z7
            have v0 := HV.out.cell 0; have v1 := HV.out.cell 1; have v2 := HV.out.cell 2; have v3 := HV.out.cell 3; have v4 := HV.out.cell 4; have v5 := HV.out.cell 5; have v6 := HV.out.cell 6; have v7 := HV.out.cell 7
            simp only [List.getElem?_toArray, List.getElem?_cons_zero, List.getElem?_cons_succ] at v0 v1 v2 v3 v4 v5 v6 v7
            go_wp2_with fail
            with_reducible refine (HH6.out _ (HRL.out.keep H3.out.hb)).mono ?_
            rintro r6 w6 ⟨rfl, hb⟩
            clear p0 p1 q0 q1 q2 z0 z1 z2 z3 z4 z5 z6 z7 g0 g1 g2 g3 g4 g5 g6 g7
            clear v0 v1 v2 v3 v4 v5 v6 v7
            have H3b := Lib.hid (H3.out.keep hb)
            clear H3
            have H3 := H3b
            clear H3b
            have HVb := Lib.hid (HV.out.below hb HV.out.lt)
            clear HV
            have HV := HVb
            clear HVb
            clear hb HH6
            have p0 := H3.out.hp.cell 0; have p1 := H3.out.hp.cell 1
            have q0 := H3.out.hr.cell 0; have q1 := H3.out.hr.cell 1; have q2 := H3.out.hr.cell 2
            have z0 := H3.out.ha.cell 0; have z1 := H3.out.ha.cell 1; have z2 := H3.out.ha.cell 2; have z3 := H3.out.ha.cell 3; have z4 := H3.out.ha.cell 4; have z5 := H3.out.ha.cell 5; have z6 := H3.out.ha.cell 6; have z7 := H3.out.ha.cell 7
            have g0 := H3.out.ha.free 0; have g1 := H3.out.ha.free 1; have g2 := H3.out.ha.free 2; have g3 := H3.out.ha.free 3; have g4 := H3.out.ha.free 4; have g5 := H3.out.ha.free 5; have g6 := H3.out.ha.free 6; have g7 := H3.out.ha.free 7
            simp only [List.getElem?_toArray, List.getElem?_cons_zero, List.getElem?_cons_succ] at p0 p1 q0 q1 q2 z0 z1 z2 z3 z4 z5 z6 z7
            have v0 := HV.out.cell 0; have v1 := HV.out.cell 1; have v2 := HV.out.cell 2; have v3 := HV.out.cell 3; have v4 := HV.out.cell 4; have v5 := HV.out.cell 5; have v6 := HV.out.cell 6; have v7 := HV.out.cell 7
            simp only [List.getElem?_toArray, List.getElem?_cons_zero, List.getElem?_cons_succ] at v0 v1 v2 v3 v4 v5 v6 v7
            go_wp2_with fail
            with_reducible refine (HH5.out _ (HRL.out.keep H3.out.hb)).mono ?_
            rintro r5 w5 ⟨rfl, hb⟩
            clear p0 p1 q0 q1 q2 z0 z1 z2 z3 z4 z5 z6 z7 g0 g1 g2 g3 g4 g5 g6 g7
            clear v0 v1 v2 v3 v4 v5 v6 v7
            have H3b := Lib.hid (H3.out.keep hb)
            clear H3
            have H3 := H3b
            clear H3b
            have HVb := Lib.hid (HV.out.below hb HV.out.lt)
            clear HV
            have HV := HVb
            clear HVb
            clear hb HH5
            have p0 := H3.out.hp.cell 0; have p1 := H3.out.hp.cell 1
            have q0 := H3.out.hr.cell 0; have q1 := H3.out.hr.cell 1; have q2 := H3.out.hr.cell 2
            have z0 := H3.out.ha.cell 0; have z1 := H3.out.ha.cell 1; have z2 := H3.out.ha.cell 2; have z3 := H3.out.ha.cell 3; have z4 := H3.out.ha.cell 4; have z5 := H3.out.ha.cell 5; have z6 := H3.out.ha.cell 6; have z7 := H3.out.ha.cell 7
            have g0 := H3.out.ha.free 0; have g1 := H3.out.ha.free 1; have g2 := H3.out.ha.free 2; have g3 := H3.out.ha.free 3; have g4 := H3.out.ha.free 4; have g5 := H3.out.ha.free 5; have g6 := H3.out.ha.free 6; have g7 := H3.out.ha.free 7
            simp only [List.getElem?_toArray, List.getElem?_cons_zero, List.getElem?_cons_succ] at p0 p1 q0 q1 q2 z0 z1 z2 z3 z4 z5 z6 z7
            have v0 := HV.out.cell 0; have v1 := HV.out.cell 1; have v2 := HV.out.cell 2; have v3 := HV.out.cell 3; have v4 := HV.out.cell 4; have v5 := HV.out.cell 5; have v6 := HV.out.cell 6; have v7 := HV.out.cell 7
            simp only [List.getElem?_toArray, List.getElem?_cons_zero, List.getElem?_cons_succ] at v0 v1 v2 v3 v4 v5 v6 v7
            go_wp2_with fail
            clear v0 v1 v2 v3 v4 v5 v6 v7
            with_reducible refine (refrefuse_walk _ _ _ _ _).mono ?_
            rintro r5 w5 ⟨rfl, hb⟩
            clear p0 p1 q0 q1 q2 z0 z1 z2 z3 z4 z5 z6 z7 g0 g1 g2 g3 g4 g5 g6 g7
            have H3b := Lib.hid (H3.out.keep hb)
            clear H3
            have H3 := H3b
            clear H3b
            clear hb
            have p0 := H3.out.hp.cell 0; have p1 := H3.out.hp.cell 1
            have q0 := H3.out.hr.cell 0; have q1 := H3.out.hr.cell 1; have q2 := H3.out.hr.cell 2
            have z0 := H3.out.ha.cell 0; have z1 := H3.out.ha.cell 1; have z2 := H3.out.ha.cell 2; have z3 := H3.out.ha.cell 3; have z4 := H3.out.ha.cell 4; have z5 := H3.out.ha.cell 5; have z6 := H3.out.ha.cell 6; have z7 := H3.out.ha.cell 7
            have g0 := H3.out.ha.free 0; have g1 := H3.out.ha.free 1; have g2 := H3.out.ha.free 2; have g3 := H3.out.ha.free 3; have g4 := H3.out.ha.free 4; have g5 := H3.out.ha.free 5; have g6 := H3.out.ha.free 6; have g7 := H3.out.ha.free 7
            simp only [List.getElem?_toArray, List.getElem?_cons_zero, List.getElem?_cons_succ] at p0 p1 q0 q1 q2 z0 z1 z2 z3 z4 z5 z6 z7
            have HBX := Lib.hid H3.out.hb
            go_wp2
            ((try simp only [Exit.inBlock, Exit.then]); refine bodyPost_ret (v := (.agg #[.int .i64 1, .int .i64 j, .int .i64 0, .int .i64 0, .int .i64 0, .int .i64 0, .string ⟨#[]⟩, .int .i64 32])) ?_ rfl ⟨?_, ?_⟩; (rw [results_cell1 rfl]; go_simp))
            · rfl
            · repeat (first | (with_reducible exact HBX.out) | refine below_set ?_ _ _ (by omega) _)
          | false =>
            rw [AU (O5 false h6 h5 (.inl t3)), U3 t3]
            rw [h5] at HH5
            simp only [actV]
            subst t3
            clear A1 A2 A7 AN AO AU O6 O5 OX U3 U4 U5 UX HOP hrt h3 h5 h6 t1 t2 t7 q1 q2 q7
            go_enter Tryd.func17, Tryd.ntmps17
            go_upto_region 1 with (fail)
            have H3 := Lib.hid (T3.new w #[.slice ta l.length tc, .slice la L.length lc] #[.int .i64 3, .int .i64 j, .string d] #[.int .i64 0, .int .i64 0, .int .i64 0, .int .i64 0, .int .i64 0, .int .i64 0, .string ⟨#[]⟩, .int .i64 0] 33 42 44)
            generalize ((w.alloc (.cells #[.slice ta l.length tc, .slice la L.length lc] 33)).alloc (.cells #[.int .i64 3, .int .i64 j, .string d] 42)).alloc (.cells #[.int .i64 0, .int .i64 0, .int .i64 0, .int .i64 0, .int .i64 0, .int .i64 0, .string ⟨#[]⟩, .int .i64 0] 44) = w1 at *
            have p0 := H3.out.hp.cell 0; have p1 := H3.out.hp.cell 1
            have q0 := H3.out.hr.cell 0; have q1 := H3.out.hr.cell 1; have q2 := H3.out.hr.cell 2
            have z0 := H3.out.ha.cell 0; have z1 := H3.out.ha.cell 1; have z2 := H3.out.ha.cell 2; have z3 := H3.out.ha.cell 3; have z4 := H3.out.ha.cell 4; have z5 := H3.out.ha.cell 5; have z6 := H3.out.ha.cell 6; have z7 := H3.out.ha.cell 7
            have g0 := H3.out.ha.free 0; have g1 := H3.out.ha.free 1; have g2 := H3.out.ha.free 2; have g3 := H3.out.ha.free 3; have g4 := H3.out.ha.free 4; have g5 := H3.out.ha.free 5; have g6 := H3.out.ha.free 6; have g7 := H3.out.ha.free 7
            simp only [List.getElem?_toArray, List.getElem?_cons_zero, List.getElem?_cons_succ] at p0 p1 q0 q1 q2 z0 z1 z2 z3 z4 z5 z6 z7
            go_wp2_with fail
            with_reducible refine (HTN.out _ (HRL.out.keep H3.out.hb)).mono ?_
            rintro r9 w9 ⟨rfl, hb⟩
            clear p0 p1 q0 q1 q2 z0 z1 z2 z3 z4 z5 z6 z7 g0 g1 g2 g3 g4 g5 g6 g7
            have H3b := Lib.hid (H3.out.keep hb)
            clear H3
            have H3 := H3b
            clear H3b
            clear hb HTN
            have p0 := H3.out.hp.cell 0; have p1 := H3.out.hp.cell 1
            have q0 := H3.out.hr.cell 0; have q1 := H3.out.hr.cell 1; have q2 := H3.out.hr.cell 2
            have z0 := H3.out.ha.cell 0; have z1 := H3.out.ha.cell 1; have z2 := H3.out.ha.cell 2; have z3 := H3.out.ha.cell 3; have z4 := H3.out.ha.cell 4; have z5 := H3.out.ha.cell 5; have z6 := H3.out.ha.cell 6; have z7 := H3.out.ha.cell 7
            have g0 := H3.out.ha.free 0; have g1 := H3.out.ha.free 1; have g2 := H3.out.ha.free 2; have g3 := H3.out.ha.free 3; have g4 := H3.out.ha.free 4; have g5 := H3.out.ha.free 5; have g6 := H3.out.ha.free 6; have g7 := H3.out.ha.free 7
            simp only [List.getElem?_toArray, List.getElem?_cons_zero, List.getElem?_cons_succ] at p0 p1 q0 q1 q2 z0 z1 z2 z3 z4 z5 z6 z7
            go_wp2_with fail
            with_reducible refine (HRD.out _).mono ?_
            rintro r2 w2 ⟨rfl, hb⟩
            clear p0 p1 q0 q1 q2 z0 z1 z2 z3 z4 z5 z6 z7 g0 g1 g2 g3 g4 g5 g6 g7
            have H3b := Lib.hid (H3.out.keep hb)
            clear H3
            have H3 := H3b
            clear H3b
            clear hb HRD
            go_upto_region 4 with (fail)
            have hb := (Below.refl _ w2).alloc (Nat.le_refl _) (.cells #[.int .i64 3, .int .i64 j, .string tok, .string txt, .int .i64 k, .int .i64 lv, .int .i64 n, .bool true] 78)
            have HV := Lib.hid (Has.new w2 #[.int .i64 3, .int .i64 j, .string tok, .string txt, .int .i64 k, .int .i64 lv, .int .i64 n, .bool true] 78)
            have H3b := Lib.hid (H3.out.keep hb)
            clear H3
            have H3 := H3b
            clear H3b
            clear hb
            generalize w2.alloc (.cells #[.int .i64 3, .int .i64 j, .string tok, .string txt, .int .i64 k, .int .i64 lv, .int .i64 n, .bool true] 78) = w3 at *
            generalize w2.heap.size = pv at *
            have p0 := H3.out.hp.cell 0; have p1 := H3.out.hp.cell 1
            have q0 := H3.out.hr.cell 0; have q1 := H3.out.hr.cell 1; have q2 := H3.out.hr.cell 2
            have z0 := H3.out.ha.cell 0; have z1 := H3.out.ha.cell 1; have z2 := H3.out.ha.cell 2; have z3 := H3.out.ha.cell 3; have z4 := H3.out.ha.cell 4; have z5 := H3.out.ha.cell 5; have z6 := H3.out.ha.cell 6; have z7 := H3.out.ha.cell 7
            have g0 := H3.out.ha.free 0; have g1 := H3.out.ha.free 1; have g2 := H3.out.ha.free 2; have g3 := H3.out.ha.free 3; have g4 := H3.out.ha.free 4; have g5 := H3.out.ha.free 5; have g6 := H3.out.ha.free 6; have g7 := H3.out.ha.free 7
            simp only [List.getElem?_toArray, List.getElem?_cons_zero, List.getElem?_cons_succ] at p0 p1 q0 q1 q2 z0 z1 z2 z3 z4 z5 z6 z7
            have v0 := HV.out.cell 0; have v1 := HV.out.cell 1; have v2 := HV.out.cell 2; have v3 := HV.out.cell 3; have v4 := HV.out.cell 4; have v5 := HV.out.cell 5; have v6 := HV.out.cell 6; have v7 := HV.out.cell 7
            simp only [List.getElem?_toArray, List.getElem?_cons_zero, List.getElem?_cons_succ] at v0 v1 v2 v3 v4 v5 v6 v7
            go_wp2_with fail
            with_reducible refine (HH3.out _ (HRL.out.keep H3.out.hb)).mono ?_
            rintro r3 w3 ⟨rfl, hb⟩
            clear p0 p1 q0 q1 q2 z0 z1 z2 z3 z4 z5 z6 z7 g0 g1 g2 g3 g4 g5 g6 g7
            clear v0 v1 v2 v3 v4 v5 v6 v7
            have H3b := Lib.hid (H3.out.keep hb)
            clear H3
            have H3 := H3b
            clear H3b
            have HVb := Lib.hid (HV.out.below hb HV.out.lt)
            clear HV
            have HV := HVb
            clear HVb
            clear hb HH3
            have p0 := H3.out.hp.cell 0; have p1 := H3.out.hp.cell 1
            have q0 := H3.out.hr.cell 0; have q1 := H3.out.hr.cell 1; have q2 := H3.out.hr.cell 2
            have z0 := H3.out.ha.cell 0; have z1 := H3.out.ha.cell 1; have z2 := H3.out.ha.cell 2; have z3 := H3.out.ha.cell 3; have z4 := H3.out.ha.cell 4; have z5 := H3.out.ha.cell 5; have z6 := H3.out.ha.cell 6; have z7 := H3.out.ha.cell 7
            have g0 := H3.out.ha.free 0; have g1 := H3.out.ha.free 1; have g2 := H3.out.ha.free 2; have g3 := H3.out.ha.free 3; have g4 := H3.out.ha.free 4; have g5 := H3.out.ha.free 5; have g6 := H3.out.ha.free 6; have g7 := H3.out.ha.free 7
            simp only [List.getElem?_toArray, List.getElem?_cons_zero, List.getElem?_cons_succ] at p0 p1 q0 q1 q2 z0 z1 z2 z3 z4 z5 z6 z7
            have v0 := HV.out.cell 0; have v1 := HV.out.cell 1; have v2 := HV.out.cell 2; have v3 := HV.out.cell 3; have v4 := HV.out.cell 4; have v5 := HV.out.cell 5; have v6 := HV.out.cell 6; have v7 := HV.out.cell 7
            simp only [List.getElem?_toArray, List.getElem?_cons_zero, List.getElem?_cons_succ] at v0 v1 v2 v3 v4 v5 v6 v7
            go_wp2_with fail
            with_reducible refine (HH6.out _ (HRL.out.keep H3.out.hb)).mono ?_
            rintro r6 w6 ⟨rfl, hb⟩
            clear p0 p1 q0 q1 q2 z0 z1 z2 z3 z4 z5 z6 z7 g0 g1 g2 g3 g4 g5 g6 g7
            clear v0 v1 v2 v3 v4 v5 v6 v7
            have H3b := Lib.hid (H3.out.keep hb)
            clear H3
            have H3 := H3b
            clear H3b
            have HVb := Lib.hid (HV.out.below hb HV.out.lt)
            clear HV
            have HV := HVb
            clear HVb
            clear hb HH6
            have p0 := H3.out.hp.cell 0; have p1 := H3.out.hp.cell 1
            have q0 := H3.out.hr.cell 0; have q1 := H3.out.hr.cell 1; have q2 := H3.out.hr.cell 2
            have z0 := H3.out.ha.cell 0; have z1 := H3.out.ha.cell 1; have z2 := H3.out.ha.cell 2; have z3 := H3.out.ha.cell 3; have z4 := H3.out.ha.cell 4; have z5 := H3.out.ha.cell 5; have z6 := H3.out.ha.cell 6; have z7 := H3.out.ha.cell 7
            have g0 := H3.out.ha.free 0; have g1 := H3.out.ha.free 1; have g2 := H3.out.ha.free 2; have g3 := H3.out.ha.free 3; have g4 := H3.out.ha.free 4; have g5 := H3.out.ha.free 5; have g6 := H3.out.ha.free 6; have g7 := H3.out.ha.free 7
            simp only [List.getElem?_toArray, List.getElem?_cons_zero, List.getElem?_cons_succ] at p0 p1 q0 q1 q2 z0 z1 z2 z3 z4 z5 z6 z7
            have v0 := HV.out.cell 0; have v1 := HV.out.cell 1; have v2 := HV.out.cell 2; have v3 := HV.out.cell 3; have v4 := HV.out.cell 4; have v5 := HV.out.cell 5; have v6 := HV.out.cell 6; have v7 := HV.out.cell 7
            simp only [List.getElem?_toArray, List.getElem?_cons_zero, List.getElem?_cons_succ] at v0 v1 v2 v3 v4 v5 v6 v7
            go_wp2_with fail
            with_reducible refine (HH5.out _ (HRL.out.keep H3.out.hb)).mono ?_
            rintro r5 w5 ⟨rfl, hb⟩
            clear p0 p1 q0 q1 q2 z0 z1 z2 z3 z4 z5 z6 z7 g0 g1 g2 g3 g4 g5 g6 g7
            clear v0 v1 v2 v3 v4 v5 v6 v7
            have H3b := Lib.hid (H3.out.keep hb)
            clear H3
            have H3 := H3b
            clear H3b
            have HVb := Lib.hid (HV.out.below hb HV.out.lt)
            clear HV
            have HV := HVb
            clear HVb
            clear hb HH5
            have p0 := H3.out.hp.cell 0; have p1 := H3.out.hp.cell 1
            have q0 := H3.out.hr.cell 0; have q1 := H3.out.hr.cell 1; have q2 := H3.out.hr.cell 2
            have z0 := H3.out.ha.cell 0; have z1 := H3.out.ha.cell 1; have z2 := H3.out.ha.cell 2; have z3 := H3.out.ha.cell 3; have z4 := H3.out.ha.cell 4; have z5 := H3.out.ha.cell 5; have z6 := H3.out.ha.cell 6; have z7 := H3.out.ha.cell 7
            have g0 := H3.out.ha.free 0; have g1 := H3.out.ha.free 1; have g2 := H3.out.ha.free 2; have g3 := H3.out.ha.free 3; have g4 := H3.out.ha.free 4; have g5 := H3.out.ha.free 5; have g6 := H3.out.ha.free 6; have g7 := H3.out.ha.free 7
            simp only [List.getElem?_toArray, List.getElem?_cons_zero, List.getElem?_cons_succ] at p0 p1 q0 q1 q2 z0 z1 z2 z3 z4 z5 z6 z7
            have v0 := HV.out.cell 0; have v1 := HV.out.cell 1; have v2 := HV.out.cell 2; have v3 := HV.out.cell 3; have v4 := HV.out.cell 4; have v5 := HV.out.cell 5; have v6 := HV.out.cell 6; have v7 := HV.out.cell 7
            simp only [List.getElem?_toArray, List.getElem?_cons_zero, List.getElem?_cons_succ] at v0 v1 v2 v3 v4 v5 v6 v7
            have HBX := Lib.hid H3.out.hb
            go_wp2
            ((try simp only [Exit.inBlock, Exit.then]); refine bodyPost_ret (v := (.agg #[.int .i64 4, .int .i64 j, .int .i64 0, .int .i64 0, .int .i64 0, .int .i64 0, .string txt, .int .i64 0])) ?_ rfl ⟨?_, ?_⟩; (rw [results_cell1 rfl]; go_simp))
            · rfl
            · repeat (first | (with_reducible exact HBX.out) | refine below_set ?_ _ _ (by omega) _)
        by_cases t4 : rt = 4
        · cases h5 : Cn.had L 5 j with
          | true =>
            rw [AO (O5 true h6 h5 (.inr t4))]
            rw [h5] at HH5
            simp only [actV, Cn.refuse]
            subst t4
            clear A1 A2 A7 AN AO AU O6 O5 OX U3 U4 U5 UX HOP hrt h3 h5 h6 t1 t2 t7 q1 q2 q7 t3
            go_enter Tryd.func17, Tryd.ntmps17
            go_upto_region 1 with (fail)
            have H3 := Lib.hid (T3.new w #[.slice ta l.length tc, .slice la L.length lc] #[.int .i64 4, .int .i64 j, .string d] #[.int .i64 0, .int .i64 0, .int .i64 0, .int .i64 0, .int .i64 0, .int .i64 0, .string ⟨#[]⟩, .int .i64 0] 33 42 44)
            generalize ((w.alloc (.cells #[.slice ta l.length tc, .slice la L.length lc] 33)).alloc (.cells #[.int .i64 4, .int .i64 j, .string d] 42)).alloc (.cells #[.int .i64 0, .int .i64 0, .int .i64 0, .int .i64 0, .int .i64 0, .int .i64 0, .string ⟨#[]⟩, .int .i64 0] 44) = w1 at *
            have p0 := H3.out.hp.cell 0; have p1 := H3.out.hp.cell 1
            have q0 := H3.out.hr.cell 0; have q1 := H3.out.hr.cell 1; have q2 := H3.out.hr.cell 2
            have z0 := H3.out.ha.cell 0; have z1 := H3.out.ha.cell 1; have z2 := H3.out.ha.cell 2; have z3 := H3.out.ha.cell 3; have z4 := H3.out.ha.cell 4; have z5 := H3.out.ha.cell 5; have z6 := H3.out.ha.cell 6; have z7 := H3.out.ha.cell 7
            have g0 := H3.out.ha.free 0; have g1 := H3.out.ha.free 1; have g2 := H3.out.ha.free 2; have g3 := H3.out.ha.free 3; have g4 := H3.out.ha.free 4; have g5 := H3.out.ha.free 5; have g6 := H3.out.ha.free 6; have g7 := H3.out.ha.free 7
            simp only [List.getElem?_toArray, List.getElem?_cons_zero, List.getElem?_cons_succ] at p0 p1 q0 q1 q2 z0 z1 z2 z3 z4 z5 z6 z7
            go_wp2_with fail
            with_reducible refine (HTN.out _ (HRL.out.keep H3.out.hb)).mono ?_
            rintro r9 w9 ⟨rfl, hb⟩
            clear p0 p1 q0 q1 q2 z0 z1 z2 z3 z4 z5 z6 z7 g0 g1 g2 g3 g4 g5 g6 g7
            have H3b := Lib.hid (H3.out.keep hb)
            clear H3
            have H3 := H3b
            clear H3b
            clear hb HTN
            have p0 := H3.out.hp.cell 0; have p1 := H3.out.hp.cell 1
            have q0 := H3.out.hr.cell 0; have q1 := H3.out.hr.cell 1; have q2 := H3.out.hr.cell 2
            have z0 := H3.out.ha.cell 0; have z1 := H3.out.ha.cell 1; have z2 := H3.out.ha.cell 2; have z3 := H3.out.ha.cell 3; have z4 := H3.out.ha.cell 4; have z5 := H3.out.ha.cell 5; have z6 := H3.out.ha.cell 6; have z7 := H3.out.ha.cell 7
            have g0 := H3.out.ha.free 0; have g1 := H3.out.ha.free 1; have g2 := H3.out.ha.free 2; have g3 := H3.out.ha.free 3; have g4 := H3.out.ha.free 4; have g5 := H3.out.ha.free 5; have g6 := H3.out.ha.free 6; have g7 := H3.out.ha.free 7
            simp only [List.getElem?_toArray, List.getElem?_cons_zero, List.getElem?_cons_succ] at p0 p1 q0 q1 q2 z0 z1 z2 z3 z4 z5 z6 z7
            go_wp2_with fail
            with_reducible refine (HRD.out _).mono ?_
            rintro r2 w2 ⟨rfl, hb⟩
            clear p0 p1 q0 q1 q2 z0 z1 z2 z3 z4 z5 z6 z7 g0 g1 g2 g3 g4 g5 g6 g7
            have H3b := Lib.hid (H3.out.keep hb)
            clear H3
            have H3 := H3b
            clear H3b
            clear hb HRD
            go_upto_region 4 with (fail)
            have hb := (Below.refl _ w2).alloc (Nat.le_refl _) (.cells #[.int .i64 4, .int .i64 j, .string tok, .string txt, .int .i64 k, .int .i64 lv, .int .i64 n, .bool true] 78)
            have HV := Lib.hid (Has.new w2 #[.int .i64 4, .int .i64 j, .string tok, .string txt, .int .i64 k, .int .i64 lv, .int .i64 n, .bool true] 78)
            have H3b := Lib.hid (H3.out.keep hb)
            clear H3
            have H3 := H3b
            clear H3b
            clear hb
            generalize w2.alloc (.cells #[.int .i64 4, .int .i64 j, .string tok, .string txt, .int .i64 k, .int .i64 lv, .int .i64 n, .bool true] 78) = w3 at *
            generalize w2.heap.size = pv at *
            have p0 := H3.out.hp.cell 0; have p1 := H3.out.hp.cell 1
            have q0 := H3.out.hr.cell 0; have q1 := H3.out.hr.cell 1; have q2 := H3.out.hr.cell 2
            have z0 := H3.out.ha.cell 0; have z1 := H3.out.ha.cell 1; have z2 := H3.out.ha.cell 2; have z3 := H3.out.ha.cell 3; have z4 := H3.out.ha.cell 4; have z5 := H3.out.ha.cell 5; have z6 := H3.out.ha.cell 6; have z7 := H3.out.ha.cell 7
            have g0 := H3.out.ha.free 0; have g1 := H3.out.ha.free 1; have g2 := H3.out.ha.free 2; have g3 := H3.out.ha.free 3; have g4 := H3.out.ha.free 4; have g5 := H3.out.ha.free 5; have g6 := H3.out.ha.free 6; have g7 := H3.out.ha.free 7
            simp only [List.getElem?_toArray, List.getElem?_cons_zero, List.getElem?_cons_succ] at p0 p1 q0 q1 q2 z0 z1 z2 z3 z4 z5 z6 z7
            have v0 := HV.out.cell 0; have v1 := HV.out.cell 1; have v2 := HV.out.cell 2; have v3 := HV.out.cell 3; have v4 := HV.out.cell 4; have v5 := HV.out.cell 5; have v6 := HV.out.cell 6; have v7 := HV.out.cell 7
            simp only [List.getElem?_toArray, List.getElem?_cons_zero, List.getElem?_cons_succ] at v0 v1 v2 v3 v4 v5 v6 v7
            go_wp2_with fail
            with_reducible refine (HH3.out _ (HRL.out.keep H3.out.hb)).mono ?_
            rintro r3 w3 ⟨rfl, hb⟩
            clear p0 p1 q0 q1 q2 z0 z1 z2 z3 z4 z5 z6 z7 g0 g1 g2 g3 g4 g5 g6 g7
            clear v0 v1 v2 v3 v4 v5 v6 v7
            have H3b := Lib.hid (H3.out.keep hb)
            clear H3
            have H3 := H3b
            clear H3b
            have HVb := Lib.hid (HV.out.below hb HV.out.lt)
            clear HV
            have HV := HVb
            clear HVb
            clear hb HH3
            have p0 := H3.out.hp.cell 0; have p1 := H3.out.hp.cell 1
            have q0 := H3.out.hr.cell 0; have q1 := H3.out.hr.cell 1; have q2 := H3.out.hr.cell 2
            have z0 := H3.out.ha.cell 0; have z1 := H3.out.ha.cell 1; have z2 := H3.out.ha.cell 2; have z3 := H3.out.ha.cell 3; have z4 := H3.out.ha.cell 4; have z5 := H3.out.ha.cell 5; have z6 := H3.out.ha.cell 6; have z7 := H3.out.ha.cell 7
            have g0 := H3.out.ha.free 0; have g1 := H3.out.ha.free 1; have g2 := H3.out.ha.free 2; have g3 := H3.out.ha.free 3; have g4 := H3.out.ha.free 4; have g5 := H3.out.ha.free 5; have g6 := H3.out.ha.free 6; have g7 := H3.out.ha.free 7
            simp only [List.getElem?_toArray, List.getElem?_cons_zero, List.getElem?_cons_succ] at p0 p1 q0 q1 q2 z0 z1 z2 z3 z4 z5 z6 z7
            have v0 := HV.out.cell 0; have v1 := HV.out.cell 1; have v2 := HV.out.cell 2; have v3 := HV.out.cell 3; have v4 := HV.out.cell 4; have v5 := HV.out.cell 5; have v6 := HV.out.cell 6; have v7 := HV.out.cell 7
            simp only [List.getElem?_toArray, List.getElem?_cons_zero, List.getElem?_cons_succ] at v0 v1 v2 v3 v4 v5 v6 v7
            go_wp2_with fail
            with_reducible refine (HH6.out _ (HRL.out.keep H3.out.hb)).mono ?_
            rintro r6 w6 ⟨rfl, hb⟩
            clear p0 p1 q0 q1 q2 z0 z1 z2 z3 z4 z5 z6 z7 g0 g1 g2 g3 g4 g5 g6 g7
            clear v0 v1 v2 v3 v4 v5 v6 v7
            have H3b := Lib.hid (H3.out.keep hb)
            clear H3
            have H3 := H3b
            clear H3b
            have HVb := Lib.hid (HV.out.below hb HV.out.lt)
            clear HV
            have HV := HVb
            clear HVb
            clear hb HH6
            have p0 := H3.out.hp.cell 0; have p1 := H3.out.hp.cell 1
            have q0 := H3.out.hr.cell 0; have q1 := H3.out.hr.cell 1; have q2 := H3.out.hr.cell 2
            have z0 := H3.out.ha.cell 0; have z1 := H3.out.ha.cell 1; have z2 := H3.out.ha.cell 2; have z3 := H3.out.ha.cell 3; have z4 := H3.out.ha.cell 4; have z5 := H3.out.ha.cell 5; have z6 := H3.out.ha.cell 6; have z7 := H3.out.ha.cell 7
            have g0 := H3.out.ha.free 0; have g1 := H3.out.ha.free 1; have g2 := H3.out.ha.free 2; have g3 := H3.out.ha.free 3; have g4 := H3.out.ha.free 4; have g5 := H3.out.ha.free 5; have g6 := H3.out.ha.free 6; have g7 := H3.out.ha.free 7
            simp only [List.getElem?_toArray, List.getElem?_cons_zero, List.getElem?_cons_succ] at p0 p1 q0 q1 q2 z0 z1 z2 z3 z4 z5 z6 z7
            have v0 := HV.out.cell 0; have v1 := HV.out.cell 1; have v2 := HV.out.cell 2; have v3 := HV.out.cell 3; have v4 := HV.out.cell 4; have v5 := HV.out.cell 5; have v6 := HV.out.cell 6; have v7 := HV.out.cell 7
            simp only [List.getElem?_toArray, List.getElem?_cons_zero, List.getElem?_cons_succ] at v0 v1 v2 v3 v4 v5 v6 v7
            go_wp2_with fail
            with_reducible refine (HH5.out _ (HRL.out.keep H3.out.hb)).mono ?_
            rintro r5 w5 ⟨rfl, hb⟩
            clear p0 p1 q0 q1 q2 z0 z1 z2 z3 z4 z5 z6 z7 g0 g1 g2 g3 g4 g5 g6 g7
            clear v0 v1 v2 v3 v4 v5 v6 v7
            have H3b := Lib.hid (H3.out.keep hb)
            clear H3
            have H3 := H3b
            clear H3b
            have HVb := Lib.hid (HV.out.below hb HV.out.lt)
            clear HV
            have HV := HVb
            clear HVb
            clear hb HH5
            have p0 := H3.out.hp.cell 0; have p1 := H3.out.hp.cell 1
            have q0 := H3.out.hr.cell 0; have q1 := H3.out.hr.cell 1; have q2 := H3.out.hr.cell 2
            have z0 := H3.out.ha.cell 0; have z1 := H3.out.ha.cell 1; have z2 := H3.out.ha.cell 2; have z3 := H3.out.ha.cell 3; have z4 := H3.out.ha.cell 4; have z5 := H3.out.ha.cell 5; have z6 := H3.out.ha.cell 6; have z7 := H3.out.ha.cell 7
            have g0 := H3.out.ha.free 0; have g1 := H3.out.ha.free 1; have g2 := H3.out.ha.free 2; have g3 := H3.out.ha.free 3; have g4 := H3.out.ha.free 4; have g5 := H3.out.ha.free 5; have g6 := H3.out.ha.free 6; have g7 := H3.out.ha.free 7
            simp only [List.getElem?_toArray, List.getElem?_cons_zero, List.getElem?_cons_succ] at p0 p1 q0 q1 q2 z0 z1 z2 z3 z4 z5 z6 z7
            have v0 := HV.out.cell 0; have v1 := HV.out.cell 1; have v2 := HV.out.cell 2; have v3 := HV.out.cell 3; have v4 := HV.out.cell 4; have v5 := HV.out.cell 5; have v6 := HV.out.cell 6; have v7 := HV.out.cell 7
            simp only [List.getElem?_toArray, List.getElem?_cons_zero, List.getElem?_cons_succ] at v0 v1 v2 v3 v4 v5 v6 v7
            go_wp2_with fail
            clear v0 v1 v2 v3 v4 v5 v6 v7
            with_reducible refine (refrefuse_walk _ _ _ _ _).mono ?_
            rintro r5 w5 ⟨rfl, hb⟩
            clear p0 p1 q0 q1 q2 z0 z1 z2 z3 z4 z5 z6 z7 g0 g1 g2 g3 g4 g5 g6 g7
            have H3b := Lib.hid (H3.out.keep hb)
            clear H3
            have H3 := H3b
            clear H3b
            clear hb
            have p0 := H3.out.hp.cell 0; have p1 := H3.out.hp.cell 1
            have q0 := H3.out.hr.cell 0; have q1 := H3.out.hr.cell 1; have q2 := H3.out.hr.cell 2
            have z0 := H3.out.ha.cell 0; have z1 := H3.out.ha.cell 1; have z2 := H3.out.ha.cell 2; have z3 := H3.out.ha.cell 3; have z4 := H3.out.ha.cell 4; have z5 := H3.out.ha.cell 5; have z6 := H3.out.ha.cell 6; have z7 := H3.out.ha.cell 7
            have g0 := H3.out.ha.free 0; have g1 := H3.out.ha.free 1; have g2 := H3.out.ha.free 2; have g3 := H3.out.ha.free 3; have g4 := H3.out.ha.free 4; have g5 := H3.out.ha.free 5; have g6 := H3.out.ha.free 6; have g7 := H3.out.ha.free 7
            simp only [List.getElem?_toArray, List.getElem?_cons_zero, List.getElem?_cons_succ] at p0 p1 q0 q1 q2 z0 z1 z2 z3 z4 z5 z6 z7
            have HBX := Lib.hid H3.out.hb
            go_wp2
            ((try simp only [Exit.inBlock, Exit.then]); refine bodyPost_ret (v := (.agg #[.int .i64 1, .int .i64 j, .int .i64 0, .int .i64 0, .int .i64 0, .int .i64 0, .string ⟨#[]⟩, .int .i64 32])) ?_ rfl ⟨?_, ?_⟩; (rw [results_cell1 rfl]; go_simp))
            · rfl
            · repeat (first | (with_reducible exact HBX.out) | refine below_set ?_ _ _ (by omega) _)
          | false =>
            rw [AU (O5 false h6 h5 (.inr t4)), U4 t4]
            rw [h5] at HH5
            simp only [actV]
            subst t4
            clear A1 A2 A7 AN AO AU O6 O5 OX U3 U4 U5 UX HOP hrt h3 h5 h6 t1 t2 t7 q1 q2 q7 t3
            go_enter Tryd.func17, Tryd.ntmps17
            go_upto_region 1 with (fail)
            have H3 := Lib.hid (T3.new w #[.slice ta l.length tc, .slice la L.length lc] #[.int .i64 4, .int .i64 j, .string d] #[.int .i64 0, .int .i64 0, .int .i64 0, .int .i64 0, .int .i64 0, .int .i64 0, .string ⟨#[]⟩, .int .i64 0] 33 42 44)
            generalize ((w.alloc (.cells #[.slice ta l.length tc, .slice la L.length lc] 33)).alloc (.cells #[.int .i64 4, .int .i64 j, .string d] 42)).alloc (.cells #[.int .i64 0, .int .i64 0, .int .i64 0, .int .i64 0, .int .i64 0, .int .i64 0, .string ⟨#[]⟩, .int .i64 0] 44) = w1 at *
            have p0 := H3.out.hp.cell 0; have p1 := H3.out.hp.cell 1
            have q0 := H3.out.hr.cell 0; have q1 := H3.out.hr.cell 1; have q2 := H3.out.hr.cell 2
            have z0 := H3.out.ha.cell 0; have z1 := H3.out.ha.cell 1; have z2 := H3.out.ha.cell 2; have z3 := H3.out.ha.cell 3; have z4 := H3.out.ha.cell 4; have z5 := H3.out.ha.cell 5; have z6 := H3.out.ha.cell 6; have z7 := H3.out.ha.cell 7
            have g0 := H3.out.ha.free 0; have g1 := H3.out.ha.free 1; have g2 := H3.out.ha.free 2; have g3 := H3.out.ha.free 3; have g4 := H3.out.ha.free 4; have g5 := H3.out.ha.free 5; have g6 := H3.out.ha.free 6; have g7 := H3.out.ha.free 7
            simp only [List.getElem?_toArray, List.getElem?_cons_zero, List.getElem?_cons_succ] at p0 p1 q0 q1 q2 z0 z1 z2 z3 z4 z5 z6 z7
            go_wp2_with fail
            with_reducible refine (HTN.out _ (HRL.out.keep H3.out.hb)).mono ?_
            rintro r9 w9 ⟨rfl, hb⟩
            clear p0 p1 q0 q1 q2 z0 z1 z2 z3 z4 z5 z6 z7 g0 g1 g2 g3 g4 g5 g6 g7
            have H3b := Lib.hid (H3.out.keep hb)
            clear H3
            have H3 := H3b
            clear H3b
            clear hb HTN
            have p0 := H3.out.hp.cell 0; have p1 := H3.out.hp.cell 1
            have q0 := H3.out.hr.cell 0; have q1 := H3.out.hr.cell 1; have q2 := H3.out.hr.cell 2
            have z0 := H3.out.ha.cell 0; have z1 := H3.out.ha.cell 1; have z2 := H3.out.ha.cell 2; have z3 := H3.out.ha.cell 3; have z4 := H3.out.ha.cell 4; have z5 := H3.out.ha.cell 5; have z6 := H3.out.ha.cell 6; have z7 := H3.out.ha.cell 7
            have g0 := H3.out.ha.free 0; have g1 := H3.out.ha.free 1; have g2 := H3.out.ha.free 2; have g3 := H3.out.ha.free 3; have g4 := H3.out.ha.free 4; have g5 := H3.out.ha.free 5; have g6 := H3.out.ha.free 6; have g7 := H3.out.ha.free 7
            simp only [List.getElem?_toArray, List.getElem?_cons_zero, List.getElem?_cons_succ] at p0 p1 q0 q1 q2 z0 z1 z2 z3 z4 z5 z6 z7
            go_wp2_with fail
            with_reducible refine (HRD.out _).mono ?_
            rintro r2 w2 ⟨rfl, hb⟩
            clear p0 p1 q0 q1 q2 z0 z1 z2 z3 z4 z5 z6 z7 g0 g1 g2 g3 g4 g5 g6 g7
            have H3b := Lib.hid (H3.out.keep hb)
            clear H3
            have H3 := H3b
            clear H3b
            clear hb HRD
            go_upto_region 4 with (fail)
            have hb := (Below.refl _ w2).alloc (Nat.le_refl _) (.cells #[.int .i64 4, .int .i64 j, .string tok, .string txt, .int .i64 k, .int .i64 lv, .int .i64 n, .bool true] 78)
            have HV := Lib.hid (Has.new w2 #[.int .i64 4, .int .i64 j, .string tok, .string txt, .int .i64 k, .int .i64 lv, .int .i64 n, .bool true] 78)
            have H3b := Lib.hid (H3.out.keep hb)
            clear H3
            have H3 := H3b
            clear H3b
            clear hb
            generalize w2.alloc (.cells #[.int .i64 4, .int .i64 j, .string tok, .string txt, .int .i64 k, .int .i64 lv, .int .i64 n, .bool true] 78) = w3 at *
            generalize w2.heap.size = pv at *
            have p0 := H3.out.hp.cell 0; have p1 := H3.out.hp.cell 1
            have q0 := H3.out.hr.cell 0; have q1 := H3.out.hr.cell 1; have q2 := H3.out.hr.cell 2
            have z0 := H3.out.ha.cell 0; have z1 := H3.out.ha.cell 1; have z2 := H3.out.ha.cell 2; have z3 := H3.out.ha.cell 3; have z4 := H3.out.ha.cell 4; have z5 := H3.out.ha.cell 5; have z6 := H3.out.ha.cell 6; have z7 := H3.out.ha.cell 7
            have g0 := H3.out.ha.free 0; have g1 := H3.out.ha.free 1; have g2 := H3.out.ha.free 2; have g3 := H3.out.ha.free 3; have g4 := H3.out.ha.free 4; have g5 := H3.out.ha.free 5; have g6 := H3.out.ha.free 6; have g7 := H3.out.ha.free 7
            simp only [List.getElem?_toArray, List.getElem?_cons_zero, List.getElem?_cons_succ] at p0 p1 q0 q1 q2 z0 z1 z2 z3 z4 z5 z6 z7
            have v0 := HV.out.cell 0; have v1 := HV.out.cell 1; have v2 := HV.out.cell 2; have v3 := HV.out.cell 3; have v4 := HV.out.cell 4; have v5 := HV.out.cell 5; have v6 := HV.out.cell 6; have v7 := HV.out.cell 7
            simp only [List.getElem?_toArray, List.getElem?_cons_zero, List.getElem?_cons_succ] at v0 v1 v2 v3 v4 v5 v6 v7
            go_wp2_with fail
            with_reducible refine (HH3.out _ (HRL.out.keep H3.out.hb)).mono ?_
            rintro r3 w3 ⟨rfl, hb⟩
            clear p0 p1 q0 q1 q2 z0 z1 z2 z3 z4 z5 z6 z7 g0 g1 g2 g3 g4 g5 g6 g7
            clear v0 v1 v2 v3 v4 v5 v6 v7
            have H3b := Lib.hid (H3.out.keep hb)
            clear H3
            have H3 := H3b
            clear H3b
            have HVb := Lib.hid (HV.out.below hb HV.out.lt)
            clear HV
            have HV := HVb
            clear HVb
            clear hb HH3
            have p0 := H3.out.hp.cell 0; have p1 := H3.out.hp.cell 1
            have q0 := H3.out.hr.cell 0; have q1 := H3.out.hr.cell 1; have q2 := H3.out.hr.cell 2
            have z0 := H3.out.ha.cell 0; have z1 := H3.out.ha.cell 1; have z2 := H3.out.ha.cell 2; have z3 := H3.out.ha.cell 3; have z4 := H3.out.ha.cell 4; have z5 := H3.out.ha.cell 5; have z6 := H3.out.ha.cell 6; have z7 := H3.out.ha.cell 7
            have g0 := H3.out.ha.free 0; have g1 := H3.out.ha.free 1; have g2 := H3.out.ha.free 2; have g3 := H3.out.ha.free 3; have g4 := H3.out.ha.free 4; have g5 := H3.out.ha.free 5; have g6 := H3.out.ha.free 6; have g7 := H3.out.ha.free 7
            simp only [List.getElem?_toArray, List.getElem?_cons_zero, List.getElem?_cons_succ] at p0 p1 q0 q1 q2 z0 z1 z2 z3 z4 z5 z6 z7
            have v0 := HV.out.cell 0; have v1 := HV.out.cell 1; have v2 := HV.out.cell 2; have v3 := HV.out.cell 3; have v4 := HV.out.cell 4; have v5 := HV.out.cell 5; have v6 := HV.out.cell 6; have v7 := HV.out.cell 7
            simp only [List.getElem?_toArray, List.getElem?_cons_zero, List.getElem?_cons_succ] at v0 v1 v2 v3 v4 v5 v6 v7
            go_wp2_with fail
            with_reducible refine (HH6.out _ (HRL.out.keep H3.out.hb)).mono ?_
            rintro r6 w6 ⟨rfl, hb⟩
            clear p0 p1 q0 q1 q2 z0 z1 z2 z3 z4 z5 z6 z7 g0 g1 g2 g3 g4 g5 g6 g7
            clear v0 v1 v2 v3 v4 v5 v6 v7
            have H3b := Lib.hid (H3.out.keep hb)
            clear H3
            have H3 := H3b
            clear H3b
            have HVb := Lib.hid (HV.out.below hb HV.out.lt)
            clear HV
            have HV := HVb
            clear HVb
            clear hb HH6
            have p0 := H3.out.hp.cell 0; have p1 := H3.out.hp.cell 1
            have q0 := H3.out.hr.cell 0; have q1 := H3.out.hr.cell 1; have q2 := H3.out.hr.cell 2
            have z0 := H3.out.ha.cell 0; have z1 := H3.out.ha.cell 1; have z2 := H3.out.ha.cell 2; have z3 := H3.out.ha.cell 3; have z4 := H3.out.ha.cell 4; have z5 := H3.out.ha.cell 5; have z6 := H3.out.ha.cell 6; have z7 := H3.out.ha.cell 7
            have g0 := H3.out.ha.free 0; have g1 := H3.out.ha.free 1; have g2 := H3.out.ha.free 2; have g3 := H3.out.ha.free 3; have g4 := H3.out.ha.free 4; have g5 := H3.out.ha.free 5; have g6 := H3.out.ha.free 6; have g7 := H3.out.ha.free 7
            simp only [List.getElem?_toArray, List.getElem?_cons_zero, List.getElem?_cons_succ] at p0 p1 q0 q1 q2 z0 z1 z2 z3 z4 z5 z6 z7
            have v0 := HV.out.cell 0; have v1 := HV.out.cell 1; have v2 := HV.out.cell 2; have v3 := HV.out.cell 3; have v4 := HV.out.cell 4; have v5 := HV.out.cell 5; have v6 := HV.out.cell 6; have v7 := HV.out.cell 7
            simp only [List.getElem?_toArray, List.getElem?_cons_zero, List.getElem?_cons_succ] at v0 v1 v2 v3 v4 v5 v6 v7
            go_wp2_with fail
            with_reducible refine (HH5.out _ (HRL.out.keep H3.out.hb)).mono ?_
            rintro r5 w5 ⟨rfl, hb⟩
            clear p0 p1 q0 q1 q2 z0 z1 z2 z3 z4 z5 z6 z7 g0 g1 g2 g3 g4 g5 g6 g7
            clear v0 v1 v2 v3 v4 v5 v6 v7
            have H3b := Lib.hid (H3.out.keep hb)
            clear H3
            have H3 := H3b
            clear H3b
            have HVb := Lib.hid (HV.out.below hb HV.out.lt)
            clear HV
            have HV := HVb
            clear HVb
            clear hb HH5
            have p0 := H3.out.hp.cell 0; have p1 := H3.out.hp.cell 1
            have q0 := H3.out.hr.cell 0; have q1 := H3.out.hr.cell 1; have q2 := H3.out.hr.cell 2
            have z0 := H3.out.ha.cell 0; have z1 := H3.out.ha.cell 1; have z2 := H3.out.ha.cell 2; have z3 := H3.out.ha.cell 3; have z4 := H3.out.ha.cell 4; have z5 := H3.out.ha.cell 5; have z6 := H3.out.ha.cell 6; have z7 := H3.out.ha.cell 7
            have g0 := H3.out.ha.free 0; have g1 := H3.out.ha.free 1; have g2 := H3.out.ha.free 2; have g3 := H3.out.ha.free 3; have g4 := H3.out.ha.free 4; have g5 := H3.out.ha.free 5; have g6 := H3.out.ha.free 6; have g7 := H3.out.ha.free 7
            simp only [List.getElem?_toArray, List.getElem?_cons_zero, List.getElem?_cons_succ] at p0 p1 q0 q1 q2 z0 z1 z2 z3 z4 z5 z6 z7
            have v0 := HV.out.cell 0; have v1 := HV.out.cell 1; have v2 := HV.out.cell 2; have v3 := HV.out.cell 3; have v4 := HV.out.cell 4; have v5 := HV.out.cell 5; have v6 := HV.out.cell 6; have v7 := HV.out.cell 7
            simp only [List.getElem?_toArray, List.getElem?_cons_zero, List.getElem?_cons_succ] at v0 v1 v2 v3 v4 v5 v6 v7
            have HBX := Lib.hid H3.out.hb
            go_wp2
            ((try simp only [Exit.inBlock, Exit.then]); refine bodyPost_ret (v := (.agg #[.int .i64 5, .int .i64 j, .int .i64 0, .int .i64 0, .int .i64 0, .int .i64 0, .string ⟨#[]⟩, .int .i64 0])) ?_ rfl ⟨?_, ?_⟩; (rw [results_cell1 rfl]; go_simp))
            · rfl
            · repeat (first | (with_reducible exact HBX.out) | refine below_set ?_ _ _ (by omega) _)
        rw [AU (OX h6 t3 t4)]
        by_cases t5 : rt = 5
        · rw [U5 t5]
          simp only [actV]
          subst t5
          clear A1 A2 A7 AN AO AU O6 O5 OX U3 U4 U5 UX HOP hrt h3 h6 t1 t2 t7 q1 q2 q7 t3 t4 HH5
          go_enter Tryd.func17, Tryd.ntmps17
          go_upto_region 1 with (fail)
          have H3 := Lib.hid (T3.new w #[.slice ta l.length tc, .slice la L.length lc] #[.int .i64 5, .int .i64 j, .string d] #[.int .i64 0, .int .i64 0, .int .i64 0, .int .i64 0, .int .i64 0, .int .i64 0, .string ⟨#[]⟩, .int .i64 0] 33 42 44)
          generalize ((w.alloc (.cells #[.slice ta l.length tc, .slice la L.length lc] 33)).alloc (.cells #[.int .i64 5, .int .i64 j, .string d] 42)).alloc (.cells #[.int .i64 0, .int .i64 0, .int .i64 0, .int .i64 0, .int .i64 0, .int .i64 0, .string ⟨#[]⟩, .int .i64 0] 44) = w1 at *
          have p0 := H3.out.hp.cell 0; have p1 := H3.out.hp.cell 1
          have q0 := H3.out.hr.cell 0; have q1 := H3.out.hr.cell 1; have q2 := H3.out.hr.cell 2
          have z0 := H3.out.ha.cell 0; have z1 := H3.out.ha.cell 1; have z2 := H3.out.ha.cell 2; have z3 := H3.out.ha.cell 3; have z4 := H3.out.ha.cell 4; have z5 := H3.out.ha.cell 5; have z6 := H3.out.ha.cell 6; have z7 := H3.out.ha.cell 7
          have g0 := H3.out.ha.free 0; have g1 := H3.out.ha.free 1; have g2 := H3.out.ha.free 2; have g3 := H3.out.ha.free 3; have g4 := H3.out.ha.free 4; have g5 := H3.out.ha.free 5; have g6 := H3.out.ha.free 6; have g7 := H3.out.ha.free 7
          simp only [List.getElem?_toArray, List.getElem?_cons_zero, List.getElem?_cons_succ] at p0 p1 q0 q1 q2 z0 z1 z2 z3 z4 z5 z6 z7
          go_wp2_with fail
          with_reducible refine (HTN.out _ (HRL.out.keep H3.out.hb)).mono ?_
          rintro r9 w9 ⟨rfl, hb⟩
          clear p0 p1 q0 q1 q2 z0 z1 z2 z3 z4 z5 z6 z7 g0 g1 g2 g3 g4 g5 g6 g7
          have H3b := Lib.hid (H3.out.keep hb)
          clear H3
          have H3 := H3b
          clear H3b
          clear hb HTN
          have p0 := H3.out.hp.cell 0; have p1 := H3.out.hp.cell 1
          have q0 := H3.out.hr.cell 0; have q1 := H3.out.hr.cell 1; have q2 := H3.out.hr.cell 2
          have z0 := H3.out.ha.cell 0; have z1 := H3.out.ha.cell 1; have z2 := H3.out.ha.cell 2; have z3 := H3.out.ha.cell 3; have z4 := H3.out.ha.cell 4; have z5 := H3.out.ha.cell 5; have z6 := H3.out.ha.cell 6; have z7 := H3.out.ha.cell 7
          have g0 := H3.out.ha.free 0; have g1 := H3.out.ha.free 1; have g2 := H3.out.ha.free 2; have g3 := H3.out.ha.free 3; have g4 := H3.out.ha.free 4; have g5 := H3.out.ha.free 5; have g6 := H3.out.ha.free 6; have g7 := H3.out.ha.free 7
          simp only [List.getElem?_toArray, List.getElem?_cons_zero, List.getElem?_cons_succ] at p0 p1 q0 q1 q2 z0 z1 z2 z3 z4 z5 z6 z7
          go_wp2_with fail
          with_reducible refine (HRD.out _).mono ?_
          rintro r2 w2 ⟨rfl, hb⟩
          clear p0 p1 q0 q1 q2 z0 z1 z2 z3 z4 z5 z6 z7 g0 g1 g2 g3 g4 g5 g6 g7
          have H3b := Lib.hid (H3.out.keep hb)
          clear H3
          have H3 := H3b
          clear H3b
          clear hb HRD
          go_upto_region 4 with (fail)
          have hb := (Below.refl _ w2).alloc (Nat.le_refl _) (.cells #[.int .i64 5, .int .i64 j, .string tok, .string txt, .int .i64 k, .int .i64 lv, .int .i64 n, .bool true] 78)
          have HV := Lib.hid (Has.new w2 #[.int .i64 5, .int .i64 j, .string tok, .string txt, .int .i64 k, .int .i64 lv, .int .i64 n, .bool true] 78)
          have H3b := Lib.hid (H3.out.keep hb)
          clear H3
          have H3 := H3b
          clear H3b
          clear hb
          generalize w2.alloc (.cells #[.int .i64 5, .int .i64 j, .string tok, .string txt, .int .i64 k, .int .i64 lv, .int .i64 n, .bool true] 78) = w3 at *
          generalize w2.heap.size = pv at *
          have p0 := H3.out.hp.cell 0; have p1 := H3.out.hp.cell 1
          have q0 := H3.out.hr.cell 0; have q1 := H3.out.hr.cell 1; have q2 := H3.out.hr.cell 2
          have z0 := H3.out.ha.cell 0; have z1 := H3.out.ha.cell 1; have z2 := H3.out.ha.cell 2; have z3 := H3.out.ha.cell 3; have z4 := H3.out.ha.cell 4; have z5 := H3.out.ha.cell 5; have z6 := H3.out.ha.cell 6; have z7 := H3.out.ha.cell 7
          have g0 := H3.out.ha.free 0; have g1 := H3.out.ha.free 1; have g2 := H3.out.ha.free 2; have g3 := H3.out.ha.free 3; have g4 := H3.out.ha.free 4; have g5 := H3.out.ha.free 5; have g6 := H3.out.ha.free 6; have g7 := H3.out.ha.free 7
          simp only [List.getElem?_toArray, List.getElem?_cons_zero, List.getElem?_cons_succ] at p0 p1 q0 q1 q2 z0 z1 z2 z3 z4 z5 z6 z7
          have v0 := HV.out.cell 0; have v1 := HV.out.cell 1; have v2 := HV.out.cell 2; have v3 := HV.out.cell 3; have v4 := HV.out.cell 4; have v5 := HV.out.cell 5; have v6 := HV.out.cell 6; have v7 := HV.out.cell 7
          simp only [List.getElem?_toArray, List.getElem?_cons_zero, List.getElem?_cons_succ] at v0 v1 v2 v3 v4 v5 v6 v7
          go_wp2_with fail
          with_reducible refine (HH3.out _ (HRL.out.keep H3.out.hb)).mono ?_
          rintro r3 w3 ⟨rfl, hb⟩
          clear p0 p1 q0 q1 q2 z0 z1 z2 z3 z4 z5 z6 z7 g0 g1 g2 g3 g4 g5 g6 g7
          clear v0 v1 v2 v3 v4 v5 v6 v7
          have H3b := Lib.hid (H3.out.keep hb)
          clear H3
          have H3 := H3b
          clear H3b
          have HVb := Lib.hid (HV.out.below hb HV.out.lt)
          clear HV
          have HV := HVb
          clear HVb
          clear hb HH3
          have p0 := H3.out.hp.cell 0; have p1 := H3.out.hp.cell 1
          have q0 := H3.out.hr.cell 0; have q1 := H3.out.hr.cell 1; have q2 := H3.out.hr.cell 2
          have z0 := H3.out.ha.cell 0; have z1 := H3.out.ha.cell 1; have z2 := H3.out.ha.cell 2; have z3 := H3.out.ha.cell 3; have z4 := H3.out.ha.cell 4; have z5 := H3.out.ha.cell 5; have z6 := H3.out.ha.cell 6; have z7 := H3.out.ha.cell 7
          have g0 := H3.out.ha.free 0; have g1 := H3.out.ha.free 1; have g2 := H3.out.ha.free 2; have g3 := H3.out.ha.free 3; have g4 := H3.out.ha.free 4; have g5 := H3.out.ha.free 5; have g6 := H3.out.ha.free 6; have g7 := H3.out.ha.free 7
          simp only [List.getElem?_toArray, List.getElem?_cons_zero, List.getElem?_cons_succ] at p0 p1 q0 q1 q2 z0 z1 z2 z3 z4 z5 z6 z7
          have v0 := HV.out.cell 0; have v1 := HV.out.cell 1; have v2 := HV.out.cell 2; have v3 := HV.out.cell 3; have v4 := HV.out.cell 4; have v5 := HV.out.cell 5; have v6 := HV.out.cell 6; have v7 := HV.out.cell 7
          simp only [List.getElem?_toArray, List.getElem?_cons_zero, List.getElem?_cons_succ] at v0 v1 v2 v3 v4 v5 v6 v7
          go_wp2_with fail
          with_reducible refine (HH6.out _ (HRL.out.keep H3.out.hb)).mono ?_
          rintro r6 w6 ⟨rfl, hb⟩
          clear p0 p1 q0 q1 q2 z0 z1 z2 z3 z4 z5 z6 z7 g0 g1 g2 g3 g4 g5 g6 g7
          clear v0 v1 v2 v3 v4 v5 v6 v7
          have H3b := Lib.hid (H3.out.keep hb)
          clear H3
          have H3 := H3b
          clear H3b
          have HVb := Lib.hid (HV.out.below hb HV.out.lt)
          clear HV
          have HV := HVb
          clear HVb
          clear hb HH6
          have p0 := H3.out.hp.cell 0; have p1 := H3.out.hp.cell 1
          have q0 := H3.out.hr.cell 0; have q1 := H3.out.hr.cell 1; have q2 := H3.out.hr.cell 2
          have z0 := H3.out.ha.cell 0; have z1 := H3.out.ha.cell 1; have z2 := H3.out.ha.cell 2; have z3 := H3.out.ha.cell 3; have z4 := H3.out.ha.cell 4; have z5 := H3.out.ha.cell 5; have z6 := H3.out.ha.cell 6; have z7 := H3.out.ha.cell 7
          have g0 := H3.out.ha.free 0; have g1 := H3.out.ha.free 1; have g2 := H3.out.ha.free 2; have g3 := H3.out.ha.free 3; have g4 := H3.out.ha.free 4; have g5 := H3.out.ha.free 5; have g6 := H3.out.ha.free 6; have g7 := H3.out.ha.free 7
          simp only [List.getElem?_toArray, List.getElem?_cons_zero, List.getElem?_cons_succ] at p0 p1 q0 q1 q2 z0 z1 z2 z3 z4 z5 z6 z7
          have v0 := HV.out.cell 0; have v1 := HV.out.cell 1; have v2 := HV.out.cell 2; have v3 := HV.out.cell 3; have v4 := HV.out.cell 4; have v5 := HV.out.cell 5; have v6 := HV.out.cell 6; have v7 := HV.out.cell 7
          simp only [List.getElem?_toArray, List.getElem?_cons_zero, List.getElem?_cons_succ] at v0 v1 v2 v3 v4 v5 v6 v7
          have HBX := Lib.hid H3.out.hb
          go_wp2
          ((try simp only [Exit.inBlock, Exit.then]); refine bodyPost_ret (v := (.agg #[.int .i64 6, .int .i64 j, .int .i64 0, .int .i64 0, .int .i64 0, .int .i64 0, .string ⟨#[]⟩, .int .i64 0])) ?_ rfl ⟨?_, ?_⟩; (rw [results_cell1 rfl]; go_simp))
          · rfl
          · repeat (first | (with_reducible exact HBX.out) | refine below_set ?_ _ _ (by omega) _)
        · have t6 : rt = 6 := by omega
          rw [UX t3 t4 t5]
          simp only [actV]
          subst t6
          clear A1 A2 A7 AN AO AU O6 O5 OX U3 U4 U5 UX HOP hrt h3 h6 t1 t2 t7 q1 q2 q7 t3 t4 t5 HH5
          go_enter Tryd.func17, Tryd.ntmps17
          go_upto_region 1 with (fail)
          have H3 := Lib.hid (T3.new w #[.slice ta l.length tc, .slice la L.length lc] #[.int .i64 6, .int .i64 j, .string d] #[.int .i64 0, .int .i64 0, .int .i64 0, .int .i64 0, .int .i64 0, .int .i64 0, .string ⟨#[]⟩, .int .i64 0] 33 42 44)
          generalize ((w.alloc (.cells #[.slice ta l.length tc, .slice la L.length lc] 33)).alloc (.cells #[.int .i64 6, .int .i64 j, .string d] 42)).alloc (.cells #[.int .i64 0, .int .i64 0, .int .i64 0, .int .i64 0, .int .i64 0, .int .i64 0, .string ⟨#[]⟩, .int .i64 0] 44) = w1 at *
          have p0 := H3.out.hp.cell 0; have p1 := H3.out.hp.cell 1
          have q0 := H3.out.hr.cell 0; have q1 := H3.out.hr.cell 1; have q2 := H3.out.hr.cell 2
          have z0 := H3.out.ha.cell 0; have z1 := H3.out.ha.cell 1; have z2 := H3.out.ha.cell 2; have z3 := H3.out.ha.cell 3; have z4 := H3.out.ha.cell 4; have z5 := H3.out.ha.cell 5; have z6 := H3.out.ha.cell 6; have z7 := H3.out.ha.cell 7
          have g0 := H3.out.ha.free 0; have g1 := H3.out.ha.free 1; have g2 := H3.out.ha.free 2; have g3 := H3.out.ha.free 3; have g4 := H3.out.ha.free 4; have g5 := H3.out.ha.free 5; have g6 := H3.out.ha.free 6; have g7 := H3.out.ha.free 7
          simp only [List.getElem?_toArray, List.getElem?_cons_zero, List.getElem?_cons_succ] at p0 p1 q0 q1 q2 z0 z1 z2 z3 z4 z5 z6 z7
          go_wp2_with fail
          with_reducible refine (HTN.out _ (HRL.out.keep H3.out.hb)).mono ?_
          rintro r9 w9 ⟨rfl, hb⟩
          clear p0 p1 q0 q1 q2 z0 z1 z2 z3 z4 z5 z6 z7 g0 g1 g2 g3 g4 g5 g6 g7
          have H3b := Lib.hid (H3.out.keep hb)
          clear H3
          have H3 := H3b
          clear H3b
          clear hb HTN
          have p0 := H3.out.hp.cell 0; have p1 := H3.out.hp.cell 1
          have q0 := H3.out.hr.cell 0; have q1 := H3.out.hr.cell 1; have q2 := H3.out.hr.cell 2
          have z0 := H3.out.ha.cell 0; have z1 := H3.out.ha.cell 1; have z2 := H3.out.ha.cell 2; have z3 := H3.out.ha.cell 3; have z4 := H3.out.ha.cell 4; have z5 := H3.out.ha.cell 5; have z6 := H3.out.ha.cell 6; have z7 := H3.out.ha.cell 7
          have g0 := H3.out.ha.free 0; have g1 := H3.out.ha.free 1; have g2 := H3.out.ha.free 2; have g3 := H3.out.ha.free 3; have g4 := H3.out.ha.free 4; have g5 := H3.out.ha.free 5; have g6 := H3.out.ha.free 6; have g7 := H3.out.ha.free 7
          simp only [List.getElem?_toArray, List.getElem?_cons_zero, List.getElem?_cons_succ] at p0 p1 q0 q1 q2 z0 z1 z2 z3 z4 z5 z6 z7
          go_wp2_with fail
          with_reducible refine (HRD.out _).mono ?_
          rintro r2 w2 ⟨rfl, hb⟩
          clear p0 p1 q0 q1 q2 z0 z1 z2 z3 z4 z5 z6 z7 g0 g1 g2 g3 g4 g5 g6 g7
          have H3b := Lib.hid (H3.out.keep hb)
          clear H3
          have H3 := H3b
          clear H3b
          clear hb HRD
          go_upto_region 4 with (fail)
          have hb := (Below.refl _ w2).alloc (Nat.le_refl _) (.cells #[.int .i64 6, .int .i64 j, .string tok, .string txt, .int .i64 k, .int .i64 lv, .int .i64 n, .bool true] 78)
          have HV := Lib.hid (Has.new w2 #[.int .i64 6, .int .i64 j, .string tok, .string txt, .int .i64 k, .int .i64 lv, .int .i64 n, .bool true] 78)
          have H3b := Lib.hid (H3.out.keep hb)
          clear H3
          have H3 := H3b
          clear H3b
          clear hb
          generalize w2.alloc (.cells #[.int .i64 6, .int .i64 j, .string tok, .string txt, .int .i64 k, .int .i64 lv, .int .i64 n, .bool true] 78) = w3 at *
          generalize w2.heap.size = pv at *
          have p0 := H3.out.hp.cell 0; have p1 := H3.out.hp.cell 1
          have q0 := H3.out.hr.cell 0; have q1 := H3.out.hr.cell 1; have q2 := H3.out.hr.cell 2
          have z0 := H3.out.ha.cell 0; have z1 := H3.out.ha.cell 1; have z2 := H3.out.ha.cell 2; have z3 := H3.out.ha.cell 3; have z4 := H3.out.ha.cell 4; have z5 := H3.out.ha.cell 5; have z6 := H3.out.ha.cell 6; have z7 := H3.out.ha.cell 7
          have g0 := H3.out.ha.free 0; have g1 := H3.out.ha.free 1; have g2 := H3.out.ha.free 2; have g3 := H3.out.ha.free 3; have g4 := H3.out.ha.free 4; have g5 := H3.out.ha.free 5; have g6 := H3.out.ha.free 6; have g7 := H3.out.ha.free 7
          simp only [List.getElem?_toArray, List.getElem?_cons_zero, List.getElem?_cons_succ] at p0 p1 q0 q1 q2 z0 z1 z2 z3 z4 z5 z6 z7
          have v0 := HV.out.cell 0; have v1 := HV.out.cell 1; have v2 := HV.out.cell 2; have v3 := HV.out.cell 3; have v4 := HV.out.cell 4; have v5 := HV.out.cell 5; have v6 := HV.out.cell 6; have v7 := HV.out.cell 7
          simp only [List.getElem?_toArray, List.getElem?_cons_zero, List.getElem?_cons_succ] at v0 v1 v2 v3 v4 v5 v6 v7
          go_wp2_with fail
          with_reducible refine (HH3.out _ (HRL.out.keep H3.out.hb)).mono ?_
          rintro r3 w3 ⟨rfl, hb⟩
          clear p0 p1 q0 q1 q2 z0 z1 z2 z3 z4 z5 z6 z7 g0 g1 g2 g3 g4 g5 g6 g7
          clear v0 v1 v2 v3 v4 v5 v6 v7
          have H3b := Lib.hid (H3.out.keep hb)
          clear H3
          have H3 := H3b
          clear H3b
          have HVb := Lib.hid (HV.out.below hb HV.out.lt)
          clear HV
          have HV := HVb
          clear HVb
          clear hb HH3
          have p0 := H3.out.hp.cell 0; have p1 := H3.out.hp.cell 1
          have q0 := H3.out.hr.cell 0; have q1 := H3.out.hr.cell 1; have q2 := H3.out.hr.cell 2
          have z0 := H3.out.ha.cell 0; have z1 := H3.out.ha.cell 1; have z2 := H3.out.ha.cell 2; have z3 := H3.out.ha.cell 3; have z4 := H3.out.ha.cell 4; have z5 := H3.out.ha.cell 5; have z6 := H3.out.ha.cell 6; have z7 := H3.out.ha.cell 7
          have g0 := H3.out.ha.free 0; have g1 := H3.out.ha.free 1; have g2 := H3.out.ha.free 2; have g3 := H3.out.ha.free 3; have g4 := H3.out.ha.free 4; have g5 := H3.out.ha.free 5; have g6 := H3.out.ha.free 6; have g7 := H3.out.ha.free 7
          simp only [List.getElem?_toArray, List.getElem?_cons_zero, List.getElem?_cons_succ] at p0 p1 q0 q1 q2 z0 z1 z2 z3 z4 z5 z6 z7
          have v0 := HV.out.cell 0; have v1 := HV.out.cell 1; have v2 := HV.out.cell 2; have v3 := HV.out.cell 3; have v4 := HV.out.cell 4; have v5 := HV.out.cell 5; have v6 := HV.out.cell 6; have v7 := HV.out.cell 7
          simp only [List.getElem?_toArray, List.getElem?_cons_zero, List.getElem?_cons_succ] at v0 v1 v2 v3 v4 v5 v6 v7
          go_wp2_with fail
          with_reducible refine (HH6.out _ (HRL.out.keep H3.out.hb)).mono ?_
          rintro r6 w6 ⟨rfl, hb⟩
          clear p0 p1 q0 q1 q2 z0 z1 z2 z3 z4 z5 z6 z7 g0 g1 g2 g3 g4 g5 g6 g7
          clear v0 v1 v2 v3 v4 v5 v6 v7
          have H3b := Lib.hid (H3.out.keep hb)
          clear H3
          have H3 := H3b
          clear H3b
          have HVb := Lib.hid (HV.out.below hb HV.out.lt)
          clear HV
          have HV := HVb
          clear HVb
          clear hb HH6
          have p0 := H3.out.hp.cell 0; have p1 := H3.out.hp.cell 1
          have q0 := H3.out.hr.cell 0; have q1 := H3.out.hr.cell 1; have q2 := H3.out.hr.cell 2
          have z0 := H3.out.ha.cell 0; have z1 := H3.out.ha.cell 1; have z2 := H3.out.ha.cell 2; have z3 := H3.out.ha.cell 3; have z4 := H3.out.ha.cell 4; have z5 := H3.out.ha.cell 5; have z6 := H3.out.ha.cell 6; have z7 := H3.out.ha.cell 7
          have g0 := H3.out.ha.free 0; have g1 := H3.out.ha.free 1; have g2 := H3.out.ha.free 2; have g3 := H3.out.ha.free 3; have g4 := H3.out.ha.free 4; have g5 := H3.out.ha.free 5; have g6 := H3.out.ha.free 6; have g7 := H3.out.ha.free 7
          simp only [List.getElem?_toArray, List.getElem?_cons_zero, List.getElem?_cons_succ] at p0 p1 q0 q1 q2 z0 z1 z2 z3 z4 z5 z6 z7
          have v0 := HV.out.cell 0; have v1 := HV.out.cell 1; have v2 := HV.out.cell 2; have v3 := HV.out.cell 3; have v4 := HV.out.cell 4; have v5 := HV.out.cell 5; have v6 := HV.out.cell 6; have v7 := HV.out.cell 7
          simp only [List.getElem?_toArray, List.getElem?_cons_zero, List.getElem?_cons_succ] at v0 v1 v2 v3 v4 v5 v6 v7
          have HBX := Lib.hid H3.out.hb
          go_wp2
          ((try simp only [Exit.inBlock, Exit.then]); refine bodyPost_ret (v := (.agg #[.int .i64 7, .int .i64 j, .int .i64 0, .int .i64 0, .int .i64 0, .int .i64 n, .string ⟨#[]⟩, .int .i64 0])) ?_ rfl ⟨?_, ?_⟩; (rw [results_cell1 rfl]; go_simp))
          · rfl
          · repeat (first | (with_reducible exact HBX.out) | refine below_set ?_ _ _ (by omega) _)
end Go.Proofs.YtajalllecoclcaaDoor
