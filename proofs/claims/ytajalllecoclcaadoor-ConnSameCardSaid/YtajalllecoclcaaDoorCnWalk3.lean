/- What a frame comes to: login, Step. -/
import Derived.Test.YtajalllecoclcaaDoorCnWalk2
import Derived.Test.YtajalllecoclcaaDoorPrRead
import Derived.Test.YtajalllecoclcaaDoorTnWalk2
namespace Go.Proofs.YtajalllecoclcaaDoor
open Go.RowKit
set_option linter.unusedVariables false
set_option linter.unusedSimpArgs false

theorem rd_tok (f : Fr.Frm) (r : Pr.Rq) (h : Pr.rd f = some r) : r.tok.size ≤ 65536 ∧ I64 r.j := by
  have hw : Pr.whole f = true := by
    cases hw : Pr.whole f with
    | true => rfl
    | false => rw [rd_w f hw] at h; cases h
  have hw2 : 0 ≤ f.j ∧ f.j ≤ 4294967295 ∧ f.d.size ≤ 65536 := of_decide_eq_true hw
  have hj := (Pr.rd_data f r h).2.1
  refine ⟨?_, ?_⟩
  · unfold Pr.rd at h
    repeat' split at h
    all_goals (first | (cases h; done) | (cases h; exact hw2.2.2) | (cases h; exact Nat.zero_le _))
  · rw [hj]
    unfold I64
    simp [Lit.wf, IntKind.min, IntKind.max, IntKind.signed, IntKind.bits]
    omega
theorem ConnAt.login {w : World} {b m : Nat} {a : Option Addr} {cap : Nat} {l : List Tn.Ten} {L : List Cn.Act} (h : ConnAt w b m a cap l L) (x : Cn.Act) (h2 : x.what = 2) (h0 : Cn.tenant L = -1) (hg : Cn.Good (L ++ [x])) :
    ConnAt (w.setCell ⟨b, 1, none⟩ (.int .i64 x.ten)) b m a cap l (L ++ [x]) := by
  have hn : Cn.noLogin L := by
    rcases h.good.ten with ⟨_, k⟩ | k
    · exact k
    · omega
  have k : Chg [b] w (w.setCell ⟨b, 1, none⟩ (.int .i64 x.ten)) := (Chg.refl [b] w).setCell _ _ (.inl (by simp))
  refine ⟨?_, h.row.chg k (fun y hy => by simpa using (h.apart y hy).1), (h.map.chg k (by simpa using h.two.symm)).same (fun j => Cn.mark_still _ _ _ (.inr ⟨by omega, by omega, by omega⟩)) (fun j => Cn.had_no _ _ _ _ (.inl (by omega))) (by rw [Cn.opened_app, if_neg (by omega)]; rfl), fun y hy => ⟨(h.apart y hy).1, (h.apart y hy).2.1, Nat.lt_of_lt_of_le (h.apart y hy).2.2 k.size⟩, h.two, hg⟩
  have hc := h.cells.setCell 1 (.int .i64 x.ten)
  rw [Cn.tenant_login _ _ hn h2]
  simpa using hc
theorem login_no (l : List Tn.Ten) (f : Fr.Frm) (h : Pr.rd f = none) : Cn.login l f = Cn.refuse f.j 30 := by unfold Cn.login; rw [h]
theorem login_t (l : List Tn.Ten) (f : Fr.Frm) (r : Pr.Rq) (h : Pr.rd f = some r) (ht : ¬ r.t = 1) : Cn.login l f = Cn.refuse f.j 30 := by
  unfold Cn.login; rw [h]; exact if_neg fun hh => ht hh.1
theorem login_f (l : List Tn.Ten) (f : Fr.Frm) (r : Pr.Rq) (h : Pr.rd f = some r) (hf : Tn.find l r.tok = -1) : Cn.login l f = Cn.refuse f.j 30 := by
  unfold Cn.login; rw [h]; exact if_neg fun hh => hh.2 hf
theorem login_y (l : List Tn.Ten) (f : Fr.Frm) (r : Pr.Rq) (h : Pr.rd f = some r) (ht : r.t = 1) (hf : ¬ Tn.find l r.tok = -1) : Cn.login l f = ⟨2, 0, Tn.find l r.tok, 0, 0, 0, Pr.e0, 0⟩ := by
  unfold Cn.login; rw [h]; exact if_pos ⟨ht, hf⟩
set_option maxRecDepth 100000 in
set_option maxHeartbeats 1600000 in
theorem login_walk (b m : Nat) (a : Option Addr) (cap : Nat) (l : List Tn.Ten) (L : List Cn.Act) (t j : Int) (d : ByteArray) (w : World) (h : ConnAt w b m a cap l L) (h0 : Cn.tenant L = -1) (hl : l.length ≤ 1000) (hz : tnSmall l) (hT : Tabs w) :
    Calls Tryd.prog 27 #[.pointer (some ⟨b, 0, none⟩), .agg #[.int .i64 t, .int .i64 j, .string d]] w fun e w' => e = .returned (actV (Cn.login l ⟨t, j, d⟩)) ∧ Stepped w w' b m a cap l L (Cn.login l ⟨t, j, d⟩) := by
  have HC0 := Lib.hid h
  have HLOW := Lib.hid h.low
  have HT0 := Lib.hid hT
  have HGO := Lib.hid (h.good.login l ⟨t, j, d⟩ h0)
  have H0 := Lib.hid h0
  have HRD := Lib.hid (fun w hT => pread_walk t j d w hT)
  have LN := login_no l ⟨t, j, d⟩; have LT := login_t l ⟨t, j, d⟩; have LF := login_f l ⟨t, j, d⟩; have LY := login_y l ⟨t, j, d⟩
  have TOK := rd_tok ⟨t, j, d⟩
  generalize Cn.login l ⟨t, j, d⟩ = X at *
  clear h h0 hT
  cases hr : Pr.rd ⟨t, j, d⟩ with
  | none =>
    rw [LN hr]
    rw [hr] at HRD
    simp only [readV] at HRD
    clear LN LT LF LY TOK hr HGO H0
    go_enter Tryd.func27, Tryd.ntmps27
    go_upto_region 1 with (fail)
    have HU := Lib.hid (U2.new w [b, m] #[.int .i64 t, .int .i64 j, .string d] #[.int .i64 0, .int .i64 0, .int .i64 0, .int .i64 0, .int .i64 0, .int .i64 0, .string ⟨#[]⟩, .int .i64 0] 42 38)
    have HC := Lib.hid (HC0.out.keep (two_below w (.cells #[.int .i64 t, .int .i64 j, .string d] 42) (.cells #[.int .i64 0, .int .i64 0, .int .i64 0, .int .i64 0, .int .i64 0, .int .i64 0, .string ⟨#[]⟩, .int .i64 0] 38)))
    have HT := Lib.hid (HT0.out.keep (two_below w (.cells #[.int .i64 t, .int .i64 j, .string d] 42) (.cells #[.int .i64 0, .int .i64 0, .int .i64 0, .int .i64 0, .int .i64 0, .int .i64 0, .string ⟨#[]⟩, .int .i64 0] 38)))
    clear HC0 HT0
    generalize (w.alloc (.cells #[.int .i64 t, .int .i64 j, .string d] 42)).alloc (.cells #[.int .i64 0, .int .i64 0, .int .i64 0, .int .i64 0, .int .i64 0, .int .i64 0, .string ⟨#[]⟩, .int .i64 0] 38) = w1 at *
    have x0 := HU.out.hp.cell 0; have x1 := HU.out.hp.cell 1; have x2 := HU.out.hp.cell 2
    simp only [List.getElem?_toArray, List.getElem?_cons_zero, List.getElem?_cons_succ] at x0 x1 x2
    go_wp2_with fail
    with_reducible refine (HRD.out _ HT.out).mono ?_
    rintro r2 w2 ⟨rfl, hb⟩
    have HU2 := Lib.hid (HU.out.keep hb)
    have HC2 := Lib.hid (HC.out.keep hb)
    clear HU HC hb HRD HT
    clear x0 x1 x2
    go_upto_region 2 with (fail)
    have HU := Lib.hid (HU2.out.keep ((Below.refl _ w2).alloc (Nat.le_refl _) (.cells #[.int .i64 0, .int .i64 0, .string ⟨#[]⟩, .string ⟨#[]⟩, .int .i64 0, .int .i64 0, .int .i64 0] 70)))
    have HC := Lib.hid (HC2.out.keep ((Below.refl _ w2).alloc (Nat.le_refl _) (.cells #[.int .i64 0, .int .i64 0, .string ⟨#[]⟩, .string ⟨#[]⟩, .int .i64 0, .int .i64 0, .int .i64 0] 70)))
    have HV := Lib.hid (Has.new w2 #[.int .i64 0, .int .i64 0, .string ⟨#[]⟩, .string ⟨#[]⟩, .int .i64 0, .int .i64 0, .int .i64 0] 70)
    clear HU2 HC2
    generalize w2.alloc (.cells #[.int .i64 0, .int .i64 0, .string ⟨#[]⟩, .string ⟨#[]⟩, .int .i64 0, .int .i64 0, .int .i64 0] 70) = w3 at *
    generalize w2.heap.size = p at *
    have x0 := HU.out.hp.cell 0; have x1 := HU.out.hp.cell 1; have x2 := HU.out.hp.cell 2
    simp only [List.getElem?_toArray, List.getElem?_cons_zero, List.getElem?_cons_succ] at x0 x1 x2
    have v0 := HV.out.cell 0; have v1 := HV.out.cell 1; have v2 := HV.out.cell 2; have v3 := HV.out.cell 3; have v4 := HV.out.cell 4; have v5 := HV.out.cell 5; have v6 := HV.out.cell 6
    simp only [List.getElem?_toArray, List.getElem?_cons_zero, List.getElem?_cons_succ] at v0 v1 v2 v3 v4 v5 v6
    go_wp2_with fail
    clear x0 x1 x2
    clear v0 v1 v2 v3 v4 v5 v6
    with_reducible refine (refuse_wide _ _ _).mono ?_
    rintro r4 w4 ⟨rfl, hb⟩
    have HU3 := Lib.hid (HU.out.keep hb)
    have HC3 := Lib.hid ((HC.out.keep hb).refuse j 30)
    clear HU HC hb
    have HU := HU3
    have HC := HC3
    clear HU3 HC3
    have z0 := HU.out.hr.cell 0; have z1 := HU.out.hr.cell 1; have z2 := HU.out.hr.cell 2; have z3 := HU.out.hr.cell 3; have z4 := HU.out.hr.cell 4; have z5 := HU.out.hr.cell 5; have z6 := HU.out.hr.cell 6; have z7 := HU.out.hr.cell 7
    have g0 := HU.out.hr.free 0; have g1 := HU.out.hr.free 1; have g2 := HU.out.hr.free 2; have g3 := HU.out.hr.free 3; have g4 := HU.out.hr.free 4; have g5 := HU.out.hr.free 5; have g6 := HU.out.hr.free 6; have g7 := HU.out.hr.free 7
    simp only [List.getElem?_toArray, List.getElem?_cons_zero, List.getElem?_cons_succ] at z0 z1 z2 z3 z4 z5 z6 z7
    go_wp2
    ((try simp only [Exit.inBlock, Exit.then]); refine bodyPost_ret (v := (.agg #[.int .i64 1, .int .i64 j, .int .i64 0, .int .i64 0, .int .i64 0, .int .i64 0, .string ⟨#[]⟩, .int .i64 30])) ?_ rfl ⟨?_, ?_⟩; (rw [results_cell1 rfl]; go_simp))
    · rfl
    · refine fin_step HC.out HLOW.out HU.out.hc ?_
      (repeat (first | (with_reducible exact (Below.refl _ _)) | refine Below.setCell ?_ (by first | exact Nat.le_refl _ | exact Nat.le_succ _) _))
  | some r =>
    rw [hr] at HRD
    simp only [readV] at HRD
    have htok := (TOK r hr).1
    by_cases t1 : r.t = 1
    · have HFI := Lib.hid (fun w hrow => find_walk l r.tok a l.length cap w rfl hrow hl hz (by omega))
      have hfb := Tn.findL_bd r.tok l 0
      change Tn.find l r.tok = -1 ∨ 0 ≤ Tn.find l r.tok at hfb
      have t1' : (r.t != 1) = false := by simpa using t1
      by_cases hf : Tn.find l r.tok = -1
      · rw [LF r hr hf]
        rw [hf, findV_no] at HFI
        clear LN LT LF LY TOK hr HGO H0 hf hfb htok t1
        go_enter Tryd.func27, Tryd.ntmps27
        go_upto_region 1 with (fail)
        have HU := Lib.hid (U2.new w [b, m] #[.int .i64 t, .int .i64 j, .string d] #[.int .i64 0, .int .i64 0, .int .i64 0, .int .i64 0, .int .i64 0, .int .i64 0, .string ⟨#[]⟩, .int .i64 0] 42 38)
        have HC := Lib.hid (HC0.out.keep (two_below w (.cells #[.int .i64 t, .int .i64 j, .string d] 42) (.cells #[.int .i64 0, .int .i64 0, .int .i64 0, .int .i64 0, .int .i64 0, .int .i64 0, .string ⟨#[]⟩, .int .i64 0] 38)))
        have HT := Lib.hid (HT0.out.keep (two_below w (.cells #[.int .i64 t, .int .i64 j, .string d] 42) (.cells #[.int .i64 0, .int .i64 0, .int .i64 0, .int .i64 0, .int .i64 0, .int .i64 0, .string ⟨#[]⟩, .int .i64 0] 38)))
        clear HC0 HT0
        generalize (w.alloc (.cells #[.int .i64 t, .int .i64 j, .string d] 42)).alloc (.cells #[.int .i64 0, .int .i64 0, .int .i64 0, .int .i64 0, .int .i64 0, .int .i64 0, .string ⟨#[]⟩, .int .i64 0] 38) = w1 at *
        have x0 := HU.out.hp.cell 0; have x1 := HU.out.hp.cell 1; have x2 := HU.out.hp.cell 2
        simp only [List.getElem?_toArray, List.getElem?_cons_zero, List.getElem?_cons_succ] at x0 x1 x2
        go_wp2_with fail
        with_reducible refine (HRD.out _ HT.out).mono ?_
        rintro r2 w2 ⟨rfl, hb⟩
        have HU2 := Lib.hid (HU.out.keep hb)
        have HC2 := Lib.hid (HC.out.keep hb)
        clear HU HC hb HRD HT
        clear x0 x1 x2
        go_upto_region 2 with (fail)
        have HU := Lib.hid (HU2.out.keep ((Below.refl _ w2).alloc (Nat.le_refl _) (.cells #[.int .i64 r.t, .int .i64 r.j, .string r.tok, .string r.txt, .int .i64 r.k, .int .i64 r.lv, .int .i64 r.n] 70)))
        have HC := Lib.hid (HC2.out.keep ((Below.refl _ w2).alloc (Nat.le_refl _) (.cells #[.int .i64 r.t, .int .i64 r.j, .string r.tok, .string r.txt, .int .i64 r.k, .int .i64 r.lv, .int .i64 r.n] 70)))
        have HV := Lib.hid (Has.new w2 #[.int .i64 r.t, .int .i64 r.j, .string r.tok, .string r.txt, .int .i64 r.k, .int .i64 r.lv, .int .i64 r.n] 70)
        clear HU2 HC2
        generalize w2.alloc (.cells #[.int .i64 r.t, .int .i64 r.j, .string r.tok, .string r.txt, .int .i64 r.k, .int .i64 r.lv, .int .i64 r.n] 70) = w3 at *
        generalize w2.heap.size = p at *
        have x0 := HU.out.hp.cell 0; have x1 := HU.out.hp.cell 1; have x2 := HU.out.hp.cell 2
        simp only [List.getElem?_toArray, List.getElem?_cons_zero, List.getElem?_cons_succ] at x0 x1 x2
        have v0 := HV.out.cell 0; have v1 := HV.out.cell 1; have v2 := HV.out.cell 2; have v3 := HV.out.cell 3; have v4 := HV.out.cell 4; have v5 := HV.out.cell 5; have v6 := HV.out.cell 6
        simp only [List.getElem?_toArray, List.getElem?_cons_zero, List.getElem?_cons_succ] at v0 v1 v2 v3 v4 v5 v6
        have HV0 := HV
        go_upto_region 4 with (fail)
        clear v0 v1 v2 v3 v4 v5 v6
        clear x0 x1 x2
        have c0 : ∀ y : Later w3, y.at.cell? ⟨b, 0, none⟩ = some (.slice a l.length cap) := fun y => y.cell (HC.out.cells.cell 0)
        have v2 : ∀ y : Later w3, y.at.cell? ⟨p, 2, none⟩ = some (.string r.tok) := fun y => y.cell (HV.out.cell 2)
        have HA := Lib.hid (fun y : Later w3 => later_call (x := y) (HFI.out y.at (HC.out.row.keep y.below)))
        refine region_later 12 (by kernel_rfl) (by kernel_rfl) ?_
        simp only [List.take_succ_cons, List.take_zero, List.drop_succ_cons, List.drop_zero]
        repeat (go_big_quiet_step ((with_reducible exact HA.out _)))
        refine wpQuiet_nil ?_
        rintro w' ⟨x, rfl⟩
        have HU2 := Lib.hid (HU.out.keep x.below)
        have HC2 := Lib.hid (HC.out.keep x.below)
        clear HU HC HV HV0 HA HFI c0 v2
        have HU := HU2
        have HC := HC2
        clear HU2 HC2
        generalize x.at = w5 at *
        have x0 := HU.out.hp.cell 0; have x1 := HU.out.hp.cell 1; have x2 := HU.out.hp.cell 2
        simp only [List.getElem?_toArray, List.getElem?_cons_zero, List.getElem?_cons_succ] at x0 x1 x2
        go_wp2_with fail
        clear x0 x1 x2
        with_reducible refine (refuse_wide _ _ _).mono ?_
        rintro r4 w4 ⟨rfl, hb⟩
        have HU3 := Lib.hid (HU.out.keep hb)
        have HC3 := Lib.hid ((HC.out.keep hb).refuse j 30)
        clear HU HC hb
        have HU := HU3
        have HC := HC3
        clear HU3 HC3
        have z0 := HU.out.hr.cell 0; have z1 := HU.out.hr.cell 1; have z2 := HU.out.hr.cell 2; have z3 := HU.out.hr.cell 3; have z4 := HU.out.hr.cell 4; have z5 := HU.out.hr.cell 5; have z6 := HU.out.hr.cell 6; have z7 := HU.out.hr.cell 7
        have g0 := HU.out.hr.free 0; have g1 := HU.out.hr.free 1; have g2 := HU.out.hr.free 2; have g3 := HU.out.hr.free 3; have g4 := HU.out.hr.free 4; have g5 := HU.out.hr.free 5; have g6 := HU.out.hr.free 6; have g7 := HU.out.hr.free 7
        simp only [List.getElem?_toArray, List.getElem?_cons_zero, List.getElem?_cons_succ] at z0 z1 z2 z3 z4 z5 z6 z7
        go_wp2
        ((try simp only [Exit.inBlock, Exit.then]); refine bodyPost_ret (v := (.agg #[.int .i64 1, .int .i64 j, .int .i64 0, .int .i64 0, .int .i64 0, .int .i64 0, .string ⟨#[]⟩, .int .i64 30])) ?_ rfl ⟨?_, ?_⟩; (rw [results_cell1 rfl]; go_simp))
        · rfl
        · refine fin_step HC.out HLOW.out HU.out.hc ?_
          (repeat (first | (with_reducible exact (Below.refl _ _)) | refine Below.setCell ?_ (by first | exact Nat.le_refl _ | exact Nat.le_succ _) _))
      · have ly := LY r hr t1 hf
        rw [ly] at HGO ⊢
        rw [findV_yes _ hf] at HFI
        generalize Tn.find l r.tok = R at *
        clear LN LT LF LY TOK hr hf hfb htok t1 ly
        go_enter Tryd.func27, Tryd.ntmps27
        go_upto_region 1 with (fail)
        have HU := Lib.hid (U2.new w [b, m] #[.int .i64 t, .int .i64 j, .string d] #[.int .i64 0, .int .i64 0, .int .i64 0, .int .i64 0, .int .i64 0, .int .i64 0, .string ⟨#[]⟩, .int .i64 0] 42 38)
        have HC := Lib.hid (HC0.out.keep (two_below w (.cells #[.int .i64 t, .int .i64 j, .string d] 42) (.cells #[.int .i64 0, .int .i64 0, .int .i64 0, .int .i64 0, .int .i64 0, .int .i64 0, .string ⟨#[]⟩, .int .i64 0] 38)))
        have HT := Lib.hid (HT0.out.keep (two_below w (.cells #[.int .i64 t, .int .i64 j, .string d] 42) (.cells #[.int .i64 0, .int .i64 0, .int .i64 0, .int .i64 0, .int .i64 0, .int .i64 0, .string ⟨#[]⟩, .int .i64 0] 38)))
        clear HC0 HT0
        generalize (w.alloc (.cells #[.int .i64 t, .int .i64 j, .string d] 42)).alloc (.cells #[.int .i64 0, .int .i64 0, .int .i64 0, .int .i64 0, .int .i64 0, .int .i64 0, .string ⟨#[]⟩, .int .i64 0] 38) = w1 at *
        have x0 := HU.out.hp.cell 0; have x1 := HU.out.hp.cell 1; have x2 := HU.out.hp.cell 2
        simp only [List.getElem?_toArray, List.getElem?_cons_zero, List.getElem?_cons_succ] at x0 x1 x2
        go_wp2_with fail
        with_reducible refine (HRD.out _ HT.out).mono ?_
        rintro r2 w2 ⟨rfl, hb⟩
        have HU2 := Lib.hid (HU.out.keep hb)
        have HC2 := Lib.hid (HC.out.keep hb)
        clear HU HC hb HRD HT
        clear x0 x1 x2
        go_upto_region 2 with (fail)
        have HU := Lib.hid (HU2.out.keep ((Below.refl _ w2).alloc (Nat.le_refl _) (.cells #[.int .i64 r.t, .int .i64 r.j, .string r.tok, .string r.txt, .int .i64 r.k, .int .i64 r.lv, .int .i64 r.n] 70)))
        have HC := Lib.hid (HC2.out.keep ((Below.refl _ w2).alloc (Nat.le_refl _) (.cells #[.int .i64 r.t, .int .i64 r.j, .string r.tok, .string r.txt, .int .i64 r.k, .int .i64 r.lv, .int .i64 r.n] 70)))
        have HV := Lib.hid (Has.new w2 #[.int .i64 r.t, .int .i64 r.j, .string r.tok, .string r.txt, .int .i64 r.k, .int .i64 r.lv, .int .i64 r.n] 70)
        clear HU2 HC2
        generalize w2.alloc (.cells #[.int .i64 r.t, .int .i64 r.j, .string r.tok, .string r.txt, .int .i64 r.k, .int .i64 r.lv, .int .i64 r.n] 70) = w3 at *
        generalize w2.heap.size = p at *
        have x0 := HU.out.hp.cell 0; have x1 := HU.out.hp.cell 1; have x2 := HU.out.hp.cell 2
        simp only [List.getElem?_toArray, List.getElem?_cons_zero, List.getElem?_cons_succ] at x0 x1 x2
        have v0 := HV.out.cell 0; have v1 := HV.out.cell 1; have v2 := HV.out.cell 2; have v3 := HV.out.cell 3; have v4 := HV.out.cell 4; have v5 := HV.out.cell 5; have v6 := HV.out.cell 6
        simp only [List.getElem?_toArray, List.getElem?_cons_zero, List.getElem?_cons_succ] at v0 v1 v2 v3 v4 v5 v6
        have HV0 := HV
        go_upto_region 4 with (fail)
        clear v0 v1 v2 v3 v4 v5 v6
        clear x0 x1 x2
        have c0 : ∀ y : Later w3, y.at.cell? ⟨b, 0, none⟩ = some (.slice a l.length cap) := fun y => y.cell (HC.out.cells.cell 0)
        have v2 : ∀ y : Later w3, y.at.cell? ⟨p, 2, none⟩ = some (.string r.tok) := fun y => y.cell (HV.out.cell 2)
        have HA := Lib.hid (fun y : Later w3 => later_call (x := y) (HFI.out y.at (HC.out.row.keep y.below)))
        refine region_later 12 (by kernel_rfl) (by kernel_rfl) ?_
        simp only [List.take_succ_cons, List.take_zero, List.drop_succ_cons, List.drop_zero]
        repeat (go_big_quiet_step ((with_reducible exact HA.out _)))
        refine wpQuiet_nil ?_
        rintro w' ⟨x, rfl⟩
        have HU2 := Lib.hid (HU.out.keep x.below)
        have HC2 := Lib.hid (HC.out.keep x.below)
        clear HU HC HV HV0 HA HFI c0 v2
        have HU := HU2
        have HC := HC2
        clear HU2 HC2
        generalize x.at = w5 at *
        have x0 := HU.out.hp.cell 0; have x1 := HU.out.hp.cell 1; have x2 := HU.out.hp.cell 2
        simp only [List.getElem?_toArray, List.getElem?_cons_zero, List.getElem?_cons_succ] at x0 x1 x2
        have c1 := HC.out.cells.cell 1
        have d1 := HC.out.cells.free 1
        simp only [List.getElem?_toArray, List.getElem?_cons_zero, List.getElem?_cons_succ] at c1
        go_upto_region 8 with (fail)
        clear x0 x1 x2
        clear c1 d1
        have HU2 := Lib.hid (HU.out.chg ((Chg.refl [b, m] w5).setCell ⟨b, 1, none⟩ (.int .i64 R) (.inl (by simp))) (low_in HLOW.out))
        have HC2 := Lib.hid (HC.out.login ⟨2, 0, R, 0, 0, 0, Pr.e0, 0⟩ rfl H0.out HGO.out)
        simp only at HC2
        clear HU HC
        have HU := HU2
        have HC := HC2
        clear HU2 HC2
        generalize w5.setCell ⟨b, 1, none⟩ (.int .i64 R) = w6 at *
        have z0 := HU.out.hr.cell 0; have z1 := HU.out.hr.cell 1; have z2 := HU.out.hr.cell 2; have z3 := HU.out.hr.cell 3; have z4 := HU.out.hr.cell 4; have z5 := HU.out.hr.cell 5; have z6 := HU.out.hr.cell 6; have z7 := HU.out.hr.cell 7
        have g0 := HU.out.hr.free 0; have g1 := HU.out.hr.free 1; have g2 := HU.out.hr.free 2; have g3 := HU.out.hr.free 3; have g4 := HU.out.hr.free 4; have g5 := HU.out.hr.free 5; have g6 := HU.out.hr.free 6; have g7 := HU.out.hr.free 7
        simp only [List.getElem?_toArray, List.getElem?_cons_zero, List.getElem?_cons_succ] at z0 z1 z2 z3 z4 z5 z6 z7
        go_wp2
        ((try simp only [Exit.inBlock, Exit.then]); refine bodyPost_ret (v := (.agg #[.int .i64 2, .int .i64 0, .int .i64 R, .int .i64 0, .int .i64 0, .int .i64 0, .string ⟨#[]⟩, .int .i64 0])) ?_ rfl ⟨?_, ?_⟩; (rw [results_cell1 rfl]; go_simp))
        · rfl
        · refine fin_step HC.out HLOW.out HU.out.hc ?_
          (repeat (first | (with_reducible exact (Below.refl _ _)) | refine Below.setCell ?_ (by first | exact Nat.le_refl _ | exact Nat.le_succ _) _))
    · rw [LT r hr t1]
      have t1' : (r.t != 1) = true := by simpa using t1
      clear LN LT LF LY TOK hr HGO H0 htok t1
      go_enter Tryd.func27, Tryd.ntmps27
      go_upto_region 1 with (fail)
      have HU := Lib.hid (U2.new w [b, m] #[.int .i64 t, .int .i64 j, .string d] #[.int .i64 0, .int .i64 0, .int .i64 0, .int .i64 0, .int .i64 0, .int .i64 0, .string ⟨#[]⟩, .int .i64 0] 42 38)
      have HC := Lib.hid (HC0.out.keep (two_below w (.cells #[.int .i64 t, .int .i64 j, .string d] 42) (.cells #[.int .i64 0, .int .i64 0, .int .i64 0, .int .i64 0, .int .i64 0, .int .i64 0, .string ⟨#[]⟩, .int .i64 0] 38)))
      have HT := Lib.hid (HT0.out.keep (two_below w (.cells #[.int .i64 t, .int .i64 j, .string d] 42) (.cells #[.int .i64 0, .int .i64 0, .int .i64 0, .int .i64 0, .int .i64 0, .int .i64 0, .string ⟨#[]⟩, .int .i64 0] 38)))
      clear HC0 HT0
      generalize (w.alloc (.cells #[.int .i64 t, .int .i64 j, .string d] 42)).alloc (.cells #[.int .i64 0, .int .i64 0, .int .i64 0, .int .i64 0, .int .i64 0, .int .i64 0, .string ⟨#[]⟩, .int .i64 0] 38) = w1 at *
      have x0 := HU.out.hp.cell 0; have x1 := HU.out.hp.cell 1; have x2 := HU.out.hp.cell 2
      simp only [List.getElem?_toArray, List.getElem?_cons_zero, List.getElem?_cons_succ] at x0 x1 x2
      go_wp2_with fail
      with_reducible refine (HRD.out _ HT.out).mono ?_
      rintro r2 w2 ⟨rfl, hb⟩
      have HU2 := Lib.hid (HU.out.keep hb)
      have HC2 := Lib.hid (HC.out.keep hb)
      clear HU HC hb HRD HT
      clear x0 x1 x2
      go_upto_region 2 with (fail)
      have HU := Lib.hid (HU2.out.keep ((Below.refl _ w2).alloc (Nat.le_refl _) (.cells #[.int .i64 r.t, .int .i64 r.j, .string r.tok, .string r.txt, .int .i64 r.k, .int .i64 r.lv, .int .i64 r.n] 70)))
      have HC := Lib.hid (HC2.out.keep ((Below.refl _ w2).alloc (Nat.le_refl _) (.cells #[.int .i64 r.t, .int .i64 r.j, .string r.tok, .string r.txt, .int .i64 r.k, .int .i64 r.lv, .int .i64 r.n] 70)))
      have HV := Lib.hid (Has.new w2 #[.int .i64 r.t, .int .i64 r.j, .string r.tok, .string r.txt, .int .i64 r.k, .int .i64 r.lv, .int .i64 r.n] 70)
      clear HU2 HC2
      generalize w2.alloc (.cells #[.int .i64 r.t, .int .i64 r.j, .string r.tok, .string r.txt, .int .i64 r.k, .int .i64 r.lv, .int .i64 r.n] 70) = w3 at *
      generalize w2.heap.size = p at *
      have x0 := HU.out.hp.cell 0; have x1 := HU.out.hp.cell 1; have x2 := HU.out.hp.cell 2
      simp only [List.getElem?_toArray, List.getElem?_cons_zero, List.getElem?_cons_succ] at x0 x1 x2
      have v0 := HV.out.cell 0; have v1 := HV.out.cell 1; have v2 := HV.out.cell 2; have v3 := HV.out.cell 3; have v4 := HV.out.cell 4; have v5 := HV.out.cell 5; have v6 := HV.out.cell 6
      simp only [List.getElem?_toArray, List.getElem?_cons_zero, List.getElem?_cons_succ] at v0 v1 v2 v3 v4 v5 v6
      go_wp2_with fail
      clear x0 x1 x2
      clear v0 v1 v2 v3 v4 v5 v6
      with_reducible refine (refuse_wide _ _ _).mono ?_
      rintro r4 w4 ⟨rfl, hb⟩
      have HU3 := Lib.hid (HU.out.keep hb)
      have HC3 := Lib.hid ((HC.out.keep hb).refuse j 30)
      clear HU HC hb
      have HU := HU3
      have HC := HC3
      clear HU3 HC3
      have z0 := HU.out.hr.cell 0; have z1 := HU.out.hr.cell 1; have z2 := HU.out.hr.cell 2; have z3 := HU.out.hr.cell 3; have z4 := HU.out.hr.cell 4; have z5 := HU.out.hr.cell 5; have z6 := HU.out.hr.cell 6; have z7 := HU.out.hr.cell 7
      have g0 := HU.out.hr.free 0; have g1 := HU.out.hr.free 1; have g2 := HU.out.hr.free 2; have g3 := HU.out.hr.free 3; have g4 := HU.out.hr.free 4; have g5 := HU.out.hr.free 5; have g6 := HU.out.hr.free 6; have g7 := HU.out.hr.free 7
      simp only [List.getElem?_toArray, List.getElem?_cons_zero, List.getElem?_cons_succ] at z0 z1 z2 z3 z4 z5 z6 z7
      go_wp2
      ((try simp only [Exit.inBlock, Exit.then]); refine bodyPost_ret (v := (.agg #[.int .i64 1, .int .i64 j, .int .i64 0, .int .i64 0, .int .i64 0, .int .i64 0, .string ⟨#[]⟩, .int .i64 30])) ?_ rfl ⟨?_, ?_⟩; (rw [results_cell1 rfl]; go_simp))
      · rfl
      · refine fin_step HC.out HLOW.out HU.out.hc ?_
        (repeat (first | (with_reducible exact (Below.refl _ _)) | refine Below.setCell ?_ (by first | exact Nat.le_refl _ | exact Nat.le_succ _) _))
theorem step_0 (l : List Tn.Ten) (L : List Cn.Act) (f : Fr.Frm) (h : Cn.tenant L = -1) : Cn.step l L f = Cn.login l f := by unfold Cn.step; rw [if_pos h]
theorem step_no (l : List Tn.Ten) (L : List Cn.Act) (f : Fr.Frm) (h : ¬ Cn.tenant L = -1) (hr : Pr.rd f = none) : Cn.step l L f = Cn.refuse f.j 35 := by unfold Cn.step; rw [if_neg h, hr]
theorem step_r (l : List Tn.Ten) (L : List Cn.Act) (f : Fr.Frm) (r : Pr.Rq) (h : ¬ Cn.tenant L = -1) (hr : Pr.rd f = some r) : Cn.step l L f = Cn.act L r := by unfold Cn.step; rw [if_neg h, hr]
set_option maxRecDepth 100000 in
set_option maxHeartbeats 1600000 in
theorem step_walk (b m : Nat) (a : Option Addr) (cap : Nat) (l : List Tn.Ten) (L : List Cn.Act) (t j : Int) (d : ByteArray) (w : World) (h : ConnAt w b m a cap l L) (hl : l.length ≤ 1000) (hz : tnSmall l) (hT : Tabs w) :
    Calls Tryd.prog 13 #[.pointer (some ⟨b, 0, none⟩), .agg #[.int .i64 t, .int .i64 j, .string d]] w fun e w' => e = .returned (.tuple #[actV (Cn.step l L ⟨t, j, d⟩), .int .i64 0]) ∧ Stepped w w' b m a cap l L (Cn.step l L ⟨t, j, d⟩) := by
  have HC0 := Lib.hid h
  have HLOW := Lib.hid h.low
  have HT0 := Lib.hid hT
  have HRD := Lib.hid (fun w hT => pread_walk t j d w hT)
  have S0 := step_0 l L ⟨t, j, d⟩; have SN := step_no l L ⟨t, j, d⟩; have SR := step_r l L ⟨t, j, d⟩
  have HLI := fun h0 => Lib.hid (fun (w : World) (h : ConnAt w b m a cap l L) hT => Calls.act (login_walk b m a cap l L t j d w h h0 hl hz hT))
  have HAC := fun r hj h0 => Lib.hid (fun (w : World) (h : ConnAt w b m a cap l L) (_ : True) => Calls.act (act_walk b m a cap l L r w h hj h0))
  have TOK := rd_tok ⟨t, j, d⟩
  generalize Cn.step l L ⟨t, j, d⟩ = X at *
  clear h hT
  by_cases h0 : Cn.tenant L = -1
  · have HSUB := HLI h0
    rw [← S0 h0] at HSUB
    have H0 := Lib.hid h0
    clear S0 SN SR HLI HAC TOK HRD h0
    go_enter Tryd.func13, Tryd.ntmps13
    go_upto_region 1 with (fail)
    have HU := Lib.hid (U2.new w [b, m] #[.int .i64 t, .int .i64 j, .string d] #[.int .i64 0, .int .i64 0, .int .i64 0, .int .i64 0, .int .i64 0, .int .i64 0, .string ⟨#[]⟩, .int .i64 0] 42 38)
    have HC := Lib.hid (HC0.out.keep (two_below w (.cells #[.int .i64 t, .int .i64 j, .string d] 42) (.cells #[.int .i64 0, .int .i64 0, .int .i64 0, .int .i64 0, .int .i64 0, .int .i64 0, .string ⟨#[]⟩, .int .i64 0] 38)))
    have HT := Lib.hid (HT0.out.keep (two_below w (.cells #[.int .i64 t, .int .i64 j, .string d] 42) (.cells #[.int .i64 0, .int .i64 0, .int .i64 0, .int .i64 0, .int .i64 0, .int .i64 0, .string ⟨#[]⟩, .int .i64 0] 38)))
    clear HC0 HT0
    generalize (w.alloc (.cells #[.int .i64 t, .int .i64 j, .string d] 42)).alloc (.cells #[.int .i64 0, .int .i64 0, .int .i64 0, .int .i64 0, .int .i64 0, .int .i64 0, .string ⟨#[]⟩, .int .i64 0] 38) = w1 at *
    have x0 := HU.out.hp.cell 0; have x1 := HU.out.hp.cell 1; have x2 := HU.out.hp.cell 2
    simp only [List.getElem?_toArray, List.getElem?_cons_zero, List.getElem?_cons_succ] at x0 x1 x2
    have c1 := HC.out.cells.cell 1
    simp only [List.getElem?_toArray, List.getElem?_cons_zero, List.getElem?_cons_succ] at c1
    rw [H0.out] at c1
    go_wp2_with fail
    clear x0 x1 x2
    clear c1
    have HTX := HT.out
    with_reducible refine (HSUB.out _ HC.out HTX).mono ?_
    rintro r3 w3 ⟨rfl, hs⟩
    have HU3 := Lib.hid (HU.out.chg hs.2 (low_in HLOW.out))
    have HC3 := Lib.hid hs.1
    clear HU HC hs
    have HU := HU3
    have HC := HC3
    clear HU3 HC3
    have z0 := HU.out.hr.cell 0; have z1 := HU.out.hr.cell 1; have z2 := HU.out.hr.cell 2; have z3 := HU.out.hr.cell 3; have z4 := HU.out.hr.cell 4; have z5 := HU.out.hr.cell 5; have z6 := HU.out.hr.cell 6; have z7 := HU.out.hr.cell 7
    have g0 := HU.out.hr.free 0; have g1 := HU.out.hr.free 1; have g2 := HU.out.hr.free 2; have g3 := HU.out.hr.free 3; have g4 := HU.out.hr.free 4; have g5 := HU.out.hr.free 5; have g6 := HU.out.hr.free 6; have g7 := HU.out.hr.free 7
    simp only [List.getElem?_toArray, List.getElem?_cons_zero, List.getElem?_cons_succ] at z0 z1 z2 z3 z4 z5 z6 z7
    go_wp2
    ((try simp only [Exit.inBlock, Exit.then]); refine bodyPost_ret (v := (.tuple #[.agg #[.int .i64 X.what, .int .i64 X.job, .int .i64 X.ten, .int .i64 X.kind, .int .i64 X.lev, .int .i64 X.n, .string X.txt, .int .i64 X.err], .int .i64 0])) ?_ rfl ⟨?_, ?_⟩; (rw [results_cell_tmp1 rfl]; go_simp))
    · rfl
    · refine fin_step HC.out HLOW.out HU.out.hc ?_
      (repeat (first | (with_reducible exact (Below.refl _ _)) | refine Below.setCell ?_ (by first | exact Nat.le_refl _ | exact Nat.le_succ _) _))
  · have h0' : (Cn.tenant L == -1) = false := by simpa using h0
    cases hr : Pr.rd ⟨t, j, d⟩ with
    | none =>
      rw [SN h0 hr]
      rw [hr] at HRD
      simp only [readV] at HRD
      clear S0 SN SR HLI HAC TOK hr h0
      go_enter Tryd.func13, Tryd.ntmps13
      go_upto_region 1 with (fail)
      have HU := Lib.hid (U2.new w [b, m] #[.int .i64 t, .int .i64 j, .string d] #[.int .i64 0, .int .i64 0, .int .i64 0, .int .i64 0, .int .i64 0, .int .i64 0, .string ⟨#[]⟩, .int .i64 0] 42 38)
      have HC := Lib.hid (HC0.out.keep (two_below w (.cells #[.int .i64 t, .int .i64 j, .string d] 42) (.cells #[.int .i64 0, .int .i64 0, .int .i64 0, .int .i64 0, .int .i64 0, .int .i64 0, .string ⟨#[]⟩, .int .i64 0] 38)))
      have HT := Lib.hid (HT0.out.keep (two_below w (.cells #[.int .i64 t, .int .i64 j, .string d] 42) (.cells #[.int .i64 0, .int .i64 0, .int .i64 0, .int .i64 0, .int .i64 0, .int .i64 0, .string ⟨#[]⟩, .int .i64 0] 38)))
      clear HC0 HT0
      generalize (w.alloc (.cells #[.int .i64 t, .int .i64 j, .string d] 42)).alloc (.cells #[.int .i64 0, .int .i64 0, .int .i64 0, .int .i64 0, .int .i64 0, .int .i64 0, .string ⟨#[]⟩, .int .i64 0] 38) = w1 at *
      have x0 := HU.out.hp.cell 0; have x1 := HU.out.hp.cell 1; have x2 := HU.out.hp.cell 2
      simp only [List.getElem?_toArray, List.getElem?_cons_zero, List.getElem?_cons_succ] at x0 x1 x2
      have c1 := HC.out.cells.cell 1
      simp only [List.getElem?_toArray, List.getElem?_cons_zero, List.getElem?_cons_succ] at c1
      go_wp2_with fail
      clear c1
      with_reducible refine (HRD.out _ HT.out).mono ?_
      rintro r2 w2 ⟨rfl, hb⟩
      have HU2 := Lib.hid (HU.out.keep hb)
      have HC2 := Lib.hid (HC.out.keep hb)
      clear HU HC hb HRD HT
      clear x0 x1 x2
      go_upto_region 6 with (fail)
      have HU := Lib.hid (HU2.out.keep ((Below.refl _ w2).alloc (Nat.le_refl _) (.cells #[.int .i64 0, .int .i64 0, .string ⟨#[]⟩, .string ⟨#[]⟩, .int .i64 0, .int .i64 0, .int .i64 0] 70)))
      have HC := Lib.hid (HC2.out.keep ((Below.refl _ w2).alloc (Nat.le_refl _) (.cells #[.int .i64 0, .int .i64 0, .string ⟨#[]⟩, .string ⟨#[]⟩, .int .i64 0, .int .i64 0, .int .i64 0] 70)))
      have HV := Lib.hid (Has.new w2 #[.int .i64 0, .int .i64 0, .string ⟨#[]⟩, .string ⟨#[]⟩, .int .i64 0, .int .i64 0, .int .i64 0] 70)
      clear HU2 HC2
      generalize w2.alloc (.cells #[.int .i64 0, .int .i64 0, .string ⟨#[]⟩, .string ⟨#[]⟩, .int .i64 0, .int .i64 0, .int .i64 0] 70) = w3 at *
      generalize w2.heap.size = p at *
      have x0 := HU.out.hp.cell 0; have x1 := HU.out.hp.cell 1; have x2 := HU.out.hp.cell 2
      simp only [List.getElem?_toArray, List.getElem?_cons_zero, List.getElem?_cons_succ] at x0 x1 x2
      have v0 := HV.out.cell 0; have v1 := HV.out.cell 1; have v2 := HV.out.cell 2; have v3 := HV.out.cell 3; have v4 := HV.out.cell 4; have v5 := HV.out.cell 5; have v6 := HV.out.cell 6
      simp only [List.getElem?_toArray, List.getElem?_cons_zero, List.getElem?_cons_succ] at v0 v1 v2 v3 v4 v5 v6
      go_wp2_with fail
      clear x0 x1 x2
      clear v0 v1 v2 v3 v4 v5 v6
      with_reducible refine (refuse_wide _ _ _).mono ?_
      rintro r4 w4 ⟨rfl, hb⟩
      have HU3 := Lib.hid (HU.out.keep hb)
      have HC3 := Lib.hid ((HC.out.keep hb).refuse j 35)
      clear HU HC hb
      have HU := HU3
      have HC := HC3
      clear HU3 HC3
      have z0 := HU.out.hr.cell 0; have z1 := HU.out.hr.cell 1; have z2 := HU.out.hr.cell 2; have z3 := HU.out.hr.cell 3; have z4 := HU.out.hr.cell 4; have z5 := HU.out.hr.cell 5; have z6 := HU.out.hr.cell 6; have z7 := HU.out.hr.cell 7
      have g0 := HU.out.hr.free 0; have g1 := HU.out.hr.free 1; have g2 := HU.out.hr.free 2; have g3 := HU.out.hr.free 3; have g4 := HU.out.hr.free 4; have g5 := HU.out.hr.free 5; have g6 := HU.out.hr.free 6; have g7 := HU.out.hr.free 7
      simp only [List.getElem?_toArray, List.getElem?_cons_zero, List.getElem?_cons_succ] at z0 z1 z2 z3 z4 z5 z6 z7
      go_wp2
      ((try simp only [Exit.inBlock, Exit.then]); refine bodyPost_ret (v := (.tuple #[.agg #[.int .i64 1, .int .i64 j, .int .i64 0, .int .i64 0, .int .i64 0, .int .i64 0, .string ⟨#[]⟩, .int .i64 35], .int .i64 0])) ?_ rfl ⟨?_, ?_⟩; (rw [results_cell_tmp1 rfl]; go_simp))
      · rfl
      · refine fin_step HC.out HLOW.out HU.out.hc ?_
        (repeat (first | (with_reducible exact (Below.refl _ _)) | refine Below.setCell ?_ (by first | exact Nat.le_refl _ | exact Nat.le_succ _) _))
    | some r =>
      have HSUB := HAC r (TOK r hr).2 h0
      rw [← SR r h0 hr] at HSUB
      simp only [rqV] at HSUB
      rw [hr] at HRD
      simp only [readV] at HRD
      clear S0 SN SR HLI HAC TOK hr h0
      go_enter Tryd.func13, Tryd.ntmps13
      go_upto_region 1 with (fail)
      have HU := Lib.hid (U2.new w [b, m] #[.int .i64 t, .int .i64 j, .string d] #[.int .i64 0, .int .i64 0, .int .i64 0, .int .i64 0, .int .i64 0, .int .i64 0, .string ⟨#[]⟩, .int .i64 0] 42 38)
      have HC := Lib.hid (HC0.out.keep (two_below w (.cells #[.int .i64 t, .int .i64 j, .string d] 42) (.cells #[.int .i64 0, .int .i64 0, .int .i64 0, .int .i64 0, .int .i64 0, .int .i64 0, .string ⟨#[]⟩, .int .i64 0] 38)))
      have HT := Lib.hid (HT0.out.keep (two_below w (.cells #[.int .i64 t, .int .i64 j, .string d] 42) (.cells #[.int .i64 0, .int .i64 0, .int .i64 0, .int .i64 0, .int .i64 0, .int .i64 0, .string ⟨#[]⟩, .int .i64 0] 38)))
      clear HC0 HT0
      generalize (w.alloc (.cells #[.int .i64 t, .int .i64 j, .string d] 42)).alloc (.cells #[.int .i64 0, .int .i64 0, .int .i64 0, .int .i64 0, .int .i64 0, .int .i64 0, .string ⟨#[]⟩, .int .i64 0] 38) = w1 at *
      have x0 := HU.out.hp.cell 0; have x1 := HU.out.hp.cell 1; have x2 := HU.out.hp.cell 2
      simp only [List.getElem?_toArray, List.getElem?_cons_zero, List.getElem?_cons_succ] at x0 x1 x2
      have c1 := HC.out.cells.cell 1
      simp only [List.getElem?_toArray, List.getElem?_cons_zero, List.getElem?_cons_succ] at c1
      go_wp2_with fail
      clear c1
      with_reducible refine (HRD.out _ HT.out).mono ?_
      rintro r2 w2 ⟨rfl, hb⟩
      have HU2 := Lib.hid (HU.out.keep hb)
      have HC2 := Lib.hid (HC.out.keep hb)
      clear HU HC hb HRD HT
      clear x0 x1 x2
      go_upto_region 6 with (fail)
      have HU := Lib.hid (HU2.out.keep ((Below.refl _ w2).alloc (Nat.le_refl _) (.cells #[.int .i64 r.t, .int .i64 r.j, .string r.tok, .string r.txt, .int .i64 r.k, .int .i64 r.lv, .int .i64 r.n] 70)))
      have HC := Lib.hid (HC2.out.keep ((Below.refl _ w2).alloc (Nat.le_refl _) (.cells #[.int .i64 r.t, .int .i64 r.j, .string r.tok, .string r.txt, .int .i64 r.k, .int .i64 r.lv, .int .i64 r.n] 70)))
      have HV := Lib.hid (Has.new w2 #[.int .i64 r.t, .int .i64 r.j, .string r.tok, .string r.txt, .int .i64 r.k, .int .i64 r.lv, .int .i64 r.n] 70)
      clear HU2 HC2
      generalize w2.alloc (.cells #[.int .i64 r.t, .int .i64 r.j, .string r.tok, .string r.txt, .int .i64 r.k, .int .i64 r.lv, .int .i64 r.n] 70) = w3 at *
      generalize w2.heap.size = p at *
      have x0 := HU.out.hp.cell 0; have x1 := HU.out.hp.cell 1; have x2 := HU.out.hp.cell 2
      simp only [List.getElem?_toArray, List.getElem?_cons_zero, List.getElem?_cons_succ] at x0 x1 x2
      have v0 := HV.out.cell 0; have v1 := HV.out.cell 1; have v2 := HV.out.cell 2; have v3 := HV.out.cell 3; have v4 := HV.out.cell 4; have v5 := HV.out.cell 5; have v6 := HV.out.cell 6
      simp only [List.getElem?_toArray, List.getElem?_cons_zero, List.getElem?_cons_succ] at v0 v1 v2 v3 v4 v5 v6
      go_wp2_with fail
      clear x0 x1 x2
      clear v0 v1 v2 v3 v4 v5 v6
      have HTX := True.intro
      with_reducible refine (HSUB.out _ HC.out HTX).mono ?_
      rintro r3 w3 ⟨rfl, hs⟩
      have HU3 := Lib.hid (HU.out.chg hs.2 (low_in HLOW.out))
      have HC3 := Lib.hid hs.1
      clear HU HC hs
      have HU := HU3
      have HC := HC3
      clear HU3 HC3
      have z0 := HU.out.hr.cell 0; have z1 := HU.out.hr.cell 1; have z2 := HU.out.hr.cell 2; have z3 := HU.out.hr.cell 3; have z4 := HU.out.hr.cell 4; have z5 := HU.out.hr.cell 5; have z6 := HU.out.hr.cell 6; have z7 := HU.out.hr.cell 7
      have g0 := HU.out.hr.free 0; have g1 := HU.out.hr.free 1; have g2 := HU.out.hr.free 2; have g3 := HU.out.hr.free 3; have g4 := HU.out.hr.free 4; have g5 := HU.out.hr.free 5; have g6 := HU.out.hr.free 6; have g7 := HU.out.hr.free 7
      simp only [List.getElem?_toArray, List.getElem?_cons_zero, List.getElem?_cons_succ] at z0 z1 z2 z3 z4 z5 z6 z7
      go_wp2
      ((try simp only [Exit.inBlock, Exit.then]); refine bodyPost_ret (v := (.tuple #[.agg #[.int .i64 X.what, .int .i64 X.job, .int .i64 X.ten, .int .i64 X.kind, .int .i64 X.lev, .int .i64 X.n, .string X.txt, .int .i64 X.err], .int .i64 0])) ?_ rfl ⟨?_, ?_⟩; (rw [results_cell_tmp1 rfl]; go_simp))
      · rfl
      · refine fin_step HC.out HLOW.out HU.out.hc ?_
        (repeat (first | (with_reducible exact (Below.refl _ _)) | refine Below.setCell ?_ (by first | exact Nat.le_refl _ | exact Nat.le_succ _) _))
end Go.Proofs.YtajalllecoclcaaDoor
