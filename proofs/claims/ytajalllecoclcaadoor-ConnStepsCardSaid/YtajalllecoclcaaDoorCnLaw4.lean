/- What any frames come to, one behind the other. What any frames come to: all cases. -/
import Derived.Test.YtajalllecoclcaaDoorCnRef5
import Derived.Test.YtajalllecoclcaaDoorTnRef1
namespace Go.Proofs.YtajalllecoclcaaDoor
open Go.RowKit
set_option linter.unusedVariables false
set_option linter.unusedSimpArgs false

theorem On.belowB36 {w0 w w' : World} {B b m : Nat} {a : Option Addr} {cap : Nat} {l : List Tn.Ten} {L : List Cn.Act} (h : On w0 w b m a cap l L) (k : Below B w w') (hl : Low B b m a) (hB : w0.heap.size ≤ B) : On w0 w' b m a cap l L :=
  ⟨h.is.below k hl, h.below.trans (k.mono hB), h.fresh⟩
/-- a connection, and the variable that holds the reference's acts -/
structure Rnd (w0 w : World) (B b m : Nat) (a : Option Addr) (cap : Nat) (l : List Tn.Ten) (L : List Cn.Act) (p : Nat) (ta : Option Addr) (tc : Nat) (A : List Cn.Act) (la : Option Addr) (lc : Nat) : Prop where
  on : On w0 w b m a cap l L
  acts : ActsAt w B p ta l.length tc A la lc
  low : Low p b m a
  big : B ≤ w.heap.size
  ge : w0.heap.size ≤ p
section
variable {w0 w w' : World} {B b m : Nat} {a : Option Addr} {cap : Nat} {l : List Tn.Ten} {L : List Cn.Act} {p : Nat} {ta : Option Addr} {tc : Nat} {A : List Cn.Act} {la : Option Addr} {lc : Nat}
theorem Rnd.keep (h : Rnd w0 w B b m a cap l L p ta tc A la lc) (k : Below w.heap.size w w') : Rnd w0 w' B b m a cap l L p ta tc A la lc :=
  ⟨h.on.keep k, h.acts.keep k, h.low, Nat.le_trans h.big k.size, h.ge⟩
theorem Rnd.step {x : Cn.Act} (h : Rnd w0 w B b m a cap l L p ta tc A la lc) (o : On w0 w' b m a cap l (L ++ [x])) (k : Chg [b, m] w w') : Rnd w0 w' B b m a cap l (L ++ [x]) p ta tc A la lc :=
  ⟨o, h.acts.chg k (by
    have h1 := h.low.b
    have h2 := h.low.m
    simp only [List.mem_cons, List.not_mem_nil, or_false]
    omega) (fun x hx => by
    have h1 := h.low.b
    have h2 := h.low.m
    have h3 := h.acts.lt
    simp only [List.mem_cons, List.not_mem_nil, or_false] at hx
    omega), h.low, Nat.le_trans h.big k.size, h.ge⟩
theorem Rnd.set {A' : List Cn.Act} {la' : Option Addr} {lc' : Nat} (h : Rnd w0 w B b m a cap l L p ta tc A la lc) (n : Nat) (hn : A'.length = n) (r : RowS w 8 la' n lc' (A'.flatMap accells)) (hf : ∀ y, la' = some y → B ≤ y.block) :
    Rnd w0 ((w.setCell ⟨p, 0, none⟩ (.slice ta l.length tc)).setCell ⟨p, 1, none⟩ (.slice la' n lc')) B b m a cap l L p ta tc A' la' lc' :=
  ⟨h.on.belowB36 (below_set (below_set (Below.refl p w) _ _ (Nat.le_refl _) _) _ _ (Nat.le_refl _) _) h.low h.ge, h.acts.set n hn r hf, h.low, by rw [World.size_setCell, World.size_setCell]; exact h.big, h.ge⟩
theorem Rnd.over (h : Rnd w0 w B b m a cap l L p ta tc A la lc) (q : Nat) (hq : w.heap.size ≤ q) : q ≠ p := by
  have := h.acts.lt
  have := h.big
  omega
end
theorem eq_act (X : Cn.Act) (w : World) : (binOp .neq 44 (.agg #[.int .i64 X.what, .int .i64 X.job, .int .i64 X.ten, .int .i64 X.kind, .int .i64 X.lev, .int .i64 X.n, .string X.txt, .int .i64 X.err]) (.agg #[.int .i64 X.what, .int .i64 X.job, .int .i64 X.ten, .int .i64 X.kind, .int .i64 X.lev, .int .i64 X.n, .string X.txt, .int .i64 X.err])).run Tryd.prog w = .ok (.bool false) w := by
  have hfs : Tryd.prog.underlying 44 = some (.struct (Tryd.prog.fieldsOf 44)) := by kernel_rfl
  rw [run_neq_struct, run_equalIn_struct w 9999 _ _ _ hfs (by kernel_rfl)]
  clear hfs
  go_simp
set_option maxRecDepth 100000 in
set_option maxHeartbeats 3000000 in
theorem steps_yes (l : List Tn.Ten) (ta : Option Addr) (tc : Nat) (fs : List Fr.Frm) (fa : Option Addr) (fc : Nat) (w : World) (hrt : RowS w 5 ta l.length tc (l.flatMap tncells)) (hfr : RowS w 3 fa fs.length fc (fs.flatMap cfcells)) (hj : ∀ x ∈ fs, I64 x.j) (hl : l.length ≤ 1000) (hz : tnSmall l) (h60 : fs.length ≤ 60) (hT : Tabs w) (hlg : Cn.large l fs = false) (hck : (Tn.check l).2 = 0) :
    Calls Tryd.prog 6 #[.slice ta l.length tc, .slice fa fs.length fc] w fun r w' => r = .returned (.bool true) ∧ Below w.heap.size w w' := by
  have HRT := Lib.hid hrt
  have HFR := Lib.hid hfr
  have HQ := Lib.hid h60
  have HT := Lib.hid hT
  have HJ := Lib.hid hj
  have HL := Lib.hid hl
  have HZS := Lib.hid hz
  have HLG := Lib.hid (large36_walk l ta l.length tc fs fa fs.length fc w rfl hrt rfl hfr)
  rw [hlg] at HLG
  have HNEW := Lib.hid (fun w1 (hb : Below w.heap.size w w1) => new_yes l ta l.length tc w1 rfl (hrt.keep hb) hl hz (hT.keep hb) hck)
  have HRC := Lib.hid (fun w hrt => refcheck_walk l ta l.length tc w rfl hrt hl hz)
  rw [hck] at HRC
  generalize (Tn.check l).1 = ck at *
  clear hrt hfr h60 hT hj hl hz hlg hck
  go_enter Tryd.func6, Tryd.ntmps6
  go_wp2_with fail
  (with_reducible refine (HLG.out).mono ?_)
  rintro r1 w1 ⟨rfl, hb1⟩
  have HB1 := Lib.hid hb1
  clear hb1 HLG
  go_wp2_with fail
  with_reducible refine (HNEW.out _ HB1.out).mono ?_
  rintro r2 w2 ⟨b, m, a, cap, rfl, hc, hf, hb2⟩
  have HO := Lib.hid (show On w w2 b m a cap l [] from ⟨hc, HB1.out.trans (hb2.mono HB1.out.size), ⟨Nat.le_trans HB1.out.size hf.b, Nat.le_trans HB1.out.size hf.m, fun x hx => Nat.le_trans HB1.out.size (hf.row x hx)⟩⟩)
  clear hc hf hb2 HB1 HNEW
  go_wp2_with fail
  with_reducible refine (HRC.out _ (HRT.out.keep HO.out.below)).mono ?_
  rintro r3 w3 ⟨rfl, hb3⟩
  have HO3 := Lib.hid (HO.out.keep hb3)
  clear hb3 HO HRC
  go_upto_region 5 with (fail)
  have HB4 := Lib.hid ((Below.refl _ w3).alloc (Nat.le_refl _) (.cells #[.int .i64 ck, .int .i64 0] 53))
  have HO4 := Lib.hid (HO3.out.keep HB4.out)
  have HC := Lib.hid (Has.new w3 #[.int .i64 ck, .int .i64 0] 53)
  clear HO3 HB4
  generalize w3.alloc (.cells #[.int .i64 ck, .int .i64 0] 53) = w4 at *
  have c0 := HC.out.cell 0; have c1 := HC.out.cell 1
  simp only [List.getElem?_toArray, List.getElem?_cons_zero, List.getElem?_cons_succ] at c0 c1
  go_upto_region 8 with (fail)
  clear c0 c1 HC
  have HK0 := Lib.hid (show Rnd w (w4.alloc (.cells #[.slice ta l.length tc, .slice none 0 0] 33)) (w4.heap.size + 1) b m a cap l [] w4.heap.size ta tc [] none 0 from
    ⟨HO4.out.keep ((Below.refl _ w4).alloc (Nat.le_refl _) _), ⟨Has.new w4 _ _, ⟨Nat.le_refl _, Nat.zero_le _, rfl, fun _ => ⟨rfl, rfl⟩, (fun x hx => nomatch hx)⟩, (fun y hy => nomatch hy), Nat.lt_succ_self _⟩, HO4.out.is.low, by rw [World.size_alloc]; exact Nat.le_refl _, HO4.out.below.size⟩)
  clear HO4
  generalize hBd : w4.heap.size + 1 = B at HK0
  clear hBd
  generalize w4.alloc (.cells #[.slice ta l.length tc, .slice none 0 0] 33) = w5 at *
  generalize w4.heap.size = p at *
  go_wp2_with fail
  go_loopw [43] (fun vi wr => ∃ (k : Nat) (A : List Cn.Act) (la : Option Addr) (lc : Nat), k ≤ fs.length ∧ vi = .int .i64 k ∧ A.length = k ∧ Rnd w wr B b m a cap l A p ta tc A la lc) (fun i _ => fs.length - (intOf i).toNat)
  case atStart => exact ⟨0, [], none, 0, Nat.zero_le _, rfl, rfl, HK0.out⟩
  case round =>
    obtain ⟨k, A, la, lc, hk, rfl, hAk, hk1⟩ := hrel
    subst hAk
    clear HK0
    have HK := Lib.hid hk1
    clear hk1
    by_cases hlt : A.length < fs.length
    · have hlt' : (A.length : Int) < (fs.length : Int) := by omega
      have hw := large_wrap A.length _ HQ.out hlt
      obtain ⟨fb, off, rfl, hb, a0, a1, a2⟩ := (HFR.out.keep HK.out.on.below).frm A.length hlt hlt
      have hfj := HJ.out fs[A.length] (List.getElem_mem hlt)
      generalize fs[A.length] = f at *
      obtain ⟨ft, fj, fd⟩ := f
      simp only at a0 a1 a2 hfj
      have HFJ := Lib.hid hfj
      have HA60 := Lib.hid (show A.length ≤ 60 ∧ A.length + 1 ≤ 60 by have := HQ.out; omega)
      have HST := Lib.hid (fun w hrt hr => Calls.act (refstep_walk l A ta tc la lc ft fj fd w hrt hr HL.out HA60.out.1 HK.out.on.is.good))
      clear hfj
      go_upto_region 11 with (fail)
      have HB5 := Lib.hid ((Below.refl _ wr).alloc (Nat.le_refl _) (.cells #[.int .i64 ft, .int .i64 fj, .string fd] 42))
      have HF := Lib.hid (Has.new wr #[.int .i64 ft, .int .i64 fj, .string fd] 42)
      have HPF := Lib.hid (HK.out.over wr.heap.size (Nat.le_refl _))
      have HNF := Lib.hid (HK.out.on.apart wr.heap.size (Nat.le_refl _))
      have HK2 := Lib.hid (HK.out.keep HB5.out)
      clear HK
      have HK := HK2
      clear HK2
      clear a0 a1 a2 hb HB5
      generalize wr.alloc (.cells #[.int .i64 ft, .int .i64 fj, .string fd] 42) = w6 at *
      generalize wr.heap.size = pf at *
      have a0 := HF.out.cell 0; have a1 := HF.out.cell 1; have a2 := HF.out.cell 2
      simp only [List.getElem?_toArray, List.getElem?_cons_zero, List.getElem?_cons_succ] at a0 a1 a2
      go_wp2_with fail
      with_reducible refine (step_on ft fj fd HK.out.on HL.out HZS.out HT.out _ rfl).mono ?_
      generalize Cn.step l A ⟨ft, fj, fd⟩ = X at *
      rintro r7 w7 ⟨rfl, ho7, hc7⟩
      have HF2 := Lib.hid (HF.out.chg hc7 HNF.out)
      clear HF
      have HF := HF2
      clear HF2
      have HK2 := Lib.hid (HK.out.step ho7 hc7)
      clear HK
      have HK := HK2
      clear HK2
      clear ho7 hc7 a0 a1 a2 HNF
      go_upto_region 12 with (fail)
      have HB8 := Lib.hid ((Below.refl _ w7).alloc (Nat.le_refl _) (.cells #[.int .i64 X.what, .int .i64 X.job, .int .i64 X.ten, .int .i64 X.kind, .int .i64 X.lev, .int .i64 X.n, .string X.txt, .int .i64 X.err] 38))
      have HX := Lib.hid (Has.new w7 #[.int .i64 X.what, .int .i64 X.job, .int .i64 X.ten, .int .i64 X.kind, .int .i64 X.lev, .int .i64 X.n, .string X.txt, .int .i64 X.err] 38)
      have HPX := Lib.hid (HK.out.over w7.heap.size (Nat.le_refl _))
      have HF2 := Lib.hid (HF.out.below HB8.out HF.out.lt)
      clear HF
      have HF := HF2
      clear HF2
      have HK2 := Lib.hid (HK.out.keep HB8.out)
      clear HK
      have HK := HK2
      clear HK2
      clear HB8
      generalize w7.alloc (.cells #[.int .i64 X.what, .int .i64 X.job, .int .i64 X.ten, .int .i64 X.kind, .int .i64 X.lev, .int .i64 X.n, .string X.txt, .int .i64 X.err] 38) = w8 at *
      generalize w7.heap.size = px at *
      have a0 := HF.out.cell 0; have a1 := HF.out.cell 1; have a2 := HF.out.cell 2
      simp only [List.getElem?_toArray, List.getElem?_cons_zero, List.getElem?_cons_succ] at a0 a1 a2
      have c0 := HK.out.acts.has.cell 0; have c1 := HK.out.acts.has.cell 1
      have g0 := HK.out.acts.has.free 0; have g1 := HK.out.acts.has.free 1
      simp only [List.getElem?_toArray, List.getElem?_cons_zero, List.getElem?_cons_succ] at c0 c1
      go_wp2_with fail
      with_reducible refine (HST.out _ (HRT.out.keep HK.out.on.below) HK.out.acts.row).mono ?_
      rintro r9 w9 ⟨rfl, hb9⟩
      have HX2 := Lib.hid (HX.out.below hb9 HX.out.lt)
      clear HX
      have HX := HX2
      clear HX2
      have HF2 := Lib.hid (HF.out.below hb9 HF.out.lt)
      clear HF
      have HF := HF2
      clear HF2
      have HK2 := Lib.hid (HK.out.keep hb9)
      clear HK
      have HK := HK2
      clear HK2
      clear hb9 HST a0 a1 a2 c0 c1 g0 g1
      go_upto_region 13 with (fail)
      have HB8 := Lib.hid ((Below.refl _ w9).alloc (Nat.le_refl _) (.cells #[.int .i64 X.what, .int .i64 X.job, .int .i64 X.ten, .int .i64 X.kind, .int .i64 X.lev, .int .i64 X.n, .string X.txt, .int .i64 X.err] 44))
      have HZ := Lib.hid (Has.new w9 #[.int .i64 X.what, .int .i64 X.job, .int .i64 X.ten, .int .i64 X.kind, .int .i64 X.lev, .int .i64 X.n, .string X.txt, .int .i64 X.err] 44)
      have HPZ := Lib.hid (HK.out.over w9.heap.size (Nat.le_refl _))
      have HX2 := Lib.hid (HX.out.below HB8.out HX.out.lt)
      clear HX
      have HX := HX2
      clear HX2
      have HF2 := Lib.hid (HF.out.below HB8.out HF.out.lt)
      clear HF
      have HF := HF2
      clear HF2
      have HK2 := Lib.hid (HK.out.keep HB8.out)
      clear HK
      have HK := HK2
      clear HK2
      clear HB8
      generalize w9.alloc (.cells #[.int .i64 X.what, .int .i64 X.job, .int .i64 X.ten, .int .i64 X.kind, .int .i64 X.lev, .int .i64 X.n, .string X.txt, .int .i64 X.err] 44) = w10 at *
      generalize w9.heap.size = pz at *
      have c0 := HK.out.acts.has.cell 0; have c1 := HK.out.acts.has.cell 1
      have g0 := HK.out.acts.has.free 0; have g1 := HK.out.acts.has.free 1
      simp only [List.getElem?_toArray, List.getElem?_cons_zero, List.getElem?_cons_succ] at c0 c1
      have z0 := HZ.out.cell 0; have z1 := HZ.out.cell 1; have z2 := HZ.out.cell 2; have z3 := HZ.out.cell 3; have z4 := HZ.out.cell 4; have z5 := HZ.out.cell 5; have z6 := HZ.out.cell 6; have z7 := HZ.out.cell 7
      simp only [List.getElem?_toArray, List.getElem?_cons_zero, List.getElem?_cons_succ] at z0 z1 z2 z3 z4 z5 z6 z7
      go_wp2_with fail
      with_reducible refine (with_walk A X ta l.length tc la lc _ HK.out.acts.row HA60.out.1).mono ?_
      rintro r11 w11 ⟨la4, lc4, rfl, hr4, hf4, hb4⟩
      have HR4 := Lib.hid hr4
      have HF4 := Lib.hid (fun y hy => Nat.le_trans HK.out.big (hf4 y hy))
      have HX2 := Lib.hid (HX.out.below hb4 HX.out.lt)
      clear HX
      have HX := HX2
      clear HX2
      have HF2 := Lib.hid (HF.out.below hb4 HF.out.lt)
      clear HF
      have HF := HF2
      clear HF2
      have HZ2 := Lib.hid (HZ.out.below hb4 HZ.out.lt)
      clear HZ
      have HZ := HZ2
      clear HZ2
      have HK2 := Lib.hid (HK.out.keep hb4)
      clear HK
      have HK := HK2
      clear HK2
      clear hr4 hf4 hb4 c0 c1 g0 g1 z0 z1 z2 z3 z4 z5 z6 z7
      have c0 := HK.out.acts.has.cell 0; have c1 := HK.out.acts.has.cell 1
      have g0 := HK.out.acts.has.free 0; have g1 := HK.out.acts.has.free 1
      simp only [List.getElem?_toArray, List.getElem?_cons_zero, List.getElem?_cons_succ] at c0 c1
      go_upto_region 14 with (fail)
      have HX2 := Lib.hid ((HX.out.setCell_other ⟨p, 0, none⟩ (.slice ta l.length tc) HPX.out).setCell_other ⟨p, 1, none⟩ (.slice la4 (A.length + 1) lc4) HPX.out)
      clear HX
      have HX := HX2
      clear HX2
      have HF2 := Lib.hid ((HF.out.setCell_other ⟨p, 0, none⟩ (.slice ta l.length tc) HPF.out).setCell_other ⟨p, 1, none⟩ (.slice la4 (A.length + 1) lc4) HPF.out)
      clear HF
      have HF := HF2
      clear HF2
      have HZ2 := Lib.hid ((HZ.out.setCell_other ⟨p, 0, none⟩ (.slice ta l.length tc) HPZ.out).setCell_other ⟨p, 1, none⟩ (.slice la4 (A.length + 1) lc4) HPZ.out)
      clear HZ
      have HZ := HZ2
      clear HZ2
      have HK2 := Lib.hid (HK.out.set (A.length + 1) List.length_append HR4.out HF4.out)
      clear HK
      have HK := HK2
      clear HK2
      clear c0 c1 g0 g1 HR4 HF4 HPX HPF HPZ
      generalize (w11.setCell ⟨p, 0, none⟩ (.slice ta l.length tc)).setCell ⟨p, 1, none⟩ (.slice la4 (A.length + 1) lc4) = w12 at *
      have HA2 := Lib.hid (show (A ++ [X]).length = A.length + 1 from List.length_append)
      generalize A ++ [X] = A2 at *
      have HA260 := Lib.hid (show A2.length ≤ 60 by have := HA2.out; have := HA60.out; omega)
      have c0 : ∀ y : Later w12, y.at.cell? ⟨p, 0, none⟩ = some (.slice ta l.length tc) := fun y => y.cell (HK.out.acts.has.cell 0)
      have c1 : ∀ y : Later w12, y.at.cell? ⟨p, 1, none⟩ = some (.slice la4 A2.length lc4) := fun y => y.cell (HK.out.acts.has.cell 1)
      have x0 : ∀ y : Later w12, y.at.cell? ⟨px, 0, none⟩ = some (.int .i64 X.what) := fun y => y.cell (HX.out.cell 0)
      have x1 : ∀ y : Later w12, y.at.cell? ⟨px, 1, none⟩ = some (.int .i64 X.job) := fun y => y.cell (HX.out.cell 1)
      have x2 : ∀ y : Later w12, y.at.cell? ⟨px, 2, none⟩ = some (.int .i64 X.ten) := fun y => y.cell (HX.out.cell 2)
      have x3 : ∀ y : Later w12, y.at.cell? ⟨px, 3, none⟩ = some (.int .i64 X.kind) := fun y => y.cell (HX.out.cell 3)
      have x4 : ∀ y : Later w12, y.at.cell? ⟨px, 4, none⟩ = some (.int .i64 X.lev) := fun y => y.cell (HX.out.cell 4)
      have x5 : ∀ y : Later w12, y.at.cell? ⟨px, 5, none⟩ = some (.int .i64 X.n) := fun y => y.cell (HX.out.cell 5)
      have x6 : ∀ y : Later w12, y.at.cell? ⟨px, 6, none⟩ = some (.string X.txt) := fun y => y.cell (HX.out.cell 6)
      have x7 : ∀ y : Later w12, y.at.cell? ⟨px, 7, none⟩ = some (.int .i64 X.err) := fun y => y.cell (HX.out.cell 7)
      have z0 : ∀ y : Later w12, y.at.cell? ⟨pz, 0, none⟩ = some (.int .i64 X.what) := fun y => y.cell (HZ.out.cell 0)
      have z1 : ∀ y : Later w12, y.at.cell? ⟨pz, 1, none⟩ = some (.int .i64 X.job) := fun y => y.cell (HZ.out.cell 1)
      have z2 : ∀ y : Later w12, y.at.cell? ⟨pz, 2, none⟩ = some (.int .i64 X.ten) := fun y => y.cell (HZ.out.cell 2)
      have z3 : ∀ y : Later w12, y.at.cell? ⟨pz, 3, none⟩ = some (.int .i64 X.kind) := fun y => y.cell (HZ.out.cell 3)
      have z4 : ∀ y : Later w12, y.at.cell? ⟨pz, 4, none⟩ = some (.int .i64 X.lev) := fun y => y.cell (HZ.out.cell 4)
      have z5 : ∀ y : Later w12, y.at.cell? ⟨pz, 5, none⟩ = some (.int .i64 X.n) := fun y => y.cell (HZ.out.cell 5)
      have z6 : ∀ y : Later w12, y.at.cell? ⟨pz, 6, none⟩ = some (.string X.txt) := fun y => y.cell (HZ.out.cell 6)
      have z7 : ∀ y : Later w12, y.at.cell? ⟨pz, 7, none⟩ = some (.int .i64 X.err) := fun y => y.cell (HZ.out.cell 7)
      have heq := eq_act X
      have S1 := Lib.hid (fun y : Later w12 => later_call (x := y) (actref_walk X y.at))
      have S2 := Lib.hid (fun y : Later w12 => later_call (x := y) (tenant_walk b m a cap l A2 y.at (HK.out.keep y.below).on.is))
      have S3 := Lib.hid (fun y : Later w12 => later_call (x := y) (reftenant_walk A2 ta l.length tc la4 lc4 y.at (HK.out.keep y.below).acts.row HA260.out))
      have S4 := Lib.hid (fun y : Later w12 => later_call (x := y) (opened_walk b m a cap l A2 y.at (HK.out.keep y.below).on.is))
      have S5 := Lib.hid (fun y : Later w12 => later_call (x := y) (refopened_walk A2 ta l.length tc la4 lc4 y.at (HK.out.keep y.below).acts.row HA260.out))
      refine region_later 22 (by kernel_rfl) (by kernel_rfl) ?_
      simp only [List.take_succ_cons, List.take_zero, List.drop_succ_cons, List.drop_zero]
      repeat (go_big_quiet_step ((first | (with_reducible exact S1.out _) | (with_reducible exact S2.out _) | (with_reducible exact S3.out _) | (with_reducible exact S4.out _) | (with_reducible exact S5.out _))))
      refine wpQuiet_nil ?_
      rintro w' ⟨x, rfl⟩
      have HF2 := Lib.hid (HF.out.below x.below HF.out.lt)
      clear HF
      have HF := HF2
      clear HF2
      have HK2 := Lib.hid (HK.out.keep x.below)
      clear HK
      have HK := HK2
      clear HK2
      clear c0 c1 x0 x1 x2 x3 x4 x5 x6 x7 z0 z1 z2 z3 z4 z5 z6 z7 heq S1 S2 S3 S4 S5 HX HZ
      generalize x.at = w13 at *
      clear x
      go_upto_region 16 with (fail)
      have c0 : ∀ y : Later w13, y.at.cell? ⟨p, 0, none⟩ = some (.slice ta l.length tc) := fun y => y.cell (HK.out.acts.has.cell 0)
      have c1 : ∀ y : Later w13, y.at.cell? ⟨p, 1, none⟩ = some (.slice la4 A2.length lc4) := fun y => y.cell (HK.out.acts.has.cell 1)
      have f1 : ∀ y : Later w13, y.at.cell? ⟨pf, 1, none⟩ = some (.int .i64 fj) := fun y => y.cell (HF.out.cell 1)
      have S1 := Lib.hid (fun y : Later w13 => later_call (x := y) (ended_walk b m a cap l A2 fj y.at (HK.out.keep y.below).on.is HFJ.out))
      have S2 := Lib.hid (fun y : Later w13 => later_call (x := y) (cancelled_walk b m a cap l A2 fj y.at (HK.out.keep y.below).on.is HFJ.out))
      have S3 := Lib.hid (fun y : Later w13 => later_call (x := y) (refhad_walk A2 ta l.length tc la4 lc4 5 fj y.at (HK.out.keep y.below).acts.row HA260.out))
      have S4 := Lib.hid (fun y : Later w13 => later_call (x := y) (refhad_walk A2 ta l.length tc la4 lc4 6 fj y.at (HK.out.keep y.below).acts.row HA260.out))
      generalize Cn.had A2 5 fj = b5 at *
      generalize Cn.had A2 6 fj = b6 at *
      refine region_later 20 (by kernel_rfl) (by kernel_rfl) ?_
      simp only [List.take_succ_cons, List.take_zero, List.drop_succ_cons, List.drop_zero]
      repeat (go_big_quiet_step ((first | (with_reducible exact S1.out _) | (with_reducible exact S2.out _) | (with_reducible exact S3.out _) | (with_reducible exact S4.out _))))
      refine wpQuiet_nil ?_
      rintro w' ⟨x, rfl⟩
      have HK2 := Lib.hid (HK.out.keep x.below)
      clear HK
      have HK := HK2
      clear HK2
      clear c0 c1 f1 S1 S2 S3 S4 HF
      generalize x.at = w14 at *
      clear x
      go_wp2_with fail
      go_roundw
      case rel => exact ⟨A.length + 1, A2, la4, lc4, hlt, by go_num, HA2.out, HK.out⟩
      case measure => rw [hw]; exact large_meas A.length _ hlt
    · have hlt' : ¬ (A.length : Int) < (fs.length : Int) := by omega
      have HA60 := Lib.hid (show A.length ≤ 60 by have := HQ.out; omega)
      go_upto_region 19 with (fail)
      have c0 : ∀ y : Later wr, y.at.cell? ⟨p, 0, none⟩ = some (.slice ta l.length tc) := fun y => y.cell (HK.out.acts.has.cell 0)
      have c1 : ∀ y : Later wr, y.at.cell? ⟨p, 1, none⟩ = some (.slice la A.length lc) := fun y => y.cell (HK.out.acts.has.cell 1)
      have S1 := Lib.hid (fun y : Later wr => later_call (x := y) (tenant_walk b m a cap l A y.at (HK.out.keep y.below).on.is))
      have S2 := Lib.hid (fun y : Later wr => later_call (x := y) (reftenant_walk A ta l.length tc la lc y.at (HK.out.keep y.below).acts.row HA60.out))
      have S3 := Lib.hid (fun y : Later wr => later_call (x := y) (key_walk y.at (HT.out.keep (HK.out.keep y.below).on.below)))
      refine region_later 12 (by kernel_rfl) (by kernel_rfl) ?_
      simp only [List.take_succ_cons, List.take_zero, List.drop_succ_cons, List.drop_zero]
      repeat (go_big_quiet_step ((first | (with_reducible exact S1.out _) | (with_reducible exact S2.out _) | (with_reducible exact S3.out _))))
      refine wpQuiet_nil ?_
      rintro w' ⟨x, rfl⟩
      have HB := Lib.hid (HK.out.keep x.below).on.below
      clear c0 c1 S1 S2 S3 HK
      generalize x.at = w14 at *
      go_wp2
      go_ret
      exact ⟨rfl, HB.out⟩
end Go.Proofs.YtajalllecoclcaaDoor
namespace Go.Proofs.YtajalllecoclcaaDoor
open Go.RowKit
set_option linter.unusedVariables false
set_option linter.unusedSimpArgs false

set_option maxRecDepth 100000 in
set_option maxHeartbeats 1000000 in
theorem steps_no (l : List Tn.Ten) (ta : Option Addr) (tc : Nat) (fs : List Fr.Frm) (fa : Option Addr) (fc : Nat) (w : World) (hrt : RowS w 5 ta l.length tc (l.flatMap tncells)) (hfr : RowS w 3 fa fs.length fc (fs.flatMap cfcells)) (hl : l.length ≤ 1000) (hz : tnSmall l) (hT : Tabs w) (hlg : Cn.large l fs = false) (hck : (Tn.check l).2 ≠ 0) :
    Calls Tryd.prog 6 #[.slice ta l.length tc, .slice fa fs.length fc] w fun r w' => r = .returned (.bool true) ∧ Below w.heap.size w w' := by
  have HRT := Lib.hid hrt
  have HT := Lib.hid hT
  have HLG := Lib.hid (large36_walk l ta l.length tc fs fa fs.length fc w rfl hrt rfl hfr)
  rw [hlg] at HLG
  have HNEW := Lib.hid (fun w1 (hb : Below w.heap.size w w1) => new_no l ta l.length tc w1 rfl (hrt.keep hb) hl hz (hT.keep hb) hck)
  have HRC := Lib.hid (fun w hrt => refcheck_walk l ta l.length tc w rfl hrt hl hz)
  have hne : ((Tn.check l).2 != 0) = true := by simpa using hck
  generalize (Tn.check l).1 = ck at *
  generalize (Tn.check l).2 = ce at *
  clear hrt hfr hT hl hz hlg hck
  go_enter Tryd.func6, Tryd.ntmps6
  go_wp2_with fail
  (with_reducible refine (HLG.out).mono ?_)
  rintro r1 w1 ⟨rfl, hb1⟩
  have HB1 := Lib.hid hb1
  clear hb1 HLG
  go_wp2_with fail
  with_reducible refine (HNEW.out _ HB1.out).mono ?_
  rintro r2 w2 ⟨rfl, hb2⟩
  have HB2 := Lib.hid (HB1.out.trans (hb2.mono HB1.out.size))
  clear hb2 HB1 HNEW
  go_wp2_with fail
  with_reducible refine (HRC.out _ (HRT.out.keep HB2.out)).mono ?_
  rintro r3 w3 ⟨rfl, hb3⟩
  have HB3 := Lib.hid (HB2.out.trans (hb3.mono HB2.out.size))
  clear hb3 HB2 HRC
  go_upto_region 5 with (fail)
  have HB4 := Lib.hid (HB3.out.alloc HB3.out.size (.cells #[.int .i64 ck, .int .i64 ce] 53))
  have HC := Lib.hid (Has.new w3 #[.int .i64 ck, .int .i64 ce] 53)
  clear HB3
  generalize w3.alloc (.cells #[.int .i64 ck, .int .i64 ce] 53) = w4 at *
  have c0 := HC.out.cell 0; have c1 := HC.out.cell 1
  simp only [List.getElem?_toArray, List.getElem?_cons_zero, List.getElem?_cons_succ] at c0 c1
  go_wp2_with fail
  clear c0 c1 HC
  with_reducible refine (key_walk _ (HT.out.keep HB4.out)).mono ?_
  rintro r6 w6 ⟨rfl, hb6⟩
  have HB6 := Lib.hid (HB4.out.trans (hb6.mono HB4.out.size))
  clear hb6
  go_wp2
  go_ret
  exact ⟨rfl, HB6.out⟩
set_option maxRecDepth 100000 in
set_option maxHeartbeats 1000000 in
theorem connSteps_walk (l : List Tn.Ten) (ta : Option Addr) (len tc : Nat) (fs : List Fr.Frm) (fa : Option Addr) (flen fc : Nat) (w : World) (hlen : l.length = len) (hrt : RowS w 5 ta len tc (l.flatMap tncells)) (_ : ∀ x ∈ l, x.name.size ≤ maxLen ∧ x.tok.size ≤ maxLen) (hfl : fs.length = flen) (hfr : RowS w 3 fa flen fc (fs.flatMap cfcells)) (hj : ∀ x ∈ fs, I64 x.j ∧ x.d.size ≤ maxLen) (hT : Tabs w) :
    Calls Tryd.prog 6 #[.slice ta len tc, .slice fa flen fc] w fun r w' => r = .returned (.bool true) ∧ Below w.heap.size w w' := by
  subst hlen hfl
  cases hg : Cn.large l fs with
  | false =>
    obtain ⟨h20, h60, h150, _⟩ := Cn.large_not _ _ hg
    have hz : tnSmall l := fun x hx => by have := h150 x hx; omega
    by_cases hc : (Tn.check l).2 = 0
    · exact steps_yes l ta tc fs fa fc w hrt hfr (fun x hx => (hj x hx).1) (by omega) hz h60 hT hg hc
    · exact steps_no l ta tc fs fa fc w hrt hfr (by omega) hz hT hg hc
  | true =>
    have HT := Lib.hid hT
    have HLG := Lib.hid (large36_walk l ta l.length tc fs fa fs.length fc w rfl hrt rfl hfr)
    rw [hg] at HLG
    clear hg hfr hrt hT hj
    go_enter Tryd.func6, Tryd.ntmps6
    go_wp2_with fail
    (with_reducible refine (HLG.out).mono ?_)
    rintro r1 w1 ⟨rfl, hb1⟩
    have HB1 := Lib.hid hb1
    clear hb1 HLG
    go_wp2_with fail
    with_reducible refine (key_walk _ (HT.out.keep HB1.out)).mono ?_
    rintro r6 w6 ⟨rfl, hb6⟩
    have HB6 := Lib.hid (HB1.out.trans (hb6.mono HB1.out.size))
    clear hb6
    go_wp2
    go_ret
    exact ⟨rfl, HB6.out⟩
end Go.Proofs.YtajalllecoclcaaDoor
