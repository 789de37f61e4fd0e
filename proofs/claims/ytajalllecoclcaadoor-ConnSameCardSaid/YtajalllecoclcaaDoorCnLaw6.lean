/- Two connections, the steps of which are mixed. -/
import Derived.Test.YtajalllecoclcaaDoorCnRef5
namespace Go.Proofs.YtajalllecoclcaaDoor
open Go.RowKit
set_option linter.unusedVariables false
set_option linter.unusedSimpArgs false

namespace Cn
/-- how far one of the two has come -/
structure Half (l : List Tn.Ten) (fs : List Fr.Frm) (P X : List Act) (i : Nat) : Prop where
  len : X.length = min i fs.length
  run : runs l X (fs.drop i) = P
theorem Half.zero (l : List Tn.Ten) (fs : List Fr.Frm) : Half l fs (runs l [] fs) [] 0 := ⟨by simp, by rw [List.drop_zero]⟩
theorem Half.get {l : List Tn.Ten} {fs : List Fr.Frm} {P X : List Act} {i : Nat} (h : Half l fs P X i) (hlt : i < fs.length) : ∃ hl : i < P.length, P[i] = step l X fs[i] :=
  runs_get l X P fs i hlt (by have := h.len; omega) h.run
theorem Half.next {l : List Tn.Ten} {fs : List Fr.Frm} {P X : List Act} {i : Nat} (h : Half l fs P X i) (hlt : i < fs.length) : Half l fs P (X ++ [step l X fs[i]]) (i + 1) :=
  ⟨by have := h.len; rw [List.length_append, List.length_singleton]; omega, by rw [← runs_at l X fs i hlt]; exact h.run⟩
theorem Half.stay {l : List Tn.Ten} {fs : List Fr.Frm} {P X : List Act} {i : Nat} (h : Half l fs P X i) (hlt : ¬ i < fs.length) : Half l fs P X (i + 1) :=
  ⟨by have := h.len; omega, by rw [runs_end l X fs _ (by omega)]; have := h.run; rw [runs_end l X fs _ (by omega)] at this; exact this⟩
end Cn
/-- acts that stay as they are -/
structure Kept36 (w : World) (B p : Nat) (ta : Option Addr) (tl tc : Nat) (A : List Cn.Act) (la : Option Addr) (lc : Nat) : Prop where
  has : Has w p #[.slice ta tl tc, .slice la A.length lc] 33
  row : RowS w 8 la A.length lc (A.flatMap accells)
  far : ∀ y, la = some y → B ≤ y.block
  ge : B ≤ p
theorem Kept36.keep {w w' : World} {B p : Nat} {ta : Option Addr} {tl tc : Nat} {A : List Cn.Act} {la : Option Addr} {lc : Nat} (h : Kept36 w B p ta tl tc A la lc) (k : Below w.heap.size w w') : Kept36 w' B p ta tl tc A la lc :=
  ⟨h.has.below k h.has.lt, h.row.keep k, h.far, h.ge⟩
theorem Kept36.chg {w w' : World} {B p : Nat} {ta : Option Addr} {tl tc : Nat} {A : List Cn.Act} {la : Option Addr} {lc : Nat} {S : List Nat} (h : Kept36 w B p ta tl tc A la lc) (k : Chg S w w') (hS : ∀ x ∈ S, x < B) : Kept36 w' B p ta tl tc A la lc :=
  ⟨h.has.chg k (fun hp => by have := hS _ hp; have := h.ge; omega), h.row.chg k (fun y hy hm => by have := h.far y hy; have := hS _ hm; omega), h.far, h.ge⟩
/-- two connections that share nothing -/
structure Two (w0 w : World) (B b m : Nat) (a : Option Addr) (cap : Nat) (X : List Cn.Act) (b' m' : Nat) (a' : Option Addr) (cap' : Nat) (Y : List Cn.Act) (l : List Tn.Ten) : Prop where
  x : On w0 w b m a cap l X
  y : On w0 w b' m' a' cap' l Y
  b1 : b' ≠ b ∧ b' ≠ m ∧ m' ≠ b ∧ m' ≠ m
  ax : ∀ v, a = some v → v.block ≠ b' ∧ v.block ≠ m'
  ay : ∀ v, a' = some v → v.block ≠ b ∧ v.block ≠ m
  lo : b < B ∧ m < B ∧ b' < B ∧ m' < B
section
variable {w0 w w' : World} {B b m : Nat} {a : Option Addr} {cap : Nat} {X : List Cn.Act} {b' m' : Nat} {a' : Option Addr} {cap' : Nat} {Y : List Cn.Act} {l : List Tn.Ten}
theorem Two.keep (h : Two w0 w B b m a cap X b' m' a' cap' Y l) (k : Below w.heap.size w w') : Two w0 w' B b m a cap X b' m' a' cap' Y l :=
  ⟨h.x.keep k, h.y.keep k, h.b1, h.ax, h.ay, h.lo⟩
theorem On.chg36 {L : List Cn.Act} {S : List Nat} (h : On w0 w b m a cap l L) (k : Chg S w w') (hb : b ∉ S) (hm : m ∉ S) (ha : ∀ x, a = some x → x.block ∉ S) (hS : ∀ z ∈ S, w0.heap.size ≤ z) : On w0 w' b m a cap l L :=
  ⟨h.is.chg k hb hm ha, below_of_chg h.below h.below.size k hS, h.fresh⟩
theorem Two.stepx {s : Cn.Act} (h : Two w0 w B b m a cap X b' m' a' cap' Y l) (o : On w0 w' b m a cap l (X ++ [s])) (k : Chg [b, m] w w') : Two w0 w' B b m a cap (X ++ [s]) b' m' a' cap' Y l :=
  ⟨o, h.y.chg36 k (by have := h.b1; simp; omega) (by have := h.b1; simp; omega) (fun v hv => by have := h.ay v hv; simp; omega) (fun z hz => by
    simp only [List.mem_cons, List.not_mem_nil, or_false] at hz
    rcases hz with rfl | rfl
    · exact h.x.fresh.b
    · exact h.x.fresh.m), h.b1, h.ax, h.ay, h.lo⟩
theorem Two.stepy {s : Cn.Act} (h : Two w0 w B b m a cap X b' m' a' cap' Y l) (o : On w0 w' b' m' a' cap' l (Y ++ [s])) (k : Chg [b', m'] w w') : Two w0 w' B b m a cap X b' m' a' cap' (Y ++ [s]) l :=
  ⟨h.x.chg36 k (by have := h.b1; simp; omega) (by have := h.b1; simp; omega) (fun v hv => by have := h.ax v hv; simp; omega) (fun z hz => by
    simp only [List.mem_cons, List.not_mem_nil, or_false] at hz
    rcases hz with rfl | rfl
    · exact h.y.fresh.b
    · exact h.y.fresh.m), o, h.b1, h.ax, h.ay, h.lo⟩
theorem Two.lowx (h : Two w0 w B b m a cap X b' m' a' cap' Y l) : ∀ z ∈ [b, m], z < B := fun z hz => by
  have := h.lo
  simp only [List.mem_cons, List.not_mem_nil, or_false] at hz
  omega
theorem Two.lowy (h : Two w0 w B b m a cap X b' m' a' cap' Y l) : ∀ z ∈ [b', m'], z < B := fun z hz => by
  have := h.lo
  simp only [List.mem_cons, List.not_mem_nil, or_false] at hz
  omega
end
theorem eq_actS (X : Cn.Act) (w : World) : (binOp .neq 44 (.agg #[.int .i64 X.what, .int .i64 X.job, .int .i64 X.ten, .int .i64 X.kind, .int .i64 X.lev, .int .i64 X.n, .string X.txt, .int .i64 X.err]) (.agg #[.int .i64 X.what, .int .i64 X.job, .int .i64 X.ten, .int .i64 X.kind, .int .i64 X.lev, .int .i64 X.n, .string X.txt, .int .i64 X.err])).run Tryd.prog w = .ok (.bool false) w := by
  have hfs : Tryd.prog.underlying 44 = some (.struct (Tryd.prog.fieldsOf 44)) := by kernel_rfl
  rw [run_neq_struct, run_equalIn_struct w 9999 _ _ _ hfs (by kernel_rfl)]
  clear hfs
  go_simp
theorem refall_little (ta : Option Addr) (tc : Nat) (fs : List Fr.Frm) (fa : Option Addr) (fc : Nat) (w : World) (hrt : RowS w 5 ta 1 tc ([Cn.annT].flatMap tncells)) (hfr : RowS w 3 fa fs.length fc (fs.flatMap cfcells)) (h60 : fs.length ≤ 60) :
    Calls Tryd.prog 12 #[.slice ta 1 tc, .slice fa fs.length fc] w fun r w' =>
      ∃ la lc, r = .returned (.agg #[.slice ta 1 tc, .slice la (Cn.runs [Cn.annT] [] fs).length lc]) ∧ RowS w' 8 la (Cn.runs [Cn.annT] [] fs).length lc ((Cn.runs [Cn.annT] [] fs).flatMap accells) ∧ (∀ y, la = some y → w.heap.size ≤ y.block) ∧ Below w.heap.size w w' :=
  refall36_walk [Cn.annT] ta tc fs fa fc w hrt hfr (by decide) h60
theorem same_max (p q : Nat) : max (p : Int) (q : Int) = ((max p q : Nat) : Int) := by omega
theorem same_wrap (i p q : Nat) (hp : p ≤ 60) (hq : q ≤ 60) (h : i < max p q) : wrap64 ((i : Int) + 1) = (i : Int) + 1 := by unfold wrap64; omega
set_option maxRecDepth 100000 in
set_option maxHeartbeats 4000000 in
theorem same_walk (fs : List Fr.Frm) (fa : Option Addr) (fc : Nat) (gs : List Fr.Frm) (ga : Option Addr) (gc : Nat) (w : World) (hfr : RowS w 3 fa fs.length fc (fs.flatMap cfcells)) (hgr : RowS w 3 ga gs.length gc (gs.flatMap cfcells)) (hf60 : fs.length ≤ 60) (hg60 : gs.length ≤ 60) (hT : Tabs w) (hlf : Cn.large [] fs = false) (hlg : Cn.large [] gs = false) :
    Calls Tryd.prog 3 #[.slice fa fs.length fc, .slice ga gs.length gc] w fun r w' => r = .returned (.bool true) ∧ Below w.heap.size w w' := by
  have HT := Lib.hid hT
  have HF := Lib.hid hfr
  have HG := Lib.hid hgr
  have HLF := Lib.hid (fun w hfr => large36_walk [] none 0 0 fs fa fs.length fc w rfl ⟨Nat.le_refl _, Nat.zero_le _, rfl, fun _ => ⟨rfl, rfl⟩, (fun x hx => nomatch hx)⟩ rfl hfr)
  have HLG := Lib.hid (fun w hgr => large36_walk [] none 0 0 gs ga gs.length gc w rfl ⟨Nat.le_refl _, Nat.zero_le _, rfl, fun _ => ⟨rfl, rfl⟩, (fun x hx => nomatch hx)⟩ rfl hgr)
  rw [hlf] at HLF
  rw [hlg] at HLG
  have HN := Lib.hid (And.intro hf60 hg60)
  have HGX0 := Lib.hid (Cn.Half.zero [Cn.annT] fs)
  have HGY0 := Lib.hid (Cn.Half.zero [Cn.annT] gs)
  have HAF := Lib.hid (fun ta tc w hrt hfr => refall_little ta tc fs fa fc w hrt hfr hf60)
  have HAG := Lib.hid (fun ta tc w hrt hgr => refall_little ta tc gs ga gc w hrt hgr hg60)
  generalize Cn.runs [Cn.annT] [] fs = P at *
  generalize Cn.runs [Cn.annT] [] gs = Q at *
  have hmax := same_max fs.length gs.length
  clear hT hfr hgr hf60 hg60 hlf hlg
  go_enter Tryd.func3, Tryd.ntmps3
  go_wp2_with fail
  (with_reducible refine (HLF.out _ HF.out).mono ?_)
  rintro r1 w1 ⟨rfl, hb1⟩
  have HB1 := Lib.hid hb1
  clear hb1 HLF
  go_wp2_with fail
  with_reducible refine (HLG.out _ (HG.out.keep HB1.out)).mono ?_
  rintro r2 w2 ⟨rfl, hb2⟩
  have HB2 := Lib.hid (HB1.out.trans (hb2.mono HB1.out.size))
  clear hb2 HB1 HLG
  go_wp2_with fail
  with_reducible refine (little_walk _).mono ?_
  rintro r3 w3 ⟨a3, cap3, rfl, hr3, hb3⟩
  have HR3 := Lib.hid hr3
  have HB3 := Lib.hid (HB2.out.trans (hb3.mono HB2.out.size))
  clear hr3 hb3 HB2
  go_wp2_with fail
  (with_reducible refine (new_on w _ _ _ HB3.out HR3.out HT.out).mono ?_)
  rintro r4 w4 ⟨b, m, a, cap, rfl, ho, -, -⟩
  have HX0 := Lib.hid ho
  have HLX := Lib.hid ho.is.low
  clear ho HB3 HR3
  go_wp2_with fail
  with_reducible refine (little_walk _).mono ?_
  rintro r5 w5 ⟨a5, cap5, rfl, hr5, hb5⟩
  have HR5 := Lib.hid hr5
  have HX5 := Lib.hid (HX0.out.keep hb5)
  have HS5 := Lib.hid hb5.size
  clear hr5 hb5 HX0
  go_wp2_with fail
  (with_reducible refine (new_on w _ _ _ HX5.out.below HR5.out HT.out).mono ?_)
  rintro r6 w6 ⟨b', m', a', cap', rfl, hoy, hfy, hb6⟩
  have HW0 := Lib.hid (show Two w w6 w6.heap.size b m a cap [] b' m' a' cap' [] [Cn.annT] from by
    have l1 := HLX.out.b; have l2 := HLX.out.m; have s5 := HS5.out
    have f1 := hfy.b; have f2 := hfy.m
    have t1 := hoy.is.low.b; have t2 := hoy.is.low.m
    refine ⟨HX5.out.keep hb6, hoy, by omega, fun v hv => ?_, fun v hv => ?_, by omega⟩
    · have := HLX.out.row v hv; omega
    · have := hfy.row v hv; omega)
  clear hoy hfy hb6 HX5 HR5 HLX HS5
  generalize hBd : w6.heap.size = B at HW0
  have HBB := Lib.hid (show B ≤ w6.heap.size by omega)
  clear hBd
  go_wp2_with fail
  with_reducible refine (little_walk _).mono ?_
  rintro r7 w7 ⟨a7, cap7, rfl, hr7, hb7⟩
  have HR7 := Lib.hid hr7
  have HW := Lib.hid (HW0.out.keep hb7)
  have HB7 := Lib.hid (Nat.le_trans HBB.out hb7.size)
  clear hr7 hb7 HW0 HBB
  go_wp2_with fail
  (with_reducible refine (HAF.out _ _ _ HR7.out (HF.out.keep HW.out.x.below)).mono ?_)
  rintro r8 w8 ⟨pa, pc, rfl, hr8, hf8, hb8⟩
  have HR8 := Lib.hid hr8
  have HF8 := Lib.hid (fun y hy => Nat.le_trans HB7.out (hf8 y hy))
  have HW2 := Lib.hid (HW.out.keep hb8)
  clear HW
  have HW := HW2
  clear HW2
  have HB8 := Lib.hid (Nat.le_trans HB7.out hb8.size)
  clear hr8 hf8 hb8 HB7 HR7 HAF
  go_upto_region 6 with (fail)
  have HP := Lib.hid (show Kept36 (w8.alloc (.cells #[.slice a7 1 cap7, .slice pa P.length pc] 33)) B w8.heap.size a7 1 cap7 P pa pc from ⟨Has.new w8 _ _, HR8.out.keep ((Below.refl _ w8).alloc (Nat.le_refl _) _), HF8.out, HB8.out⟩)
  have HW2 := Lib.hid (HW.out.keep ((Below.refl _ w8).alloc (Nat.le_refl _) (.cells #[.slice a7 1 cap7, .slice pa P.length pc] 33)))
  clear HW
  have HW := HW2
  clear HW2
  have HB9 := Lib.hid (Nat.le_trans HB8.out ((Below.refl _ w8).alloc (Nat.le_refl _) (.cells #[.slice a7 1 cap7, .slice pa P.length pc] 33)).size)
  clear HB8 HR8 HF8
  generalize w8.alloc (.cells #[.slice a7 1 cap7, .slice pa P.length pc] 33) = w9 at *
  generalize w8.heap.size = pb at *
  go_wp2_with fail
  with_reducible refine (little_walk _).mono ?_
  rintro r10 w10 ⟨a8, cap8, rfl, hr7, hb7⟩
  have HR7 := Lib.hid hr7
  have HW2 := Lib.hid (HW.out.keep hb7)
  clear HW
  have HW := HW2
  clear HW2
  have HP2 := Lib.hid (HP.out.keep hb7)
  clear HP
  have HP := HP2
  clear HP2
  have HB7 := Lib.hid (Nat.le_trans HB9.out hb7.size)
  clear hr7 hb7 HB9
  go_wp2_with fail
  (with_reducible refine (HAG.out _ _ _ HR7.out (HG.out.keep HW.out.x.below)).mono ?_)
  rintro r11 w11 ⟨qa, qc, rfl, hr8, hf8, hb8⟩
  have HR8 := Lib.hid hr8
  have HF8 := Lib.hid (fun y hy => Nat.le_trans HB7.out (hf8 y hy))
  have HW2 := Lib.hid (HW.out.keep hb8)
  clear HW
  have HW := HW2
  clear HW2
  have HP2 := Lib.hid (HP.out.keep hb8)
  clear HP
  have HP := HP2
  clear HP2
  have HB8 := Lib.hid (Nat.le_trans HB7.out hb8.size)
  clear hr8 hf8 hb8 HB7 HR7 HAG
  go_upto_region 7 with (fail)
  have HQ := Lib.hid (show Kept36 (w11.alloc (.cells #[.slice a8 1 cap8, .slice qa Q.length qc] 33)) B w11.heap.size a8 1 cap8 Q qa qc from ⟨Has.new w11 _ _, HR8.out.keep ((Below.refl _ w11).alloc (Nat.le_refl _) _), HF8.out, HB8.out⟩)
  have HW2 := Lib.hid (HW.out.keep ((Below.refl _ w11).alloc (Nat.le_refl _) (.cells #[.slice a8 1 cap8, .slice qa Q.length qc] 33)))
  clear HW
  have HW := HW2
  clear HW2
  have HP2 := Lib.hid (HP.out.keep ((Below.refl _ w11).alloc (Nat.le_refl _) (.cells #[.slice a8 1 cap8, .slice qa Q.length qc] 33)))
  clear HP
  have HP := HP2
  clear HP2
  clear HB8 HR8 HF8
  generalize w11.alloc (.cells #[.slice a8 1 cap8, .slice qa Q.length qc] 33) = w12 at *
  generalize w11.heap.size = qb at *
  go_wp2_with fail
  clear hmax
  go_loopw [44] (fun vi wr => ∃ (i : Nat) (X Y : List Cn.Act), i ≤ max fs.length gs.length ∧ vi = .int .i64 i ∧ Cn.Half [Cn.annT] fs P X i ∧ Cn.Half [Cn.annT] gs Q Y i ∧ Two w wr B b m a cap X b' m' a' cap' Y [Cn.annT] ∧ Kept36 wr B pb a7 1 cap7 P pa pc ∧ Kept36 wr B qb a8 1 cap8 Q qa qc) (fun i _ => max fs.length gs.length - (intOf i).toNat)
  case atStart => exact ⟨0, [], [], Nat.zero_le _, rfl, HGX0.out, HGY0.out, HW.out, HP.out, HQ.out⟩
  case round =>
    obtain ⟨i, X, Y, hi, rfl, hgx, hgy, hw2, hp2, hq2⟩ := hrel
    clear HGX0 HGY0 HW HP HQ
    have HGX := Lib.hid hgx
    have HGY := Lib.hid hgy
    have HW := Lib.hid hw2
    have HP := Lib.hid hp2
    have HQ := Lib.hid hq2
    clear hgx hgy hw2 hp2 hq2
    by_cases hlt : i < max fs.length gs.length
    · have hlt' : (i : Int) < ((max fs.length gs.length : Nat) : Int) := by omega
      have hw := same_wrap i _ _ HN.out.1 HN.out.2 hlt
      by_cases hgo : i < fs.length
      · have hgo' : (i : Int) < (fs.length : Int) := by omega
        have hfit := HGX.out.get hgo
        have hnx := HGX.out.next hgo
        obtain ⟨hpl, hpg⟩ := hfit
        have hpl' : (i : Int) < (P.length : Int) := by omega
        obtain ⟨fb, off, rfl, hb, a0, a1, a2⟩ := (HF.out.keep HW.out.x.below).frm i hgo hgo
        generalize fs[i] = f at *
        obtain ⟨ft, fj, fd⟩ := f
        simp only at a0 a1 a2
        go_wp2_with fail
        with_reducible refine (step_on ft fj fd HW.out.x (by decide) ann_small HT.out _ rfl).mono ?_
        generalize Cn.step [Cn.annT] X ⟨ft, fj, fd⟩ = S at *
        rintro r7 w14 ⟨rfl, ho7, hc7⟩
        have HNX := Lib.hid hnx
        have HPG := Lib.hid hpg
        have HP2 := Lib.hid (HP.out.chg hc7 HW.out.lowx)
        clear HP
        have HP := HP2
        clear HP2
        have HQ2 := Lib.hid (HQ.out.chg hc7 HW.out.lowx)
        clear HQ
        have HQ := HQ2
        clear HQ2
        have HW2 := Lib.hid (HW.out.stepx ho7 hc7)
        clear HW
        have HW := HW2
        clear HW2
        clear ho7 hc7 a0 a1 a2 hb hnx hpg HGX
        have HGX := HNX
        clear HNX
        go_upto_region 12 with (fail)
        have HB8 := Lib.hid ((Below.refl _ w14).alloc (Nat.le_refl _) (.cells #[.int .i64 S.what, .int .i64 S.job, .int .i64 S.ten, .int .i64 S.kind, .int .i64 S.lev, .int .i64 S.n, .string S.txt, .int .i64 S.err] 38))
        have HX := Lib.hid (Has.new w14 #[.int .i64 S.what, .int .i64 S.job, .int .i64 S.ten, .int .i64 S.kind, .int .i64 S.lev, .int .i64 S.n, .string S.txt, .int .i64 S.err] 38)
        have HP2 := Lib.hid (HP.out.keep HB8.out)
        clear HP
        have HP := HP2
        clear HP2
        have HQ2 := Lib.hid (HQ.out.keep HB8.out)
        clear HQ
        have HQ := HQ2
        clear HQ2
        have HW2 := Lib.hid (HW.out.keep HB8.out)
        clear HW
        have HW := HW2
        clear HW2
        clear HB8
        generalize w14.alloc (.cells #[.int .i64 S.what, .int .i64 S.job, .int .i64 S.ten, .int .i64 S.kind, .int .i64 S.lev, .int .i64 S.n, .string S.txt, .int .i64 S.err] 38) = w15 at *
        generalize w14.heap.size = px at *
        obtain ⟨rb, roff, rfl, hrb, d0, d1, d2, d3, d4, d5, d6, d7⟩ := HP.out.row.act i hpl hpl
        rw [HPG.out] at d0 d1 d2 d3 d4 d5 d6 d7
        have c1 : ∀ y : Later w15, y.at.cell? ⟨pb, 1, none⟩ = some (.slice (some ⟨rb, roff, none⟩) P.length pc) := fun y => y.cell (HP.out.has.cell 1)
        have z0 := fun y : Later w15 => y.cell d0
        have z1 := fun y : Later w15 => y.cell d1
        have z2 := fun y : Later w15 => y.cell d2
        have z3 := fun y : Later w15 => y.cell d3
        have z4 := fun y : Later w15 => y.cell d4
        have z5 := fun y : Later w15 => y.cell d5
        have z6 := fun y : Later w15 => y.cell d6
        have z7 := fun y : Later w15 => y.cell d7
        have x0 : ∀ y : Later w15, y.at.cell? ⟨px, 0, none⟩ = some (.int .i64 S.what) := fun y => y.cell (HX.out.cell 0)
        have x1 : ∀ y : Later w15, y.at.cell? ⟨px, 1, none⟩ = some (.int .i64 S.job) := fun y => y.cell (HX.out.cell 1)
        have x2 : ∀ y : Later w15, y.at.cell? ⟨px, 2, none⟩ = some (.int .i64 S.ten) := fun y => y.cell (HX.out.cell 2)
        have x3 : ∀ y : Later w15, y.at.cell? ⟨px, 3, none⟩ = some (.int .i64 S.kind) := fun y => y.cell (HX.out.cell 3)
        have x4 : ∀ y : Later w15, y.at.cell? ⟨px, 4, none⟩ = some (.int .i64 S.lev) := fun y => y.cell (HX.out.cell 4)
        have x5 : ∀ y : Later w15, y.at.cell? ⟨px, 5, none⟩ = some (.int .i64 S.n) := fun y => y.cell (HX.out.cell 5)
        have x6 : ∀ y : Later w15, y.at.cell? ⟨px, 6, none⟩ = some (.string S.txt) := fun y => y.cell (HX.out.cell 6)
        have x7 : ∀ y : Later w15, y.at.cell? ⟨px, 7, none⟩ = some (.int .i64 S.err) := fun y => y.cell (HX.out.cell 7)
        have heq := eq_actS S
        have S1 := Lib.hid (fun y : Later w15 => later_call (x := y) (actref_walk S y.at))
        clear d0 d1 d2 d3 d4 d5 d6 d7 HPG hrb
        refine region_later 12 (by kernel_rfl) (by kernel_rfl) ?_
        simp only [List.take_succ_cons, List.take_zero, List.drop_succ_cons, List.drop_zero]
        repeat (go_big_quiet_step ((with_reducible exact S1.out _)))
        refine wpQuiet_nil ?_
        rintro w' ⟨x, rfl⟩
        have HP2 := Lib.hid (HP.out.keep x.below)
        clear HP
        have HP := HP2
        clear HP2
        have HQ2 := Lib.hid (HQ.out.keep x.below)
        clear HQ
        have HQ := HQ2
        clear HQ2
        have HW2 := Lib.hid (HW.out.keep x.below)
        clear HW
        have HW := HW2
        clear HW2
        clear c1 x0 x1 x2 x3 x4 x5 x6 x7 z0 z1 z2 z3 z4 z5 z6 z7 heq S1 HX hpl hpl'
        generalize x.at = w16 at *
        clear x
        go_upto_region 14 with (fail)
        clear hgo hgo'
        by_cases hgo : i < gs.length
        · have hgo' : (i : Int) < (gs.length : Int) := by omega
          have hfit := HGY.out.get hgo
          have hnx := HGY.out.next hgo
          obtain ⟨hpl, hpg⟩ := hfit
          have hpl' : (i : Int) < (Q.length : Int) := by omega
          obtain ⟨fb, off, rfl, hb, a0, a1, a2⟩ := (HG.out.keep HW.out.x.below).frm i hgo hgo
          generalize gs[i] = f at *
          obtain ⟨ft, fj, fd⟩ := f
          simp only at a0 a1 a2
          go_wp2_with fail
          with_reducible refine (step_on ft fj fd HW.out.y (by decide) ann_small HT.out _ rfl).mono ?_
          generalize Cn.step [Cn.annT] Y ⟨ft, fj, fd⟩ = S at *
          rintro r7 w17 ⟨rfl, ho7, hc7⟩
          have HNX := Lib.hid hnx
          have HPG := Lib.hid hpg
          have HP2 := Lib.hid (HP.out.chg hc7 HW.out.lowy)
          clear HP
          have HP := HP2
          clear HP2
          have HQ2 := Lib.hid (HQ.out.chg hc7 HW.out.lowy)
          clear HQ
          have HQ := HQ2
          clear HQ2
          have HW2 := Lib.hid (HW.out.stepy ho7 hc7)
          clear HW
          have HW := HW2
          clear HW2
          clear ho7 hc7 a0 a1 a2 hb hnx hpg HGY
          have HGY := HNX
          clear HNX
          go_upto_region 16 with (fail)
          have HB8 := Lib.hid ((Below.refl _ w17).alloc (Nat.le_refl _) (.cells #[.int .i64 S.what, .int .i64 S.job, .int .i64 S.ten, .int .i64 S.kind, .int .i64 S.lev, .int .i64 S.n, .string S.txt, .int .i64 S.err] 38))
          have HX := Lib.hid (Has.new w17 #[.int .i64 S.what, .int .i64 S.job, .int .i64 S.ten, .int .i64 S.kind, .int .i64 S.lev, .int .i64 S.n, .string S.txt, .int .i64 S.err] 38)
          have HP2 := Lib.hid (HP.out.keep HB8.out)
          clear HP
          have HP := HP2
          clear HP2
          have HQ2 := Lib.hid (HQ.out.keep HB8.out)
          clear HQ
          have HQ := HQ2
          clear HQ2
          have HW2 := Lib.hid (HW.out.keep HB8.out)
          clear HW
          have HW := HW2
          clear HW2
          clear HB8
          generalize w17.alloc (.cells #[.int .i64 S.what, .int .i64 S.job, .int .i64 S.ten, .int .i64 S.kind, .int .i64 S.lev, .int .i64 S.n, .string S.txt, .int .i64 S.err] 38) = w18 at *
          generalize w17.heap.size = py at *
          obtain ⟨rb, roff, rfl, hrb, d0, d1, d2, d3, d4, d5, d6, d7⟩ := HQ.out.row.act i hpl hpl
          rw [HPG.out] at d0 d1 d2 d3 d4 d5 d6 d7
          have c1 : ∀ y : Later w18, y.at.cell? ⟨qb, 1, none⟩ = some (.slice (some ⟨rb, roff, none⟩) Q.length qc) := fun y => y.cell (HQ.out.has.cell 1)
          have z0 := fun y : Later w18 => y.cell d0
          have z1 := fun y : Later w18 => y.cell d1
          have z2 := fun y : Later w18 => y.cell d2
          have z3 := fun y : Later w18 => y.cell d3
          have z4 := fun y : Later w18 => y.cell d4
          have z5 := fun y : Later w18 => y.cell d5
          have z6 := fun y : Later w18 => y.cell d6
          have z7 := fun y : Later w18 => y.cell d7
          have x0 : ∀ y : Later w18, y.at.cell? ⟨py, 0, none⟩ = some (.int .i64 S.what) := fun y => y.cell (HX.out.cell 0)
          have x1 : ∀ y : Later w18, y.at.cell? ⟨py, 1, none⟩ = some (.int .i64 S.job) := fun y => y.cell (HX.out.cell 1)
          have x2 : ∀ y : Later w18, y.at.cell? ⟨py, 2, none⟩ = some (.int .i64 S.ten) := fun y => y.cell (HX.out.cell 2)
          have x3 : ∀ y : Later w18, y.at.cell? ⟨py, 3, none⟩ = some (.int .i64 S.kind) := fun y => y.cell (HX.out.cell 3)
          have x4 : ∀ y : Later w18, y.at.cell? ⟨py, 4, none⟩ = some (.int .i64 S.lev) := fun y => y.cell (HX.out.cell 4)
          have x5 : ∀ y : Later w18, y.at.cell? ⟨py, 5, none⟩ = some (.int .i64 S.n) := fun y => y.cell (HX.out.cell 5)
          have x6 : ∀ y : Later w18, y.at.cell? ⟨py, 6, none⟩ = some (.string S.txt) := fun y => y.cell (HX.out.cell 6)
          have x7 : ∀ y : Later w18, y.at.cell? ⟨py, 7, none⟩ = some (.int .i64 S.err) := fun y => y.cell (HX.out.cell 7)
          have heq := eq_actS S
          have S1 := Lib.hid (fun y : Later w18 => later_call (x := y) (actref_walk S y.at))
          clear d0 d1 d2 d3 d4 d5 d6 d7 HPG hrb
          refine region_later 12 (by kernel_rfl) (by kernel_rfl) ?_
          simp only [List.take_succ_cons, List.take_zero, List.drop_succ_cons, List.drop_zero]
          repeat (go_big_quiet_step ((with_reducible exact S1.out _)))
          refine wpQuiet_nil ?_
          rintro w' ⟨x, rfl⟩
          have HP2 := Lib.hid (HP.out.keep x.below)
          clear HP
          have HP := HP2
          clear HP2
          have HQ2 := Lib.hid (HQ.out.keep x.below)
          clear HQ
          have HQ := HQ2
          clear HQ2
          have HW2 := Lib.hid (HW.out.keep x.below)
          clear HW
          have HW := HW2
          clear HW2
          clear c1 x0 x1 x2 x3 x4 x5 x6 x7 z0 z1 z2 z3 z4 z5 z6 z7 heq S1 HX hpl hpl'
          generalize x.at = w19 at *
          clear x
          go_wp2_with fail
          go_roundw
          case rel => exact ⟨i + 1, _, _, hlt, by go_num, HGX.out, HGY.out, HW.out, HP.out, HQ.out⟩
          case measure => (try rw [hw]); exact large_meas i _ hlt
        · have hgo' : ¬ (i : Int) < (gs.length : Int) := by omega
          have HGY2 := Lib.hid (HGY.out.stay hgo)
          clear HGY
          have HGY := HGY2
          clear HGY2
          go_wp2_with fail
          go_roundw
          case rel => exact ⟨i + 1, _, _, hlt, by go_num, HGX.out, HGY.out, HW.out, HP.out, HQ.out⟩
          case measure => (try rw [hw]); exact large_meas i _ hlt
      · have hgo' : ¬ (i : Int) < (fs.length : Int) := by omega
        have HGX2 := Lib.hid (HGX.out.stay hgo)
        clear HGX
        have HGX := HGX2
        clear HGX2
        go_upto_region 14 with (fail)
        clear hgo hgo'
        by_cases hgo : i < gs.length
        · have hgo' : (i : Int) < (gs.length : Int) := by omega
          have hfit := HGY.out.get hgo
          have hnx := HGY.out.next hgo
          obtain ⟨hpl, hpg⟩ := hfit
          have hpl' : (i : Int) < (Q.length : Int) := by omega
          obtain ⟨fb, off, rfl, hb, a0, a1, a2⟩ := (HG.out.keep HW.out.x.below).frm i hgo hgo
          generalize gs[i] = f at *
          obtain ⟨ft, fj, fd⟩ := f
          simp only at a0 a1 a2
          go_wp2_with fail
          with_reducible refine (step_on ft fj fd HW.out.y (by decide) ann_small HT.out _ rfl).mono ?_
          generalize Cn.step [Cn.annT] Y ⟨ft, fj, fd⟩ = S at *
          rintro r7 w17 ⟨rfl, ho7, hc7⟩
          have HNX := Lib.hid hnx
          have HPG := Lib.hid hpg
          have HP2 := Lib.hid (HP.out.chg hc7 HW.out.lowy)
          clear HP
          have HP := HP2
          clear HP2
          have HQ2 := Lib.hid (HQ.out.chg hc7 HW.out.lowy)
          clear HQ
          have HQ := HQ2
          clear HQ2
          have HW2 := Lib.hid (HW.out.stepy ho7 hc7)
          clear HW
          have HW := HW2
          clear HW2
          clear ho7 hc7 a0 a1 a2 hb hnx hpg HGY
          have HGY := HNX
          clear HNX
          go_upto_region 16 with (fail)
          have HB8 := Lib.hid ((Below.refl _ w17).alloc (Nat.le_refl _) (.cells #[.int .i64 S.what, .int .i64 S.job, .int .i64 S.ten, .int .i64 S.kind, .int .i64 S.lev, .int .i64 S.n, .string S.txt, .int .i64 S.err] 38))
          have HX := Lib.hid (Has.new w17 #[.int .i64 S.what, .int .i64 S.job, .int .i64 S.ten, .int .i64 S.kind, .int .i64 S.lev, .int .i64 S.n, .string S.txt, .int .i64 S.err] 38)
          have HP2 := Lib.hid (HP.out.keep HB8.out)
          clear HP
          have HP := HP2
          clear HP2
          have HQ2 := Lib.hid (HQ.out.keep HB8.out)
          clear HQ
          have HQ := HQ2
          clear HQ2
          have HW2 := Lib.hid (HW.out.keep HB8.out)
          clear HW
          have HW := HW2
          clear HW2
          clear HB8
          generalize w17.alloc (.cells #[.int .i64 S.what, .int .i64 S.job, .int .i64 S.ten, .int .i64 S.kind, .int .i64 S.lev, .int .i64 S.n, .string S.txt, .int .i64 S.err] 38) = w18 at *
          generalize w17.heap.size = py at *
          obtain ⟨rb, roff, rfl, hrb, d0, d1, d2, d3, d4, d5, d6, d7⟩ := HQ.out.row.act i hpl hpl
          rw [HPG.out] at d0 d1 d2 d3 d4 d5 d6 d7
          have c1 : ∀ y : Later w18, y.at.cell? ⟨qb, 1, none⟩ = some (.slice (some ⟨rb, roff, none⟩) Q.length qc) := fun y => y.cell (HQ.out.has.cell 1)
          have z0 := fun y : Later w18 => y.cell d0
          have z1 := fun y : Later w18 => y.cell d1
          have z2 := fun y : Later w18 => y.cell d2
          have z3 := fun y : Later w18 => y.cell d3
          have z4 := fun y : Later w18 => y.cell d4
          have z5 := fun y : Later w18 => y.cell d5
          have z6 := fun y : Later w18 => y.cell d6
          have z7 := fun y : Later w18 => y.cell d7
          have x0 : ∀ y : Later w18, y.at.cell? ⟨py, 0, none⟩ = some (.int .i64 S.what) := fun y => y.cell (HX.out.cell 0)
          have x1 : ∀ y : Later w18, y.at.cell? ⟨py, 1, none⟩ = some (.int .i64 S.job) := fun y => y.cell (HX.out.cell 1)
          have x2 : ∀ y : Later w18, y.at.cell? ⟨py, 2, none⟩ = some (.int .i64 S.ten) := fun y => y.cell (HX.out.cell 2)
          have x3 : ∀ y : Later w18, y.at.cell? ⟨py, 3, none⟩ = some (.int .i64 S.kind) := fun y => y.cell (HX.out.cell 3)
          have x4 : ∀ y : Later w18, y.at.cell? ⟨py, 4, none⟩ = some (.int .i64 S.lev) := fun y => y.cell (HX.out.cell 4)
          have x5 : ∀ y : Later w18, y.at.cell? ⟨py, 5, none⟩ = some (.int .i64 S.n) := fun y => y.cell (HX.out.cell 5)
          have x6 : ∀ y : Later w18, y.at.cell? ⟨py, 6, none⟩ = some (.string S.txt) := fun y => y.cell (HX.out.cell 6)
          have x7 : ∀ y : Later w18, y.at.cell? ⟨py, 7, none⟩ = some (.int .i64 S.err) := fun y => y.cell (HX.out.cell 7)
          have heq := eq_actS S
          have S1 := Lib.hid (fun y : Later w18 => later_call (x := y) (actref_walk S y.at))
          clear d0 d1 d2 d3 d4 d5 d6 d7 HPG hrb
          refine region_later 12 (by kernel_rfl) (by kernel_rfl) ?_
          simp only [List.take_succ_cons, List.take_zero, List.drop_succ_cons, List.drop_zero]
          repeat (go_big_quiet_step ((with_reducible exact S1.out _)))
          refine wpQuiet_nil ?_
          rintro w' ⟨x, rfl⟩
          have HP2 := Lib.hid (HP.out.keep x.below)
          clear HP
          have HP := HP2
          clear HP2
          have HQ2 := Lib.hid (HQ.out.keep x.below)
          clear HQ
          have HQ := HQ2
          clear HQ2
          have HW2 := Lib.hid (HW.out.keep x.below)
          clear HW
          have HW := HW2
          clear HW2
          clear c1 x0 x1 x2 x3 x4 x5 x6 x7 z0 z1 z2 z3 z4 z5 z6 z7 heq S1 HX hpl hpl'
          generalize x.at = w19 at *
          clear x
          go_wp2_with fail
          go_roundw
          case rel => exact ⟨i + 1, _, _, hlt, by go_num, HGX.out, HGY.out, HW.out, HP.out, HQ.out⟩
          case measure => (try rw [hw]); exact large_meas i _ hlt
        · have hgo' : ¬ (i : Int) < (gs.length : Int) := by omega
          have HGY2 := Lib.hid (HGY.out.stay hgo)
          clear HGY
          have HGY := HGY2
          clear HGY2
          go_wp2_with fail
          go_roundw
          case rel => exact ⟨i + 1, _, _, hlt, by go_num, HGX.out, HGY.out, HW.out, HP.out, HQ.out⟩
          case measure => (try rw [hw]); exact large_meas i _ hlt
    · have hlt' : ¬ (i : Int) < ((max fs.length gs.length : Nat) : Int) := by omega
      go_wp2_with fail
      with_reducible refine (key_walk _ (HT.out.keep HW.out.x.below)).mono ?_
      rintro r6 w6 ⟨rfl, hb6⟩
      have HB6 := Lib.hid (HW.out.x.below.trans (hb6.mono HW.out.x.below.size))
      clear hb6
      go_wp2
      go_ret
      exact ⟨rfl, HB6.out⟩
set_option maxRecDepth 100000 in
set_option maxHeartbeats 1000000 in
theorem connSame_walk (fs : List Fr.Frm) (fa : Option Addr) (flen fc : Nat) (gs : List Fr.Frm) (ga : Option Addr) (glen gc : Nat) (w : World) (hfl : fs.length = flen) (hfr : RowS w 3 fa flen fc (fs.flatMap cfcells)) (_ : ∀ x ∈ fs, I64 x.j ∧ x.d.size ≤ maxLen) (hgl : gs.length = glen) (hgr : RowS w 3 ga glen gc (gs.flatMap cfcells)) (_ : ∀ x ∈ gs, I64 x.j ∧ x.d.size ≤ maxLen) (hT : Tabs w) :
    Calls Tryd.prog 3 #[.slice fa flen fc, .slice ga glen gc] w fun r w' => r = .returned (.bool true) ∧ Below w.heap.size w w' := by
  subst hfl hgl
  have HT := Lib.hid hT
  have HLF := Lib.hid (large36_walk [] none 0 0 fs fa fs.length fc w rfl ⟨Nat.le_refl _, Nat.zero_le _, rfl, fun _ => ⟨rfl, rfl⟩, (fun x hx => nomatch hx)⟩ rfl hfr)
  have HLG := Lib.hid (fun w hgr => large36_walk [] none 0 0 gs ga gs.length gc w rfl ⟨Nat.le_refl _, Nat.zero_le _, rfl, fun _ => ⟨rfl, rfl⟩, (fun x hx => nomatch hx)⟩ rfl hgr)
  have HG := Lib.hid hgr
  cases hf : Cn.large [] fs with
  | false =>
    cases hg : Cn.large [] gs with
    | false => exact same_walk fs fa fc gs ga gc w hfr hgr (Cn.large_not _ _ hf).2.1 (Cn.large_not _ _ hg).2.1 hT hf hg
    | true =>
      rw [hf] at HLF
      rw [hg] at HLG
      clear hf hg hfr hgr hT
      go_enter Tryd.func3, Tryd.ntmps3
      go_wp2_with fail
      (with_reducible refine (HLF.out).mono ?_)
      rintro r1 w1 ⟨rfl, hb1⟩
      have HB0 := Lib.hid hb1
      clear hb1 HLF
      go_wp2_with fail
      with_reducible refine (HLG.out _ (HG.out.keep HB0.out)).mono ?_
      rintro r2 w2 ⟨rfl, hb2⟩
      have HB1 := Lib.hid (HB0.out.trans (hb2.mono HB0.out.size))
      clear hb2 HLG HB0
      go_wp2_with fail
      with_reducible refine (key_walk _ (HT.out.keep HB1.out)).mono ?_
      rintro r6 w6 ⟨rfl, hb6⟩
      have HB6 := Lib.hid (HB1.out.trans (hb6.mono HB1.out.size))
      clear hb6
      go_wp2
      go_ret
      exact ⟨rfl, HB6.out⟩
  | true =>
    rw [hf] at HLF
    clear hf hfr hgr hT HLG HG
    go_enter Tryd.func3, Tryd.ntmps3
    go_wp2_with fail
    (with_reducible refine (HLF.out).mono ?_)
    rintro r1 w1 ⟨rfl, hb1⟩
    have HB1 := Lib.hid hb1
    clear hb1 HLF
    go_wp2_with fail
    with_reducible refine (key_walk _ (HT.out.keep HB1.out)).mono ?_
    rintro r6 w6 ⟨rfl, hb6⟩
    have HB6 := Lib.hid (HB1.out.trans (hb6.mono HB1.out.size))
    clear hb6
    go_wp2
    go_ret
    exact ⟨rfl, HB6.out⟩
end Go.Proofs.YtajalllecoclcaaDoor
