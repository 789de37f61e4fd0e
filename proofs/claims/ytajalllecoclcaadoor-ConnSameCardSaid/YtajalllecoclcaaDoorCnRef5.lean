/- The reference's acts: With; a variable that holds them. The reference's acts: All. -/
import Derived.Test.YtajalllecoclcaaDoorCnRef4
import Derived.Test.YtajalllecoclcaaDoorAppAny
namespace Go.Proofs.YtajalllecoclcaaDoor
open Go.RowKit
set_option linter.unusedVariables false
set_option linter.unusedSimpArgs false

theorem info_ract : (Tryd.prog.info? 44).map (fun i => (i.zero, i.size, i.bytes)) = some (some (.agg #[.int .i64 0, .int .i64 0, .int .i64 0, .int .i64 0, .int .i64 0, .int .i64 0, .string ⟨#[]⟩, .int .i64 0]), 8, 72) := by kernel_rfl
/-- a variable that holds acts -/
structure ActsAt (w : World) (B p : Nat) (ta : Option Addr) (tl tc : Nat) (A : List Cn.Act) (la : Option Addr) (lc : Nat) : Prop where
  has : Has w p #[.slice ta tl tc, .slice la A.length lc] 33
  row : RowS w 8 la A.length lc (A.flatMap accells)
  far : ∀ y, la = some y → B ≤ y.block
  lt : p < B
theorem ActsAt.keep {w w' : World} {B p : Nat} {ta : Option Addr} {tl tc : Nat} {A : List Cn.Act} {la : Option Addr} {lc : Nat} (h : ActsAt w B p ta tl tc A la lc) (k : Below w.heap.size w w') : ActsAt w' B p ta tl tc A la lc :=
  ⟨h.has.below k h.has.lt, h.row.keep k, h.far, h.lt⟩
theorem ActsAt.chg {w w' : World} {B p : Nat} {ta : Option Addr} {tl tc : Nat} {A : List Cn.Act} {la : Option Addr} {lc : Nat} {S : List Nat} (h : ActsAt w B p ta tl tc A la lc) (k : Chg S w w') (hp : p ∉ S) (hS : ∀ x ∈ S, x < B) : ActsAt w' B p ta tl tc A la lc :=
  ⟨h.has.chg k hp, h.row.chg k (fun y hy hm => by have := h.far y hy; have := hS _ hm; omega), h.far, h.lt⟩
theorem row_setC {w : World} {k : Nat} {a : Option Addr} {len cap : Nat} {vs : List Value} (h : RowS w k a len cap vs) (p i : Nat) (v : Value) (hp : ∀ y, a = some y → y.block ≠ p) : RowS (w.setCell ⟨p, i, none⟩ v) k a len cap vs :=
  h.chg ((Chg.refl [p] w).setCell ⟨p, i, none⟩ v (.inl (by simp))) (fun y hy => by simpa using hp y hy)
theorem ActsAt.set {w : World} {B p : Nat} {ta : Option Addr} {tl tc : Nat} {A A' : List Cn.Act} {la la' : Option Addr} {lc lc' : Nat} (h : ActsAt w B p ta tl tc A la lc) (n : Nat) (hn : A'.length = n) (r : RowS w 8 la' n lc' (A'.flatMap accells)) (hf : ∀ y, la' = some y → B ≤ y.block) :
    ActsAt ((w.setCell ⟨p, 0, none⟩ (.slice ta tl tc)).setCell ⟨p, 1, none⟩ (.slice la' n lc')) B p ta tl tc A' la' lc' := by
  subst hn
  have hne : ∀ y, la' = some y → y.block ≠ p := fun y hy => by have := hf y hy; have := h.lt; omega
  exact ⟨(h.has.setCell 0 _).setCell 1 _, row_setC (row_setC r _ _ _ hne) _ _ _ hne, hf, h.lt⟩
theorem with_wrap (n : Nat) (h : n ≤ 60) : 0 + n ≤ maxLen ∧ (0 + n) * 72 ≤ 140737488355328 ∧ n + 1 ≤ maxLen ∧ (n + 1) * 72 ≤ 140737488355328 := by unfold maxLen; omega
set_option maxRecDepth 100000 in
set_option maxHeartbeats 1600000 in
theorem with_walk (L : List Cn.Act) (x : Cn.Act) (ta : Option Addr) (tl tc : Nat) (la : Option Addr) (lc : Nat) (w : World) (hr : RowS w 8 la L.length lc (L.flatMap accells)) (h60 : L.length ≤ 60) :
    Calls Tryd.prog 18 #[.agg #[.slice ta tl tc, .slice la L.length lc], .agg #[.int .i64 x.what, .int .i64 x.job, .int .i64 x.ten, .int .i64 x.kind, .int .i64 x.lev, .int .i64 x.n, .string x.txt, .int .i64 x.err]] w fun r w' =>
      ∃ la' lc', r = .returned (.agg #[.slice ta tl tc, .slice la' (L.length + 1) lc']) ∧ RowS w' 8 la' (L.length + 1) lc' ((L ++ [x]).flatMap accells) ∧ (∀ y, la' = some y → w.heap.size ≤ y.block) ∧ Below w.heap.size w w' := by
  have HRL := Lib.hid hr
  have HMX := Lib.hid (with_wrap _ h60)
  obtain ⟨x0, x1, x2, x3, x4, x5, x6, x7⟩ := x
  simp only
  clear hr h60
  go_enter Tryd.func18, Tryd.ntmps18
  go_upto_region 1 with (fail)
  have H3 := Lib.hid (T3.new w #[.slice ta tl tc, .slice la L.length lc] #[.int .i64 x0, .int .i64 x1, .int .i64 x2, .int .i64 x3, .int .i64 x4, .int .i64 x5, .string x6, .int .i64 x7] #[.slice none 0 0, .slice none 0 0] 33 44 33)
  generalize ((w.alloc (.cells #[.slice ta tl tc, .slice la L.length lc] 33)).alloc (.cells #[.int .i64 x0, .int .i64 x1, .int .i64 x2, .int .i64 x3, .int .i64 x4, .int .i64 x5, .string x6, .int .i64 x7] 44)).alloc (.cells #[.slice none 0 0, .slice none 0 0] 33) = w1 at *
  have p0 := H3.out.hp.cell 0; have p1 := H3.out.hp.cell 1
  simp only [List.getElem?_toArray, List.getElem?_cons_zero, List.getElem?_cons_succ] at p0 p1
  have HW1 := Lib.hid H3.out.hb.size
  have HLT := Lib.hid H3.out.ha.lt
  have HOW0 := Lib.hid (World.ownsRow_nil w1 w1.heap.size 44 8)
  have HR1 := Lib.hid (HRL.out.keep H3.out.hb)
  have HB1 := Lib.hid (Nat.le_refl w1.heap.size)
  clear HRL
  generalize hBd : w1.heap.size = B at HOW0 HW1 HLT
  have HB1 := Lib.hid (show B ≤ w1.heap.size by omega)
  clear hBd
  go_wp2_with (at_builtin; refine appendAny Tryd.underlying31 info_ract rfl (by decide) rfl _ _ rfl B 0 L.length lc _ la [] (L.flatMap accells) rfl rfl HOW0.out HR1.out (accells_one L) HMX.out.1 HMX.out.2.1 HB1.out ?_)
  intro v2 w2 ho2 _ hb2
  have HB2 := Lib.hid hb2
  have HOW := Lib.hid ho2
  have HS2 := Lib.hid (Nat.le_trans HB1.out hb2.size)
  have HP := Lib.hid (H3.out.hp.below hb2 (by have := HLT.out; omega))
  have HR := Lib.hid (H3.out.hr.below hb2 (by have := HLT.out; omega))
  have HA := Lib.hid (H3.out.ha.below hb2 HLT.out)
  have HBW := Lib.hid (H3.out.hb.trans (hb2.mono HW1.out))
  clear ho2 hb2 HB2 HOW0 HR1 HB1 H3 p0 p1
  have q0 := HR.out.cell 0; have q1 := HR.out.cell 1; have q2 := HR.out.cell 2; have q3 := HR.out.cell 3; have q4 := HR.out.cell 4; have q5 := HR.out.cell 5; have q6 := HR.out.cell 6; have q7 := HR.out.cell 7
  simp only [List.getElem?_toArray, List.getElem?_cons_zero, List.getElem?_cons_succ] at q0 q1 q2 q3 q4 q5 q6 q7
  go_wp2_with (at_builtin; refine appendS Tryd.underlying31 info_ract rfl (by decide) rfl _ _ rfl B L.length _ (L.flatMap accells) rfl HOW.out #[Value.int .i64 x0, Value.int .i64 x1, Value.int .i64 x2, Value.int .i64 x3, Value.int .i64 x4, Value.int .i64 x5, Value.string x6, Value.int .i64 x7] rfl (by intro u hu; simp at hu; rcases hu with rfl | rfl | rfl | rfl | rfl | rfl | rfl | rfl <;> rfl) _ rfl rfl HMX.out.2.2.1 HMX.out.2.2.2 HS2.out ?_)
  intro g cap3 w3 ho3 _ hb3 _ _ _
  obtain ⟨la3, lc3, he3, hr3, hx3⟩ := rowS_owns ho3
  cases he3
  have HR3 := Lib.hid (show RowS w3 8 (some ⟨g, 0, none⟩) (L.length + 1) cap3 ((L ++ [Cn.Act.mk x0 x1 x2 x3 x4 x5 x6 x7]).flatMap accells) by rw [List.flatMap_append]; exact hr3)
  have HX3 := Lib.hid (fun y hy => (hx3 y hy).1)
  have HP3 := Lib.hid (HP.out.below hb3 (by have := HLT.out; omega))
  have HA3 := Lib.hid (HA.out.below hb3 HLT.out)
  have HBX := Lib.hid (HBW.out.trans (hb3.mono HW1.out))
  clear ho3 hb3 hr3 hx3 HP HR HA HBW HOW HS2 q0 q1 q2 q3 q4 q5 q6 q7
  have p0 := HP3.out.cell 0
  have z0 := HA3.out.cell 0; have z1 := HA3.out.cell 1
  have g0 := HA3.out.free 0; have g1 := HA3.out.free 1
  simp only [List.getElem?_toArray, List.getElem?_cons_zero, List.getElem?_cons_succ] at p0 z0 z1
  go_wp2
  (try simp only [Exit.inBlock, Exit.then])
  refine bodyPost_ret (v := .agg #[.slice ta tl tc, .slice (some ⟨g, 0, none⟩) (L.length + 1) cap3]) ?_ rfl ?_
  · rw [results_cell1 rfl]
    go_simp
  · have hne : ∀ y, some (⟨g, 0, none⟩ : Addr) = some y → y.block ≠ w.heap.size + 1 + 1 := fun y hy => by have := HX3.out y hy; have := HLT.out; omega
    refine ⟨_, _, rfl, ?_, fun y hy => Nat.le_trans HW1.out (HX3.out y hy), ?_⟩
    · exact row_setC (row_setC HR3.out _ _ _ hne) _ _ _ hne
    · repeat (first | (with_reducible exact HBX.out) | refine below_set ?_ _ _ (by omega) _)
end Go.Proofs.YtajalllecoclcaaDoor
namespace Go.Proofs.YtajalllecoclcaaDoor
open Go.RowKit
set_option linter.unusedVariables false
set_option linter.unusedSimpArgs false

namespace Cn
def runs (l : List Tn.Ten) : List Act → List Fr.Frm → List Act
  | L, [] => L
  | L, f :: r => runs l (L ++ [step l L f]) r
theorem runs_at (l : List Tn.Ten) (L : List Act) (fs : List Fr.Frm) (k : Nat) (h : k < fs.length) : runs l L (fs.drop k) = runs l (L ++ [step l L fs[k]]) (fs.drop (k + 1)) := by
  rw [List.drop_eq_getElem_cons h]; rfl
theorem runs_end (l : List Tn.Ten) (L : List Act) (fs : List Fr.Frm) (k : Nat) (h : fs.length ≤ k) : runs l L (fs.drop k) = L := by
  rw [List.drop_eq_nil_of_le h]; rfl
theorem runs_pre (l : List Tn.Ten) : ∀ (fs : List Fr.Frm) (L : List Act), ∃ s, runs l L fs = L ++ s
  | [], L => ⟨[], by rw [List.append_nil]; rfl⟩
  | f :: r, L => by
    obtain ⟨s, hs⟩ := runs_pre l r (L ++ [step l L f])
    exact ⟨step l L f :: s, by show runs l (L ++ [step l L f]) r = _; rw [hs, List.append_assoc]; rfl⟩
theorem runs_get (l : List Tn.Ten) (L P : List Act) (fs : List Fr.Frm) (k : Nat) (h : k < fs.length) (hk : L.length = k) (hp : runs l L (fs.drop k) = P) : ∃ hl : k < P.length, P[k] = step l L fs[k] := by
  subst hk
  rw [runs_at l L fs _ h] at hp
  obtain ⟨s, hs⟩ := runs_pre l (fs.drop (L.length + 1)) (L ++ [step l L fs[L.length]])
  rw [hs] at hp
  subst hp
  refine ⟨by simp, ?_⟩
  rw [List.getElem_append_left (by simp)]
  simp
theorem runs_len (l : List Tn.Ten) : ∀ (fs : List Fr.Frm) (L : List Act), (runs l L fs).length = L.length + fs.length
  | [], L => rfl
  | f :: r, L => by
    show (runs l (L ++ [step l L f]) r).length = _
    rw [runs_len l r]
    simp
    omega
end Cn
/-- what All's loop keeps -/
structure AllAt36 (w wr : World) (B : Nat) (l : List Tn.Ten) (ta : Option Addr) (tc : Nat) (A : List Cn.Act) (la : Option Addr) (lc : Nat) : Prop where
  acts : ActsAt wr B (w.heap.size + 1) ta l.length tc A la lc
  res : Has wr w.heap.size #[.slice none 0 0, .slice none 0 0] 33
  below : Below w.heap.size w wr
  big : B ≤ wr.heap.size
  good : Cn.Good A
theorem AllAt36.keep {w wr wx : World} {B : Nat} {l : List Tn.Ten} {ta : Option Addr} {tc : Nat} {A : List Cn.Act} {la : Option Addr} {lc : Nat} (h : AllAt36 w wr B l ta tc A la lc) (k : Below wr.heap.size wr wx) : AllAt36 w wx B l ta tc A la lc :=
  ⟨h.acts.keep k, h.res.below k h.res.lt, h.below.trans (k.mono h.below.size), Nat.le_trans h.big k.size, h.good⟩
theorem AllAt36.set {w wr : World} {B : Nat} {l : List Tn.Ten} {ta : Option Addr} {tc : Nat} {A A' : List Cn.Act} {la la' : Option Addr} {lc lc' : Nat} (h : AllAt36 w wr B l ta tc A la lc) (n : Nat) (hn : A'.length = n) (r : RowS wr 8 la' n lc' (A'.flatMap accells)) (hf : ∀ y, la' = some y → B ≤ y.block) (hg : Cn.Good A') :
    AllAt36 w ((wr.setCell ⟨w.heap.size + 1, 0, none⟩ (.slice ta l.length tc)).setCell ⟨w.heap.size + 1, 1, none⟩ (.slice la' n lc')) B l ta tc A' la' lc' :=
  ⟨h.acts.set n hn r hf, (h.res.setCell_other _ _ (by simp)).setCell_other _ _ (by simp), (h.below.setCell (p := ⟨w.heap.size + 1, 0, none⟩) (Nat.le_succ _) _).setCell (p := ⟨w.heap.size + 1, 1, none⟩) (Nat.le_succ _) _, by rw [World.size_setCell, World.size_setCell]; exact h.big, hg⟩
set_option maxRecDepth 100000 in
set_option maxHeartbeats 2000000 in
theorem refall36_walk (l : List Tn.Ten) (ta : Option Addr) (tc : Nat) (fs : List Fr.Frm) (fa : Option Addr) (fc : Nat) (w : World) (hrt : RowS w 5 ta l.length tc (l.flatMap tncells)) (hfr : RowS w 3 fa fs.length fc (fs.flatMap cfcells)) (hl : l.length ≤ 1000) (h60 : fs.length ≤ 60) :
    Calls Tryd.prog 12 #[.slice ta l.length tc, .slice fa fs.length fc] w fun r w' =>
      ∃ la lc, r = .returned (.agg #[.slice ta l.length tc, .slice la (Cn.runs l [] fs).length lc]) ∧ RowS w' 8 la (Cn.runs l [] fs).length lc ((Cn.runs l [] fs).flatMap accells) ∧ (∀ y, la = some y → w.heap.size ≤ y.block) ∧ Below w.heap.size w w' := by
  have HRT := Lib.hid hrt
  have HFR := Lib.hid hfr
  have HQ := Lib.hid h60
  have HAT := Lib.hid (fun L k h => Cn.runs_at l L fs k h)
  have HE := Lib.hid (fun L k h => Cn.runs_end l L fs k h)
  have HS := Lib.hid (show Cn.runs l [] (fs.drop 0) = Cn.runs l [] fs by rw [List.drop_zero])
  have HL := Lib.hid hl
  generalize Cn.runs l [] fs = R at *
  clear hrt hfr h60 hl
  go_enter Tryd.func12, Tryd.ntmps12
  go_upto_region 2 with (fail)
  have HA0 := Lib.hid (show AllAt36 w ((w.alloc (.cells #[.slice none 0 0, .slice none 0 0] 33)).alloc (.cells #[.slice ta l.length tc, .slice none 0 0] 33)) (w.heap.size + 1 + 1) l ta tc [] none 0 from by
    refine ⟨⟨?_, ⟨Nat.le_refl _, Nat.zero_le _, rfl, fun _ => ⟨rfl, rfl⟩, (fun x hx => nomatch hx)⟩, (fun y hy => nomatch hy), by omega⟩, (Has.new w _ _).alloc _, two_below w _ _, by rw [World.size_alloc, World.size_alloc]; omega, Cn.Good.nil⟩
    have := Has.new (w.alloc (.cells #[.slice none 0 0, .slice none 0 0] 33)) #[.slice ta l.length tc, .slice none 0 0] 33
    rw [World.size_alloc] at this
    exact this)
  generalize (w.alloc (.cells #[.slice none 0 0, .slice none 0 0] 33)).alloc (.cells #[.slice ta l.length tc, .slice none 0 0] 33) = w1 at *
  generalize hBd : w.heap.size + 1 + 1 = B at HA0
  have HBB := Lib.hid (show w.heap.size ≤ B by omega)
  clear hBd
  go_wp2_with fail
  go_loopw [12] (fun vi wr => ∃ (k : Nat) (A : List Cn.Act) (la : Option Addr) (lc : Nat), k ≤ fs.length ∧ vi = .int .i64 k ∧ A.length = k ∧ Cn.runs l A (fs.drop k) = R ∧ AllAt36 w wr B l ta tc A la lc) (fun i _ => fs.length - (intOf i).toNat)
  case atStart => exact ⟨0, [], none, 0, Nat.zero_le _, rfl, rfl, HS.out, HA0.out⟩
  case round =>
    obtain ⟨k, A, la, lc, hk, rfl, hAk, hag, hat⟩ := hrel
    subst hAk
    clear HA0 HS
    have HA := Lib.hid hat
    clear hat
    by_cases hlt : A.length < fs.length
    · have hlt' : (A.length : Int) < (fs.length : Int) := by omega
      have hw := large_wrap A.length _ HQ.out hlt
      obtain ⟨fb, off, rfl, hb, a0, a1, a2⟩ := (HFR.out.keep HA.out.below).frm A.length hlt hlt
      rw [HAT.out A A.length hlt] at hag
      have HAG := Lib.hid hag
      generalize fs[A.length] = f at *
      obtain ⟨ft, fj, fd⟩ := f
      simp only at a0 a1 a2
      have HGO := Lib.hid (HA.out.good.step l ⟨ft, fj, fd⟩)
      have HA60 := Lib.hid (show A.length ≤ 60 by have := HQ.out; omega)
      have HST := Lib.hid (fun w hrt hr => Calls.act (refstep_walk l A ta tc la lc ft fj fd w hrt hr HL.out HA60.out HA.out.good))
      clear hag
      generalize Cn.step l A ⟨ft, fj, fd⟩ = X at *
      go_upto_region 5 with (fail)
      have HB5 := Lib.hid ((Below.refl _ wr).alloc (Nat.le_refl _) (.cells #[.int .i64 ft, .int .i64 fj, .string fd] 42))
      have HA2 := Lib.hid (HA.out.keep HB5.out)
      have HF := Lib.hid (Has.new wr #[.int .i64 ft, .int .i64 fj, .string fd] 42)
      clear a0 a1 a2 HA hb HB5
      generalize wr.alloc (.cells #[.int .i64 ft, .int .i64 fj, .string fd] 42) = w2 at *
      generalize wr.heap.size = pf at *
      have c0 : ∀ y : Later w2, y.at.cell? ⟨w.heap.size + 1, 0, none⟩ = some (.slice ta l.length tc) := fun y => y.cell (HA2.out.acts.has.cell 0)
      have c1 : ∀ y : Later w2, y.at.cell? ⟨w.heap.size + 1, 1, none⟩ = some (.slice la A.length lc) := fun y => y.cell (HA2.out.acts.has.cell 1)
      have f0 : ∀ y : Later w2, y.at.cell? ⟨pf, 0, none⟩ = some (.int .i64 ft) := fun y => y.cell (HF.out.cell 0)
      have f1 : ∀ y : Later w2, y.at.cell? ⟨pf, 1, none⟩ = some (.int .i64 fj) := fun y => y.cell (HF.out.cell 1)
      have f2 : ∀ y : Later w2, y.at.cell? ⟨pf, 2, none⟩ = some (.string fd) := fun y => y.cell (HF.out.cell 2)
      have HS := Lib.hid (fun y : Later w2 => later_call (x := y) (HST.out y.at (HRT.out.keep (HA2.out.keep y.below).below) (HA2.out.acts.row.keep y.below)))
      refine region_later 4 (by kernel_rfl) (by kernel_rfl) ?_
      simp only [List.take_succ_cons, List.take_zero, List.drop_succ_cons, List.drop_zero]
      repeat (go_big_quiet_step ((with_reducible exact HS.out _)))
      refine wpQuiet_nil ?_
      rintro w' ⟨x, rfl⟩
      have HA3 := Lib.hid (HA2.out.keep x.below)
      clear HA2 HF c0 c1 f0 f1 f2 HS HST
      generalize x.at = w3 at *
      go_wp2_with fail
      (with_reducible refine (with_walk A X ta l.length tc la lc _ HA3.out.acts.row HA60.out).mono ?_)
      rintro r4 w4 ⟨la4, lc4, rfl, hr4, hf4, hb4⟩
      have HR4 := Lib.hid hr4
      have HF4 := Lib.hid (fun y hy => Nat.le_trans HA3.out.big (hf4 y hy))
      have HA4 := Lib.hid (HA3.out.keep hb4)
      clear hr4 hf4 hb4 HA3
      have c0 := HA4.out.acts.has.cell 0; have c1 := HA4.out.acts.has.cell 1
      have g0 := HA4.out.acts.has.free 0; have g1 := HA4.out.acts.has.free 1
      simp only [List.getElem?_toArray, List.getElem?_cons_zero, List.getElem?_cons_succ] at c0 c1
      have HA5 := Lib.hid (HA4.out.set (A.length + 1) (List.length_append) HR4.out HF4.out HGO.out)
      go_wp2_with fail
      go_roundw
      case rel => exact ⟨A.length + 1, A ++ [X], la4, lc4, hlt, by go_num, List.length_append, HAG.out, HA5.out⟩
      case measure => rw [hw]; exact large_meas A.length _ hlt
    · have hlt' : ¬ (A.length : Int) < (fs.length : Int) := by omega
      rw [HE.out A A.length (by omega)] at hag
      subst hag
      have c0 := HA.out.acts.has.cell 0; have c1 := HA.out.acts.has.cell 1
      have z0 := HA.out.res.cell 0; have z1 := HA.out.res.cell 1
      have g0 := HA.out.res.free 0; have g1 := HA.out.res.free 1
      simp only [List.getElem?_toArray, List.getElem?_cons_zero, List.getElem?_cons_succ] at c0 c1 z0 z1
      go_wp2
      (try simp only [Exit.inBlock, Exit.then])
      refine bodyPost_ret (v := .agg #[.slice ta l.length tc, .slice la A.length lc]) ?_ rfl ?_
      · rw [results_cell1 rfl]
        go_simp
      · have hne : ∀ y, la = some y → y.block ≠ w.heap.size := fun y hy => by have := HA.out.acts.far y hy; have := HA.out.acts.lt; omega
        refine ⟨_, _, rfl, ?_, fun y hy => Nat.le_trans HBB.out (HA.out.acts.far y hy), ?_⟩
        · exact row_setC (row_setC HA.out.acts.row _ _ _ hne) _ _ _ hne
        · exact below_set (below_set HA.out.below _ _ (Nat.le_refl _) _) _ _ (Nat.le_refl _) _
end Go.Proofs.YtajalllecoclcaaDoor
