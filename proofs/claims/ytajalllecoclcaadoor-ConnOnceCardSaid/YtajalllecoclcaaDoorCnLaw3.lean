/- Each job is opened once; what comes behind Cancel and End. -/
import Derived.Test.YtajalllecoclcaaDoorCnLarge
namespace Go.Proofs.YtajalllecoclcaaDoor
open Go.RowKit
set_option linter.unusedVariables false
set_option linter.unusedSimpArgs false

namespace Cn
def lgn : Act := ⟨2, 0, 0, 0, 0, 0, ⟨#[]⟩, 0⟩
theorem had_mem (L : List Act) (k j : Int) : had L k j = true ↔ ∃ y ∈ L, y.what = k ∧ y.job = j := by simp [had]
structure Once (A : List Act) : Prop where
  cov : ∀ y ∈ A, 3 ≤ y.what → y.what ≤ 7 → had (lgn :: A) 3 y.job = true
  rng : ∀ y ∈ A, 1 ≤ y.what ∧ y.what ≤ 8 ∧ y.what ≠ 2
structure Fit (A : List Act) (x : Act) : Prop where
  no : ∀ y ∈ A, y.job = x.job → y.what ≠ 1 → x.what ≠ 1 → x.what ≠ 8 → y.what ≠ 8 → x.what ≠ 3 ∧ y.what ≠ 6 ∧ (y.what = 5 → x.what ≠ 4 ∧ x.what ≠ 5)
  yes : x.what = 4 ∨ x.what = 5 ∨ x.what = 6 ∨ x.what = 7 → ∃ y ∈ A, y.what = 3 ∧ y.job = x.job
theorem Once.nil : Once [] := ⟨(fun _ h => nomatch h), (fun _ h => nomatch h)⟩
theorem Once.app {A : List Act} (h : Once A) (x : Act) (hr : 1 ≤ x.what ∧ x.what ≤ 8 ∧ x.what ≠ 2) (hc : 3 ≤ x.what → x.what ≤ 7 → had (lgn :: (A ++ [x])) 3 x.job = true) : Once (A ++ [x]) := by
  refine ⟨fun y hy h3 h7 => ?_, fun y hy => ?_⟩
  · rcases List.mem_append.1 hy with hy | hy
    · rw [show lgn :: (A ++ [x]) = (lgn :: A) ++ [x] from rfl, had_app, h.cov y hy h3 h7, Bool.true_or]
    · rw [List.mem_singleton.1 hy] at h3 h7 ⊢
      exact hc h3 h7
  · rcases List.mem_append.1 hy with hy | hy
    · exact h.rng y hy
    · rw [List.mem_singleton.1 hy]; exact hr
theorem fit_dull {A : List Act} (h : Once A) (x : Act) (hx : x.what = 1 ∨ x.what = 8) : Fit A x ∧ Once (A ++ [x]) :=
  ⟨⟨fun y _ _ _ h1 h8 _ => by omega, fun h => by omega⟩, h.app x (by omega) (fun h3 h7 => by omega)⟩
theorem fit_act {A : List Act} (h : Once A) (r : Pr.Rq) : Fit A (act (lgn :: A) r) ∧ Once (A ++ [act (lgn :: A) r]) := by
  have hA : ∀ y ∈ A, y ∈ lgn :: A := fun y hy => List.mem_cons_of_mem _ hy
  unfold act
  split
  · exact fit_dull h _ (.inl rfl)
  · split
    · unfold opn
      split
      · exact fit_dull h _ (.inl rfl)
      · next h3 =>
        split
        · exact fit_dull h _ (.inl rfl)
        · refine ⟨⟨fun y hy hj h1 _ _ h8 => ?_, fun h => ?_⟩, h.app _ (by simp only; omega) (fun _ _ => ?_)⟩
          · have hr := h.rng y hy
            have := h.cov y hy (by omega) (by omega)
            rw [hj] at this
            exact absurd this h3
          · simp only at h; omega
          · exact had_yes (lgn :: A) _ 3 _ rfl rfl
    · split
      · exact fit_dull h _ (.inr rfl)
      · split
        · exact fit_dull h _ (.inl rfl)
        · next h3 =>
          split
          · exact fit_dull h _ (.inl rfl)
          · next hov =>
            have h3' : had (lgn :: A) 3 r.j = true := by simpa using h3
            have hov' : over (lgn :: A) r = false := by simpa using hov
            have hu : (use r).job = r.j ∧ ((r.t = 3 ∧ (use r).what = 4) ∨ (r.t = 4 ∧ (use r).what = 5) ∨ (r.t ≠ 3 ∧ r.t ≠ 4 ∧ ((use r).what = 6 ∨ (use r).what = 7))) := by
              unfold use
              by_cases a : r.t = 3
              · rw [if_pos a]; exact ⟨rfl, .inl ⟨a, rfl⟩⟩
              · rw [if_neg a]
                by_cases b : r.t = 4
                · rw [if_pos b]; exact ⟨rfl, .inr (.inl ⟨b, rfl⟩)⟩
                · rw [if_neg b]
                  by_cases c : r.t = 5
                  · rw [if_pos c]; exact ⟨rfl, .inr (.inr ⟨a, b, .inl rfl⟩)⟩
                  · rw [if_neg c]; exact ⟨rfl, .inr (.inr ⟨a, b, .inr rfl⟩)⟩
            unfold over at hov'
            rw [Bool.or_eq_false_iff] at hov'
            generalize use r = x at hu ⊢
            obtain ⟨hj, hw⟩ := hu
            refine ⟨⟨fun y hy hyj _ _ _ _ => ⟨by omega, fun h6 => ?_, fun h5 => ?_⟩, fun _ => ?_⟩, h.app x (by omega) (fun _ _ => ?_)⟩
            · have : had (lgn :: A) 6 r.j = true := (had_mem _ _ _).2 ⟨y, hA y hy, h6, by omega⟩
              rw [hov'.1] at this; cases this
            · have h55 : had (lgn :: A) 5 r.j = true := (had_mem _ _ _).2 ⟨y, hA y hy, h5, by omega⟩
              rw [h55, Bool.and_true, Bool.or_eq_false_iff] at hov'
              have e3 := of_decide_eq_false hov'.2.1
              have e4 := of_decide_eq_false hov'.2.2
              omega
            · obtain ⟨y, hy, h1, h2⟩ := (had_mem _ _ _).1 h3'
              rcases List.mem_cons.1 hy with rfl | hy
              · exact absurd h1 (by decide)
              · exact ⟨y, hy, h1, by omega⟩
            · rw [show lgn :: (A ++ [x]) = (lgn :: A) ++ [x] from rfl, had_app, hj, h3', Bool.true_or]
theorem fit_step {A : List Act} (l : List Tn.Ten) (h : Once A) (f : Fr.Frm) : Fit A (step l (lgn :: A) f) ∧ Once (A ++ [step l (lgn :: A) f]) := by
  unfold step
  rw [if_neg (by show ¬ (0 : Int) = -1; decide)]
  split
  · exact fit_dull h _ (.inl rfl)
  · exact fit_act h _
/-- what the inner loop has seen -/
def Seen (A : List Act) (x : Act) (i : Nat) (op : Bool) : Prop := op = true ∨ ∀ y ∈ A.take i, y.job = x.job → y.what = 3 → x.what = 1 ∨ x.what = 8
theorem Seen.zero (A : List Act) (x : Act) : Seen A x 0 false := .inr fun y hy => by simp at hy
theorem Seen.next {A : List Act} {x : Act} {i : Nat} {op : Bool} (hi : i < A.length) (h : Seen A x i op) (hp : A[i].job = x.job → A[i].what = 3 → x.what = 1 ∨ x.what = 8) : Seen A x (i + 1) op := by
  rcases h with h | h
  · exact .inl h
  · refine .inr fun y hy => ?_
    rw [List.take_succ_eq_append_getElem hi] at hy
    rcases List.mem_append.1 hy with hy | hy
    · exact h y hy
    · rw [List.mem_singleton.1 hy]; exact hp
theorem Seen.take {A : List Act} {x : Act} {i : Nat} (hi : i < A.length) (h : Seen A x i false) : Seen A x (i + 1) (A[i].what == 3) := by
  by_cases c : A[i].what = 3
  · exact .inl (by simpa using c)
  · have := h.next hi (fun _ h3 => absurd h3 c)
    rcases this with h | h
    · cases h
    · exact .inr h
theorem Seen.last {A : List Act} {x : Act} (h : Seen A x A.length false) (hf : Fit A x) : ¬ (x.what = 4 ∨ x.what = 5 ∨ x.what = 6 ∨ x.what = 7) := by
  intro hx
  obtain ⟨y, hy, h3, hj⟩ := hf.yes hx
  rcases h with h | h
  · cases h
  · rw [List.take_length] at h
    have := h y hy hj h3
    omega
end Cn
theorem info_cact : (Tryd.prog.info? 38).map (fun i => (i.zero, i.size, i.bytes)) = some (some (.agg #[.int .i64 0, .int .i64 0, .int .i64 0, .int .i64 0, .int .i64 0, .int .i64 0, .string ⟨#[]⟩, .int .i64 0]), 8, 72) := by kernel_rfl
theorem On.belowB {w0 w w' : World} {B b m : Nat} {a : Option Addr} {cap : Nat} {l : List Tn.Ten} {L : List Cn.Act} (h : On w0 w b m a cap l L) (k : Below B w w') (hl : Low B b m a) (hB : w0.heap.size ≤ B) : On w0 w' b m a cap l L :=
  ⟨h.is.below k hl, h.below.trans (k.mono hB), h.fresh⟩
theorem once_bd (n q : Nat) (h : q ≤ 60) (hn : n < q) : n + 1 ≤ maxLen ∧ (n + 1) * 72 ≤ 140737488355328 := by unfold maxLen; omega
theorem once_in (q : Nat) (h : q ≤ 60) (n : Nat) (hn : n < q) : n ≤ 60 := by omega
set_option maxRecDepth 100000 in
set_option maxHeartbeats 4000000 in
theorem once_walk (fs : List Fr.Frm) (fa : Option Addr) (flen fcap : Nat) (w : World) (hfl : fs.length = flen) (hfr : RowS w 3 fa flen fcap (fs.flatMap cfcells)) (h60 : fs.length ≤ 60) (hT : Tabs w) (hlg : Cn.large [] fs = false) :
    Calls Tryd.prog 4 #[.slice fa flen fcap] w fun r w' => r = .returned (.bool true) ∧ Below w.heap.size w w' := by
  have HT := Lib.hid hT
  have HFR := Lib.hid hfr
  have HLG := Lib.hid (large36_walk [] none 0 0 fs fa flen fcap w rfl ⟨Nat.le_refl _, Nat.zero_le _, rfl, fun _ => ⟨rfl, rfl⟩, fun x hx => nomatch hx⟩ hfl hfr)
  rw [hlg] at HLG
  have HQ := Lib.hid h60
  subst hfl
  clear hT hfr hlg h60
  go_enter Tryd.func4, Tryd.ntmps4
  go_wp2_with fail
  (with_reducible refine (HLG.out).mono ?_)
  rintro r1 w1 ⟨rfl, hb1⟩
  have HB1 := Lib.hid hb1
  clear hb1 HLG
  go_wp2_with fail
  with_reducible refine (little_walk _).mono ?_
  rintro r2 w2 ⟨a2, cap2, rfl, hr2, hb2⟩
  have HR2 := Lib.hid hr2
  have HB2 := Lib.hid (HB1.out.trans (hb2.mono HB1.out.size))
  clear hr2 hb2 HB1
  go_wp2_with fail
  (with_reducible refine (new_on w _ _ _ HB2.out HR2.out HT.out).mono ?_)
  rintro r3 w3 ⟨b, m, a, cap, rfl, ho, -, -⟩
  have HO := Lib.hid ho
  clear ho HB2 HR2
  go_wp2_with fail
  with_reducible refine (step_on 1 0 ⟨#[107, 101, 121]⟩ HO.out (by decide) ann_small HT.out _ Cn.key4).mono ?_
  rintro r4 w4 ⟨rfl, ho, hc⟩
  have HO4 := Lib.hid ho
  have HC4 := Lib.hid hc
  clear ho hc
  clear HO HC4
  have HLOW := Lib.hid HO4.out.is.low
  have HB0 := Lib.hid HO4.out.below.size
  have HO := Lib.hid (show On w w4 b m a cap [Cn.annT] (Cn.lgn :: []) from HO4.out)
  clear HO4
  have HOW := Lib.hid (World.ownsRow_nil w4 w4.heap.size 38 8)
  generalize hBdef : w4.heap.size = B at HLOW HB0 HOW
  have HB4 := Lib.hid (show B ≤ w4.heap.size by rw [hBdef]; exact Nat.le_refl _)
  clear hBdef
  go_wp2_with fail
  go_loopw [5, 27] (fun vv vi wr => ∃ (k : Nat) (A : List Cn.Act), k ≤ fs.length ∧ vi = .int .i64 k ∧ A.length = k ∧ On w wr b m a cap [Cn.annT] (Cn.lgn :: A) ∧ wr.ownsRow B 38 8 vv A.length (A.flatMap accells) ∧ Cn.Once A ∧ B ≤ wr.heap.size) (fun _ i _ => fs.length - (intOf i).toNat)
  case atStart => exact ⟨0, [], Nat.zero_le _, rfl, rfl, HO.out, HOW.out, Cn.Once.nil, HB4.out⟩
  case round =>
    obtain ⟨k, A, hk, rfl, hAk, ho, how, hon, hbw⟩ := hrel
    subst hAk
    clear HO HOW HB4
    have HO := Lib.hid ho
    have HOW := Lib.hid how
    have HON0 := Lib.hid hon
    have HBW := Lib.hid hbw
    clear ho how hon hbw
    by_cases hlt : A.length < fs.length
    · have hlt' : (A.length : Int) < (fs.length : Int) := by omega
      have hw := large_wrap A.length _ HQ.out hlt
      obtain ⟨fb, off, rfl, hb, a0, a1, a2⟩ := (HFR.out.keep (HO.out.below)).frm A.length hlt hlt
      generalize fs[A.length] = f at *
      obtain ⟨ft, fj, fd⟩ := f
      simp only at a0 a1 a2
      have hfit := Cn.fit_step [Cn.annT] HON0.out ⟨ft, fj, fd⟩
      have HMX := Lib.hid (once_bd A.length _ HQ.out hlt)
      go_upto_region 9 with (fail)
      have HB5 := Lib.hid ((Below.refl _ wr).alloc (Nat.le_refl _) (.cells #[.int .i64 ft, .int .i64 fj, .string fd] 42))
      have HO5 := Lib.hid (HO.out.keep HB5.out)
      have HF := Has.new wr #[.int .i64 ft, .int .i64 fj, .string fd] 42
      clear a0 a1 a2 HO hb
      generalize wr.alloc (.cells #[.int .i64 ft, .int .i64 fj, .string fd] 42) = w5 at *
      have a0 := HF.cell 0; have a1 := HF.cell 1; have a2 := HF.cell 2
      simp only [List.getElem?_toArray, List.getElem?_cons_zero, List.getElem?_cons_succ] at a0 a1 a2
      clear HF
      go_wp2_with fail
      with_reducible refine (step_on ft fj fd HO5.out (by decide) ann_small HT.out _ rfl).mono ?_
      generalize Cn.step [Cn.annT] (Cn.lgn :: A) ⟨ft, fj, fd⟩ = X at *
      obtain ⟨x0, x1, x2, x3, x4, x5, x6, x7⟩ := X
      rintro r6 w6 ⟨rfl, ho6, hc6⟩
      have HOW6 := Lib.hid (ownsRow_chg (ownsRow_keep HOW.out HB5.out) hc6 (fun g hg hgm => by
        have h1 := (HOW.out.lt g hg).1
        have h2 := low_in HLOW.out g hgm
        omega))
      have HO6 := Lib.hid ho6
      have HBW6 := Lib.hid (Nat.le_trans HBW.out (Nat.le_trans HB5.out.size hc6.size))
      clear ho6 hc6 a0 a1 a2 HO5 HB5 HOW HBW
      go_upto_region 12 with (fail)
      have HB7 := (Below.refl _ w6).alloc (Nat.le_refl _) (.cells #[.int .i64 x0, .int .i64 x1, .int .i64 x2, .int .i64 x3, .int .i64 x4, .int .i64 x5, .string x6, .int .i64 x7] 38)
      have HX := Lib.hid (Has.new w6 #[.int .i64 x0, .int .i64 x1, .int .i64 x2, .int .i64 x3, .int .i64 x4, .int .i64 x5, .string x6, .int .i64 x7] 38)
      have HO7 := Lib.hid (HO6.out.keep HB7)
      have HOW7 := Lib.hid (ownsRow_keep HOW6.out HB7)
      have HBB := Lib.hid (Nat.le_trans HBW6.out HB7.size)
      clear HB7 HO6 HOW6 HBW6
      generalize w6.alloc (.cells #[.int .i64 x0, .int .i64 x1, .int .i64 x2, .int .i64 x3, .int .i64 x4, .int .i64 x5, .string x6, .int .i64 x7] 38) = w7 at *
      generalize w6.heap.size = px at *
      obtain ⟨av, cv, rfl, hrow, -⟩ := rowS_owns HOW7.out
      have HROW := Lib.hid hrow
      have HFIT := Lib.hid hfit.1
      have HON := Lib.hid hfit.2
      clear hrow hfit
      go_wp2_with fail
      go_loopw [10, 41] (fun vo vi wr => ∃ (i : Nat) (op : Bool), i ≤ A.length ∧ vo = .bool op ∧ vi = .int .i64 i ∧ Cn.Seen A ⟨x0, x1, x2, x3, x4, x5, x6, x7⟩ i op ∧ Below w7.heap.size w7 wr) (fun _ i _ => A.length - (intOf i).toNat)
      case atStart => exact ⟨0, false, Nat.zero_le _, rfl, rfl, Cn.Seen.zero _ _, Below.refl _ _⟩
      case round =>
        obtain ⟨i, op, hi, rfl, rfl, hseen, hbe⟩ := hrel
        have HB7 := Lib.hid hbe
        have HSEEN := Lib.hid hseen
        clear hbe hseen
        by_cases hlt2 : i < A.length
        · have hlt2' : (i : Int) < (A.length : Int) := by omega
          have hw2 := large_wrap i _ (once_in _ HQ.out A.length hlt) hlt2
          obtain ⟨yb, yoff, rfl, hyb, c0, c1, c2, c3, c4, c5, c6, c7⟩ := (HROW.out.keep HB7.out).act i hlt2 hlt2
          have hno := HFIT.out.no A[i] (List.getElem_mem hlt2)
          have hsk := HSEEN.out.next hlt2
          have htk := fun h : op = false => Cn.Seen.take hlt2 (h ▸ HSEEN.out)
          generalize A[i] = y at *
          obtain ⟨y0, y1, y2, y3, y4, y5, y6, y7⟩ := y
          simp only at hno hsk htk c0 c1 c2 c3 c4 c5 c6 c7
          have HNO := Lib.hid hno
          have HSK := Lib.hid hsk
          have HTK := Lib.hid htk
          clear hno hsk htk HSEEN
          go_upto_region 16 with (fail)
          have HB8 := Lib.hid (HB7.out.alloc HB7.out.size (.cells #[.int .i64 y0, .int .i64 y1, .int .i64 y2, .int .i64 y3, .int .i64 y4, .int .i64 y5, .string y6, .int .i64 y7] 38))
          have HY := Lib.hid (Has.new wr #[.int .i64 y0, .int .i64 y1, .int .i64 y2, .int .i64 y3, .int .i64 y4, .int .i64 y5, .string y6, .int .i64 y7] 38)
          clear c0 c1 c2 c3 c4 c5 c6 c7 HB7 hyb
          generalize wr.heap.size = py at *
          generalize wr.alloc (.cells #[.int .i64 y0, .int .i64 y1, .int .i64 y2, .int .i64 y3, .int .i64 y4, .int .i64 y5, .string y6, .int .i64 y7] 38) = w8 at *
          have c0 := (HX.out.below HB8.out HX.out.lt).cell 0; have c1 := (HX.out.below HB8.out HX.out.lt).cell 1
          have e0 := HY.out.cell 0; have e1 := HY.out.cell 1
          simp only [List.getElem?_toArray, List.getElem?_cons_zero, List.getElem?_cons_succ] at c0 c1 e0 e1
          clear HY
          by_cases j : y1 = x1
          · by_cases b1 : y0 = 1
            · have HNX := Lib.hid (HSK.out (fun _ h3 => by omega))
              subst b1 j
              clear HNO HSK HTK
              go_wp2_with fail
              go_roundw
              case rel => exact ⟨i + 1, op, hlt2, rfl, by go_num, HNX.out, HB8.out⟩
              case measure => rw [hw2]; exact large_meas i _ hlt2
            · by_cases b2 : x0 = 1
              · have HNX := Lib.hid (HSK.out (fun _ _ => .inl b2))
                have q1 : (y0 == 1) = false := by simpa using b1
                subst b2 j
                clear HNO HSK HTK b1
                go_wp2_with fail
                go_roundw
                case rel => exact ⟨i + 1, op, hlt2, rfl, by go_num, HNX.out, HB8.out⟩
                case measure => rw [hw2]; exact large_meas i _ hlt2
              · by_cases b3 : x0 = 8
                · have HNX := Lib.hid (HSK.out (fun _ _ => .inr b3))
                  have q1 : (y0 == 1) = false := by simpa using b1
                  subst b3 j
                  clear HNO HSK HTK b1 b2
                  go_wp2_with fail
                  go_roundw
                  case rel => exact ⟨i + 1, op, hlt2, rfl, by go_num, HNX.out, HB8.out⟩
                  case measure => rw [hw2]; exact large_meas i _ hlt2
                · by_cases b4 : y0 = 8
                  · have HNX := Lib.hid (HSK.out (fun _ h3 => by omega))
                    have q2 : (x0 == 1) = false := by simpa using b2
                    have q3 : (x0 == 8) = false := by simpa using b3
                    subst b4 j
                    clear HNO HSK HTK b1 b2 b3
                    go_wp2_with fail
                    go_roundw
                    case rel => exact ⟨i + 1, op, hlt2, rfl, by go_num, HNX.out, HB8.out⟩
                    case measure => rw [hw2]; exact large_meas i _ hlt2
                  · obtain ⟨n3, n6, n5⟩ := HNO.out j b1 b2 b3 b4
                    have q1 : (y0 == 1) = false := by simpa using b1
                    have q2 : (x0 == 1) = false := by simpa using b2
                    have q3 : (x0 == 8) = false := by simpa using b3
                    have q4 : (y0 == 8) = false := by simpa using b4
                    have q5 : (x0 == 3) = false := by simpa using n3
                    have q6 : (y0 == 6) = false := by simpa using n6
                    subst j
                    clear b1 b2 b3 b4 n3 n6 HNO
                    cases op with
                    | true =>
                      have HNX := Lib.hid (show Cn.Seen A ⟨x0, y1, x2, x3, x4, x5, x6, x7⟩ (i + 1) true from .inl rfl)
                      clear HSK HTK
                      by_cases d4 : x0 = 4
                      · by_cases d5 : y0 = 5
                        · exact absurd d4 (n5 d5).1
                        · have q7 : (y0 == 5) = false := by simpa using d5
                          subst d4
                          clear d5 n5
                          go_wp2_with fail
                          go_roundw
                          case rel => exact ⟨i + 1, true, hlt2, rfl, by go_num, HNX.out, HB8.out⟩
                          case measure => rw [hw2]; exact large_meas i _ hlt2
                      · have q8 : (x0 == 4) = false := by simpa using d4
                        by_cases d5 : y0 = 5
                        · have q9 : (x0 == 5) = false := by simpa using (n5 d5).2
                          subst d5
                          clear d4 n5
                          go_wp2_with fail
                          go_roundw
                          case rel => exact ⟨i + 1, true, hlt2, rfl, by go_num, HNX.out, HB8.out⟩
                          case measure => rw [hw2]; exact large_meas i _ hlt2
                        · have q7 : (y0 == 5) = false := by simpa using d5
                          clear d4 d5 n5
                          go_wp2_with fail
                          go_roundw
                          case rel => exact ⟨i + 1, true, hlt2, rfl, by go_num, HNX.out, HB8.out⟩
                          case measure => rw [hw2]; exact large_meas i _ hlt2
                    | false =>
                      have HNX := Lib.hid (HTK.out rfl)
                      clear HSK HTK
                      by_cases d4 : x0 = 4
                      · by_cases d5 : y0 = 5
                        · exact absurd d4 (n5 d5).1
                        · have q7 : (y0 == 5) = false := by simpa using d5
                          subst d4
                          clear d5 n5
                          go_wp2_with fail
                          go_roundw
                          case rel => exact ⟨i + 1, (y0 == 3), hlt2, rfl, by go_num, HNX.out, HB8.out⟩
                          case measure => rw [hw2]; exact large_meas i _ hlt2
                      · have q8 : (x0 == 4) = false := by simpa using d4
                        by_cases d5 : y0 = 5
                        · have q9 : (x0 == 5) = false := by simpa using (n5 d5).2
                          subst d5
                          clear d4 n5
                          go_wp2_with fail
                          go_roundw
                          case rel => exact ⟨i + 1, ((5 : Int) == 3), hlt2, rfl, by go_num, HNX.out, HB8.out⟩
                          case measure => rw [hw2]; exact large_meas i _ hlt2
                        · have q7 : (y0 == 5) = false := by simpa using d5
                          clear d4 d5 n5
                          go_wp2_with fail
                          go_roundw
                          case rel => exact ⟨i + 1, (y0 == 3), hlt2, rfl, by go_num, HNX.out, HB8.out⟩
                          case measure => rw [hw2]; exact large_meas i _ hlt2
          · have HNX := Lib.hid (HSK.out (fun h _ => absurd h j))
            have q1 : (y1 != x1) = true := by simpa using j
            clear HNO HSK HTK j
            go_wp2_with fail
            go_roundw
            case rel => exact ⟨i + 1, op, hlt2, rfl, by go_num, HNX.out, HB8.out⟩
            case measure => rw [hw2]; exact large_meas i _ hlt2
        · have hlt2' : ¬ (i : Int) < (A.length : Int) := by omega
          have hiA : i = A.length := by omega
          subst hiA
          have hlast := fun h : op = false => Cn.Seen.last (h ▸ HSEEN.out) HFIT.out
          have HLAST := Lib.hid hlast
          have HX2 := HX.out.below HB7.out HX.out.lt
          clear hlast HSEEN HX
          have HX := Lib.hid HX2
          clear HX2
          have c0 := HX.out.cell 0; have c1 := HX.out.cell 1; have c2 := HX.out.cell 2; have c3 := HX.out.cell 3; have c4 := HX.out.cell 4; have c5 := HX.out.cell 5; have c6 := HX.out.cell 6; have c7 := HX.out.cell 7
          simp only [List.getElem?_toArray, List.getElem?_cons_zero, List.getElem?_cons_succ] at c0 c1 c2 c3 c4 c5 c6 c7
          cases op with
          | true =>
            clear HLAST
            go_wp2_with (at_builtin; refine appendS Tryd.underlying47 info_cact rfl (by decide) rfl _ _ rfl B A.length _ _ rfl (ownsRow_keep HOW7.out HB7.out) #[Value.int .i64 x0, Value.int .i64 x1, Value.int .i64 x2, Value.int .i64 x3, Value.int .i64 x4, Value.int .i64 x5, Value.string x6, Value.int .i64 x7] rfl (by intro u hu; simp at hu; rcases hu with rfl | rfl | rfl | rfl | rfl | rfl | rfl | rfl <;> rfl) _ rfl rfl HMX.out.1 HMX.out.2 (Nat.le_trans HBB.out HB7.out.size) ?_)
            intro g cap9 w9 ho9 hc9 hb9 _ _ _
            have HO9 := Lib.hid ((HO7.out.keep HB7.out).belowB hb9 HLOW.out HB0.out)
            have HW9 := Lib.hid (show w9.ownsRow B 38 8 (.slice (some ⟨g, 0, none⟩) (A.length + 1) cap9) (A ++ [Cn.Act.mk x0 x1 x2 x3 x4 x5 x6 x7]).length ((A ++ [Cn.Act.mk x0 x1 x2 x3 x4 x5 x6 x7]).flatMap accells) by rw [List.length_append, List.flatMap_append]; exact ho9)
            have HS9 := Lib.hid (Nat.le_trans (Nat.le_trans HBB.out HB7.out.size) hb9.size)
            clear ho9 hc9 hb9 c0 c1 c2 c3 c4 c5 c6 c7
            go_wp2_with fail
            go_roundw
            case rel => exact ⟨A.length + 1, A ++ [Cn.Act.mk x0 x1 x2 x3 x4 x5 x6 x7], hlt, by go_num, List.length_append, HO9.out, HW9.out, HON.out, HS9.out⟩
            case measure => rw [hw]; exact large_meas A.length _ hlt
          | false =>
            have hl := HLAST.out rfl
            simp only at hl
            have q4 : (x0 == 4) = false := by simp; omega
            have q5 : (x0 == 5) = false := by simp; omega
            have q6 : (x0 == 6) = false := by simp; omega
            have q7 : (x0 == 7) = false := by simp; omega
            clear hl HLAST
            go_wp2_with (at_builtin; refine appendS Tryd.underlying47 info_cact rfl (by decide) rfl _ _ rfl B A.length _ _ rfl (ownsRow_keep HOW7.out HB7.out) #[Value.int .i64 x0, Value.int .i64 x1, Value.int .i64 x2, Value.int .i64 x3, Value.int .i64 x4, Value.int .i64 x5, Value.string x6, Value.int .i64 x7] rfl (by intro u hu; simp at hu; rcases hu with rfl | rfl | rfl | rfl | rfl | rfl | rfl | rfl <;> rfl) _ rfl rfl HMX.out.1 HMX.out.2 (Nat.le_trans HBB.out HB7.out.size) ?_)
            intro g cap9 w9 ho9 hc9 hb9 _ _ _
            have HO9 := Lib.hid ((HO7.out.keep HB7.out).belowB hb9 HLOW.out HB0.out)
            have HW9 := Lib.hid (show w9.ownsRow B 38 8 (.slice (some ⟨g, 0, none⟩) (A.length + 1) cap9) (A ++ [Cn.Act.mk x0 x1 x2 x3 x4 x5 x6 x7]).length ((A ++ [Cn.Act.mk x0 x1 x2 x3 x4 x5 x6 x7]).flatMap accells) by rw [List.length_append, List.flatMap_append]; exact ho9)
            have HS9 := Lib.hid (Nat.le_trans (Nat.le_trans HBB.out HB7.out.size) hb9.size)
            clear ho9 hc9 hb9 c0 c1 c2 c3 c4 c5 c6 c7
            go_wp2_with fail
            go_roundw
            case rel => exact ⟨A.length + 1, A ++ [Cn.Act.mk x0 x1 x2 x3 x4 x5 x6 x7], hlt, by go_num, List.length_append, HO9.out, HW9.out, HON.out, HS9.out⟩
            case measure => rw [hw]; exact large_meas A.length _ hlt
    · have hlt' : ¬ (A.length : Int) < (fs.length : Int) := by omega
      go_wp2_with fail
      with_reducible refine (key_walk _ (HT.out.keep HO.out.below)).mono ?_
      rintro r6 w6 ⟨rfl, hb6⟩
      have HB6 := Lib.hid (HO.out.below.trans (hb6.mono HO.out.below.size))
      clear hb6
      go_wp2
      go_ret
      exact ⟨rfl, HB6.out⟩
set_option maxRecDepth 100000 in
set_option maxHeartbeats 1000000 in
theorem connOnce_walk (fs : List Fr.Frm) (fa : Option Addr) (flen fcap : Nat) (w : World) (hfl : fs.length = flen) (hfr : RowS w 3 fa flen fcap (fs.flatMap cfcells)) (_ : ∀ x ∈ fs, I64 x.j ∧ x.d.size ≤ maxLen) (hT : Tabs w) :
    Calls Tryd.prog 4 #[.slice fa flen fcap] w fun r w' => r = .returned (.bool true) ∧ Below w.heap.size w w' := by
  cases hg : Cn.large [] fs with
  | false => exact once_walk fs fa flen fcap w hfl hfr (Cn.large_not _ _ hg).2.1 hT hg
  | true =>
    have HT := Lib.hid hT
    have HLG := Lib.hid (large36_walk [] none 0 0 fs fa flen fcap w rfl ⟨Nat.le_refl _, Nat.zero_le _, rfl, fun _ => ⟨rfl, rfl⟩, fun x hx => nomatch hx⟩ hfl hfr)
    rw [hg] at HLG
    clear hg hfr hT
    go_enter Tryd.func4, Tryd.ntmps4
    go_wp2_with fail
    (with_reducible refine (HLG.out).mono ?_)
    rintro r1 w1 ⟨rfl, hb1⟩
    have HB1 := Lib.hid hb1
    clear hb1 HLG
    go_wp2_with fail
    with_reducible refine (key_walk _ (HT.out.keep HB1.out)).mono ?_
    rintro r6 w6 ⟨rfl, hb6⟩
    have HB6 := Lib.hid (HB1.out.trans (hb6.mono HB1.out.size))
    clear hb6
    go_wp2
    go_ret
    exact ⟨rfl, HB6.out⟩
end Go.Proofs.YtajalllecoclcaaDoor
