/- The answers of bytes. -/
import Derived.Test.YtckdbkbecelgcaaDoorPrHear
import Derived.Test.YtckdbkbecelgcaaDoorFrameLaw5
namespace Go.Proofs.YtckdbkbecelgcaaDoor
open Go.RowKit
set_option linter.unusedVariables false

namespace Pr
/-- all frames heard, behind those heard already -/
def told : List Fr.Frm → List An → List An × Int
  | [], o => (o, 0)
  | f :: fs, o => match hear f with
    | some a => told fs (o ++ [a])
    | none => ([], 35)
/-- the answers of bytes -/
def allA (s : ByteArray) : List An × Int := if (Fr.run s s.size 0 []).2.2 ≠ 0 then ([], (Fr.run s s.size 0 []).2.2) else told (Fr.run s s.size 0 []).1 []
theorem told_end (fs : List Fr.Frm) (k : Nat) (o : List An) (h : fs.length ≤ k) : told (fs.drop k) o = (o, 0) := by
  rw [List.drop_eq_nil_of_le h]; rfl
theorem told_some (fs : List Fr.Frm) (k : Nat) (o : List An) (h : k < fs.length) (a : An) (ha : hear fs[k] = some a) : told (fs.drop k) o = told (fs.drop (k + 1)) (o ++ [a]) := by
  rw [List.drop_eq_getElem_cons h]
  show (match hear fs[k] with | some a => told (fs.drop (k + 1)) (o ++ [a]) | none => ([], 35)) = _
  rw [ha]
theorem told_none (fs : List Fr.Frm) (k : Nat) (o : List An) (h : k < fs.length) (ha : hear fs[k] = none) : told (fs.drop k) o = ([], 35) := by
  rw [List.drop_eq_getElem_cons h]
  show (match hear fs[k] with | some a => told (fs.drop (k + 1)) (o ++ [a]) | none => ([], 35)) = _
  rw [ha]
theorem told_length : ∀ (fs : List Fr.Frm) (o : List An), (told fs o).1.length ≤ o.length + fs.length
  | [], o => Nat.le_refl _
  | f :: fs, o => by
    unfold told
    split
    · rename_i a _
      have := told_length fs (o ++ [a])
      rw [List.length_append] at this
      simp at this ⊢
      omega
    · exact Nat.zero_le _
end Pr
/-- an answer's cells -/
def acells (a : Pr.An) : List Value := [.int .i64 a.t, .int .i64 a.j, .string a.txt, .int .i64 a.err]
theorem acells_len (l : List Pr.An) : (l.flatMap acells).length = l.length * 4 := by
  induction l with
  | nil => rfl
  | cons f fs ih => simp [acells, ih]; omega
theorem acells_get (l : List Pr.An) (i : Nat) (h : i < l.length) : (l.flatMap acells).getD (i * 4 + 0) undef = .int .i64 l[i].t ∧ (l.flatMap acells).getD (i * 4 + 1) undef = .int .i64 l[i].j ∧ (l.flatMap acells).getD (i * 4 + 2) undef = .string l[i].txt ∧ (l.flatMap acells).getD (i * 4 + 3) undef = .int .i64 l[i].err := by
  induction l generalizing i with
  | nil => cases h
  | cons f fs ih =>
    cases i with
    | zero => exact ⟨rfl, rfl, rfl, rfl⟩
    | succ i =>
      have := ih i (by simpa using h)
      have e : ∀ j, (i + 1) * 4 + j = (i * 4 + j) + 4 := fun j => by omega
      simp only [List.flatMap_cons, e, acells, List.cons_append, List.nil_append, List.getD_cons_succ, List.getElem_cons_succ]
      exact this
theorem info_answer : (Tryd.prog.info? 42).map (fun i => (i.zero, i.size, i.bytes)) = some (some (.agg #[.int .i64 0, .int .i64 0, .string ⟨#[]⟩, .int .i64 0]), 4, 40) := by kernel_rfl
theorem info_ranswer : (Tryd.prog.info? 45).map (fun i => (i.zero, i.size, i.bytes)) = some (some (.agg #[.int .i64 0, .int .i64 0, .string ⟨#[]⟩, .int .i64 0]), 4, 40) := by kernel_rfl

set_option maxRecDepth 100000 in
set_option maxHeartbeats 2000000 in
theorem answers_walk (s : ByteArray) (w : World) (hS : s.size ≤ 1000) : Calls Tryd.prog 22 #[.string s] w fun e w' => ∃ v, e = .returned (.tuple #[v, .int .i64 (Pr.allA s).2]) ∧
      w'.ownsRow w.heap.size 42 4 v (Pr.allA s).1.length ((Pr.allA s).1.flatMap acells) ∧ Below w.heap.size w w' := by
  have H1 := Lib.hid (xall_walk s w hS)
  have hal : Pr.allA s = if (Fr.run s s.size 0 []).2.2 ≠ 0 then ([], (Fr.run s s.size 0 []).2.2) else Pr.told (Fr.run s s.size 0 []).1 [] := rfl
  have hlen := Fr.run_length s s.size 0 []
  generalize Fr.run s s.size 0 [] = R at *
  generalize Pr.allA s = A at *
  obtain ⟨fs, p, er⟩ := R
  simp only [List.length_nil, Nat.zero_add] at H1 hal hlen
  have Hlen := Lib.hid (show fs.length ≤ 1000 by omega)
  clear hlen hS
  by_cases he : er = 0
  · subst he
    have HA := Lib.hid (show Pr.told fs [] = A by rw [hal, if_neg (by simp)])
    clear hal
    go_enter Tryd.func22, Tryd.ntmps22
    go_wp2_with fail
    refine H1.out.mono ?_
    rintro e w1 ⟨v1, rfl, ho1, hb1⟩
    obtain ⟨a1, c1, rfl, hr1, _⟩ := rowS_owns ho1
    have Hr1 := Lib.hid hr1
    have Hb1 := Lib.hid hb1
    clear ho1 hr1 hb1
    go_wp2_with fail
    go_loopw [7, 23] (fun v i wr => ∃ (k : Nat) (l : List Pr.An), k ≤ fs.length ∧ i = .int .i64 k ∧ Pr.told (fs.drop k) l = A ∧ l.length ≤ k ∧ wr.ownsRow w1.heap.size 42 4 v l.length (l.flatMap acells) ∧ Below w1.heap.size w1 wr) (fun _ i _ => fs.length - (intOf i).toNat)
    case atStart => exact ⟨0, [], Nat.zero_le _, rfl, HA.out, Nat.le_refl _, World.ownsRow_nil _ _ _ _, Below.refl _ _⟩
    case round =>
      obtain ⟨k, l, hk, rfl, htold, hlk, hown, hbr⟩ := hrel
      have Hown := Lib.hid hown
      have Hbr := Lib.hid hbr
      clear hown hbr
      by_cases hlt : k < fs.length
      · obtain ⟨ba, oa, rfl, hba, hca⟩ := (Hr1.out.keep Hbr.out).at k hlt
        obtain ⟨e0, e1, e2⟩ := fcells_get fs k hlt
        have a0 := hca 0 (by decide); have a1 := hca 1 (by decide); have a2 := hca 2 (by decide)
        rw [e0] at a0
        rw [e1] at a1
        rw [e2] at a2
        clear hca e0 e1 e2
        have hsome := Pr.told_some fs k l hlt
        have hnone := Pr.told_none fs k l hlt
        rw [htold] at hsome hnone
        generalize fs[k] = f at *
        obtain ⟨t, j, d⟩ := f
        simp only at a0 a1 a2
        simp only [← Nat.add_assoc, Nat.add_zero] at a0 a1 a2
        have hk1 : (k : Int) < (fs.length : Int) := by omega
        have HH := Lib.hid (fun w => phear_walk t j d w)
        cases hh : Pr.hear ⟨t, j, d⟩ with
        | some a =>
          have Htold := Lib.hid (hsome a hh).symm
          rw [hh] at HH
          obtain ⟨b1, b2, b3, b4⟩ := a
          simp only [hearV] at HH
          clear hh hsome hnone htold
          go_wp2_with fail
          refine (HH.out _).mono ?_
          rintro e w2 ⟨rfl, hb2⟩
          have hbx := (((Below.refl wr.heap.size wr).alloc (Nat.le_refl _) (.cells #[Value.int .i64 t, Value.int .i64 j, Value.string d] 23)).trans (hb2.mono (by simp)))
          have hown1 := (ownsRow_keep Hown.out hbx).alloc (.cells #[Value.int .i64 b1, Value.int .i64 b2, Value.string b3, Value.int .i64 b4] 42)
          have hb3 := Hbr.out.trans (((hbx.trans ((Below.refl w2.heap.size w2).alloc (Nat.le_refl _) (.cells #[Value.int .i64 b1, Value.int .i64 b2, Value.string b3, Value.int .i64 b4] 42) |>.mono hbx.size))).mono Hbr.out.size)
          have Hown1 := Lib.hid hown1
          have Hb3 := Lib.hid hb3
          clear hb2 hbx hown1 hb3 Hown Hbr a0 a1 a2
          go_wp2_with (at_builtin; refine appendS Tryd.underlying58 info_answer rfl (by decide) rfl _ _ rfl w1.heap.size l.length _ _ rfl Hown1.out #[Value.int .i64 b1, Value.int .i64 b2, Value.string b3, Value.int .i64 b4] rfl (by intro u hu; simp at hu; rcases hu with rfl | rfl | rfl | rfl <;> rfl) _ rfl (by simp) (by unfold maxLen; have := Hlen.out; omega) (by have := Hlen.out; omega) Hb3.out.size ?_)
          intro g cap' w3 ho hc hb4 _ _ _
          have ho2 : w3.ownsRow w1.heap.size 42 4 (.slice (some ⟨g, 0, none⟩) (l.length + 1) cap') (l ++ [Pr.An.mk b1 b2 b3 b4]).length ((l ++ [Pr.An.mk b1 b2 b3 b4]).flatMap acells) := by
            rw [List.length_append, List.flatMap_append]
            exact ho
          have hb5 := Hb3.out.trans hb4
          have hkw := Hlen.out
          clear ho hc hb4 Hown1 Hb3
          go_wp2
          go_roundw
          case rel => exact ⟨k + 1, l ++ [⟨b1, b2, b3, b4⟩], hlt, by go_num, Htold.out, by rw [List.length_append]; show l.length + 1 ≤ _; omega, ho2, hb5⟩
          case measure => simp [intOf]; omega
        | none =>
          have HN := Lib.hid (hnone hh)
          rw [hh] at HH
          simp only [hearV] at HH
          clear hh hsome hnone htold
          go_wp2_with fail
          refine (HH.out _).mono ?_
          rintro e w2 ⟨rfl, hb2⟩
          have hbx := (((Below.refl wr.heap.size wr).alloc (Nat.le_refl _) (.cells #[Value.int .i64 t, Value.int .i64 j, Value.string d] 23)).trans (hb2.mono (by simp)))
          have hb3 := Hbr.out.trans (((hbx.trans ((Below.refl w2.heap.size w2).alloc (Nat.le_refl _) (.cells #[Value.int .i64 0, Value.int .i64 0, Value.string ⟨#[]⟩, Value.int .i64 0] 42) |>.mono hbx.size))).mono Hbr.out.size)
          have Hb3 := Lib.hid (Hb1.out.trans (hb3.mono Hb1.out.size))
          clear hb2 hbx hb3 Hown Hbr a0 a1 a2
          go_wp2
          (try simp only [Exit.inBlock, Exit.then])
          refine bodyPost_ret (results_tmp2 rfl _ _ _) rfl ?_
          rw [HN.out]
          exact ⟨_, rfl, World.ownsRow_nil _ _ _ _, Hb3.out⟩
      · have hR2 := Lib.hid ((Pr.told_end fs k l (by omega)).symm.trans htold)
        have hlt' : ¬ ((k : Int) < (fs.length : Int)) := by omega
        clear htold
        go_wp2
        (try simp only [Exit.inBlock, Exit.then])
        refine bodyPost_ret (results_tmp2 rfl _ _ _) rfl ?_
        rw [← hR2.out]
        exact ⟨_, rfl, ownsRow_mono Hown.out Hb1.out.size, Hb1.out.trans (Hbr.out.mono Hb1.out.size)⟩
  · have HA := Lib.hid (show A = ([], er) by rw [hal, if_pos he])
    have he' : (er == 0) = false := by simpa using he
    clear hal
    go_enter Tryd.func22, Tryd.ntmps22
    go_wp2_with fail
    refine H1.out.mono ?_
    rintro e w1 ⟨v1, rfl, ho1, hb1⟩
    have Hb1 := Lib.hid hb1
    clear ho1 hb1
    go_wp2
    (try simp only [Exit.inBlock, Exit.then])
    refine bodyPost_ret (results_tmp2 rfl _ _ _) rfl ?_
    rw [HA.out]
    exact ⟨_, rfl, World.ownsRow_nil _ _ _ _, Hb1.out⟩
end Go.Proofs.YtckdbkbecelgcaaDoor
