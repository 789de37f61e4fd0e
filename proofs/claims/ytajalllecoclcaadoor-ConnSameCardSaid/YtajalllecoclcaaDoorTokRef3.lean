/- The reference of runes: Runes, Is, May, Word. -/
import Derived.Test.YtajalllecoclcaaDoorTokRef2
import Derived.Test.YtajalllecoclcaaDoorRleRef2
namespace Go.Proofs.YtajalllecoclcaaDoor
open Go.RowKit
set_option linter.unusedVariables false
set_option linter.unusedSimpArgs false

def rnCells (p : Int × Nat) : List Value := [.int .i64 p.1, .int .i64 (p.2 : Int)]
theorem rnCells_len (l : List (Int × Nat)) : (l.flatMap rnCells).length = l.length * 2 := by
  induction l with
  | nil => rfl
  | cons p l ih => simp [rnCells, ih]; omega
theorem flat_getR (R : List (Int × Nat)) (k j : Nat) (h : k < R.length) (hj : j < 2) : (R.flatMap rnCells).getD (k * 2 + j) undef = (rnCells R[k]).getD j undef := flat_get rnCells 2 (fun _ => rfl) R k j h hj
theorem info_rune : (Tryd.prog.info? 101).map (fun i => (i.zero, i.size, i.bytes)) = some (some (.agg #[.int .i64 0, .int .i64 0]), 2, 16) := by kernel_rfl
set_option maxRecDepth 100000 in
set_option maxHeartbeats 1600000 in
theorem refrunes_walk (s : ByteArray) (w : World) (hs : s.size ≤ 100000) :
    Calls Tryd.prog 58 #[.string s] w fun e w' => ∃ v, e = .returned v ∧ w'.ownsRow w.heap.size 101 2 v (Tk.runes s.data.toList).length ((Tk.runes s.data.toList).flatMap rnCells) ∧ Below w.heap.size w w' := by
  have hlen := Tk.runes_le s.data.toList
  rw [llen] at hlen
  generalize hR : Tk.runes s.data.toList = R at *
  have HR := Lib.hid hR
  clear hR
  go_enter Tryd.func58, Tryd.ntmps58
  go_wp2_with fail
  go_loopw [0, 3] (fun x v wr => ∃ (t : ByteArray) (ps : List (Int × Nat)), x = .string t ∧ ps ++ Tk.runes t.data.toList = R ∧ t.size ≤ s.size ∧ wr.ownsRow w.heap.size 101 2 v ps.length (ps.flatMap rnCells) ∧ Below w.heap.size w wr) (fun x _ _ => strLen x)
  case atStart => exact ⟨s, [], rfl, HR.out, Nat.le_refl _, World.ownsRow_nil _ _ _ _, Below.refl _ _⟩
  case round =>
    obtain ⟨t, ps, rfl, hp, ht, hown, hbr⟩ := hrel
    have HO := Lib.hid hown
    have HB := Lib.hid hbr
    clear hown hbr
    by_cases h0 : 0 < t.size
    · have h0' : (0 : Int) < (t.size : Int) := by omega
      have HW := Lib.hid (fun w => rfirst_walk t w h0)
      have hat := Tk.runes_at t.data.toList 0 (by rw [llen]; exact h0)
      have hdb := Tk.d_at t.data.toList 0 (by rw [llen]; exact h0)
      rw [List.drop_zero, Nat.zero_add] at hat
      rw [List.drop_zero, Nat.zero_add, llen] at hdb
      rw [hat] at hp
      obtain ⟨hr1, hr2, -⟩ := hdb
      generalize (Tk.d t.data.toList).2 = n at *
      generalize Tk.num (Tk.d t.data.toList) = c at *
      have hln : ps.length < R.length := by rw [← hp]; simp
      have HP := Lib.hid (show (ps ++ [(c, n)]) ++ Tk.runes (t.extract n t.size).data.toList = R by rw [list_from, List.append_assoc]; exact hp)
      have hsz : (t.extract n t.size).size = t.size - n := by rw [ByteArray.size_extract]; omega
      have hsl := run_slice_from Tryd.underlying9 t n (n : Int) rfl hr2
      have hln2 : ps.length < 200000 := by omega
      generalize t.extract n t.size = u at *
      clear hp hat
      go_wp2_with fail
      (with_reducible refine (HW.out _).mono ?_)
      rintro e w1 ⟨rfl, hb1⟩
      have HO1 := Lib.hid (ownsRow_keep HO.out hb1)
      have HB1 := Lib.hid (HB.out.trans (hb1.mono HB.out.size))
      clear hb1 HO HB HW
      go_upto_region 4 with (fail)
      have HO2 := Lib.hid (HO1.out.alloc (.cells #[.int .i64 c, .int .i64 (n : Int)] 101))
      have HB2 := Lib.hid (HB1.out.alloc HB1.out.size (.cells #[.int .i64 c, .int .i64 (n : Int)] 101))
      have HX2 := Lib.hid (Has.new w1 #[.int .i64 c, .int .i64 (n : Int)] 101)
      have HN2 := Lib.hid (own_not HO1.out (.inr (Nat.le_refl w1.heap.size)))
      clear HO1 HB1
      generalize w1.heap.size = q at *
      generalize w1.alloc (.cells #[.int .i64 c, .int .i64 (n : Int)] 101) = w2 at *
      have x0 := HX2.out.cell 0; have x1 := HX2.out.cell 1
      simp only [List.getElem?_toArray, List.getElem?_cons_zero, List.getElem?_cons_succ] at x0 x1
      go_wp2_with (at_builtin; refine appendS Tryd.underlying98 info_rune rfl (by decide) rfl _ _ rfl w.heap.size ps.length _ _ rfl HO2.out #[Value.int .i64 c, Value.int .i64 (n : Int)] rfl (by intro u hu; simp at hu; rcases hu with rfl | rfl <;> rfl) _ rfl rfl (by unfold maxLen; omega) (by omega) HB2.out.size ?_)
      intro g cap' w3 ho hc hb3 _ _ _
      have HO3 := Lib.hid (show w3.ownsRow w.heap.size 101 2 (.slice (some ⟨g, 0, none⟩) (ps.length + 1) cap') (ps ++ [(c, n)]).length ((ps ++ [(c, n)]).flatMap rnCells) by
        rw [List.length_append, List.flatMap_append]; exact ho)
      have HB3 := Lib.hid (HB2.out.trans hb3)
      have HX3 := Lib.hid (HX2.out.chg hc (fun h => HN2.out h))
      clear ho hc hb3 x0 x1 HX2 HO2 HB2 HN2
      have y1 := HX3.out.cell 1
      simp only [List.getElem?_toArray, List.getElem?_cons_zero, List.getElem?_cons_succ] at y1
      go_wp2
      go_roundw
      case rel => exact ⟨u, ps ++ [(c, n)], rfl, HP.out, by omega, HO3.out, HB3.out⟩
      case measure => simp [strLen]; omega
    · have h0' : ¬ (0 : Int) < (t.size : Int) := by omega
      have hnil : t.data.toList = [] := List.length_eq_zero_iff.1 (by rw [llen]; omega)
      rw [hnil, Tk.runes_nil, List.append_nil] at hp
      subst hp
      go_wp2
      go_ret
      exact ⟨_, rfl, HO.out, HB.out⟩
end Go.Proofs.YtajalllecoclcaaDoor
