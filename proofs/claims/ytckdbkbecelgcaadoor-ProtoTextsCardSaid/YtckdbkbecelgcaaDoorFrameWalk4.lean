/- Encode whole; Decode, of the program and of the reference. -/
import Derived.Test.YtckdbkbecelgcaaDoorFrameWalk3
import Derived.Test.YtckdbkbecelgcaaDoorRet
namespace Go.Proofs.YtckdbkbecelgcaaDoor
open Go.RowKit

set_option maxRecDepth 100000 in
set_option maxHeartbeats 800000 in
theorem xenc_bad (t j : Int) (d : ByteArray) (w : World) (h : Fr.mayT t = false ∨ (Fr.mayT t = true ∧ (j < 0 ∨ 4294967295 < j ∨ 65536 < d.size))) :
    Calls Tryd.prog 35 #[.agg #[.int .i64 t, .int .i64 j, .string d]] w fun e w' => e = .returned (.tuple #[.string ⟨#[]⟩, .int .i64 (Fr.wrong ⟨t, j, d⟩)]) ∧ Below w.heap.size w w' := by
  have hw : Fr.wrong ⟨t, j, d⟩ = if Fr.mayT t = false then 35 else if j < 0 ∨ 4294967295 < j then 1 else if 65536 < d.size then 2 else 0 := rfl
  have HE := Lib.hid hw
  clear hw
  generalize Fr.wrong ⟨t, j, d⟩ = E at *
  generalize hw1 : w.alloc (.cells #[Value.int .i64 t, Value.int .i64 j, Value.string d] 23) = w1
  have hbw : Below w.heap.size w w1 := by rw [← hw1]; exact (Below.refl _ _).alloc (Nat.le_refl _) _
  have hB : w.heap.size < w1.heap.size := by rw [← hw1]; simp
  have c0 : w1.cell? ⟨w.heap.size, 0, none⟩ = some (.int .i64 t) := by rw [← hw1]; exact ((Has.new w _ _).cell 0)
  have c1 : w1.cell? ⟨w.heap.size, 1, none⟩ = some (.int .i64 j) := by rw [← hw1]; exact ((Has.new w _ _).cell 1)
  have c2 : w1.cell? ⟨w.heap.size, 2, none⟩ = some (.string d) := by rw [← hw1]; exact ((Has.new w _ _).cell 2)
  go_enter Tryd.func35, Tryd.ntmps35
  go_wp2_with fail
  refine (may_walk t j d _).mono ?_
  rintro e w2 ⟨rfl, hb⟩
  have d1 : w2.cell? ⟨w.heap.size, 1, none⟩ = some (.int .i64 j) := by rw [hb.cell (p := ⟨w.heap.size, 1, none⟩) hB]; exact c1
  have d2 : w2.cell? ⟨w.heap.size, 2, none⟩ = some (.string d) := by rw [hb.cell (p := ⟨w.heap.size, 2, none⟩) hB]; exact c2
  have hbb := Lib.hid (hbw.trans (hb.mono (Nat.le_of_lt hB)))
  clear hw1 hb hbw
  rcases h with h | ⟨h, h' | h' | h'⟩
  · have HH := Lib.hid h
    rw [h]
    clear h
    go_wp2
    go_ret2
    exact ⟨by rw [HE.out, HH.out]; rfl, hbb.out⟩
  · have HH := Lib.hid h
    rw [h]
    clear h
    have h4 := Lib.hid (Or.inl h' : j < 0 ∨ 4294967295 < j)
    go_wp2
    go_ret2
    exact ⟨by rw [HE.out, HH.out, if_neg (by decide), if_pos h4.out]; rfl, hbb.out⟩
  · have HH := Lib.hid h
    rw [h]
    clear h
    have h3 : ¬ (j < 0) := by omega
    have h4 := Lib.hid (Or.inr h' : j < 0 ∨ 4294967295 < j)
    go_wp2
    go_ret2
    exact ⟨by rw [HE.out, HH.out, if_neg (by decide), if_pos h4.out]; rfl, hbb.out⟩
  · have h2 : (65536 : Int) < (d.size : Int) := by omega
    have HH := Lib.hid h
    have H2 := Lib.hid h'
    rw [h]
    clear h h'
    by_cases h1 : j < 0
    · have h4 := Lib.hid (Or.inl h1 : j < 0 ∨ 4294967295 < j)
      go_wp2
      go_ret2
      exact ⟨by rw [HE.out, HH.out, if_neg (by decide), if_pos h4.out]; rfl, hbb.out⟩
    · by_cases h3 : 4294967295 < j
      · have h4 := Lib.hid (Or.inr h3 : j < 0 ∨ 4294967295 < j)
        go_wp2
        go_ret2
        exact ⟨by rw [HE.out, HH.out, if_neg (by decide), if_pos h4.out]; rfl, hbb.out⟩
      · have h4 := Lib.hid (show ¬ (j < 0 ∨ 4294967295 < j) by omega)
        go_wp2
        go_ret2
        exact ⟨by rw [HE.out, HH.out, if_neg (by decide), if_neg h4.out, if_pos H2.out]; rfl, hbb.out⟩

/-- frame.Encode -/
theorem xenc_walk (f : Fr.Frm) (w : World) :
    Calls Tryd.prog 35 #[fv f] w fun e w' => e = .returned (.tuple #[.string (if Fr.wrong f = 0 then Fr.enc f else ⟨#[]⟩), .int .i64 (Fr.wrong f)]) ∧ Below w.heap.size w w' := by
  obtain ⟨t, j, d⟩ := f
  unfold fv
  by_cases h : Fr.mayT t = false ∨ (Fr.mayT t = true ∧ (j < 0 ∨ 4294967295 < j ∨ 65536 < d.size))
  · have : Fr.wrong ⟨t, j, d⟩ ≠ 0 := by
      unfold Fr.wrong
      rcases h with h | ⟨h, h'⟩
      · simp [h]
      · simp only [h]
        rw [if_neg (by decide)]
        split
        · decide
        · rw [if_pos (by omega)]; decide
    rw [if_neg this]
    exact xenc_bad t j d w h
  · have hm : Fr.mayT t = true := by
      cases hmt : Fr.mayT t with
      | true => rfl
      | false => exact absurd (.inl hmt) h
    have h' : 0 ≤ j ∧ j ≤ 4294967295 ∧ d.size ≤ 65536 := by
      refine ⟨?_, ?_, ?_⟩ <;> (apply Classical.byContradiction; intro hn; exact h (.inr ⟨hm, by omega⟩))
    obtain ⟨h1, h2, h3⟩ := h'
    have hb := Fr.mayT_bd hm
    have : Fr.wrong ⟨t, j, d⟩ = 0 := by
      unfold Fr.wrong
      simp only [hm]
      rw [if_neg (by decide), if_neg (by omega), if_neg (by omega)]
    rw [this, if_pos rfl]
    obtain ⟨m, rfl⟩ : ∃ m : Nat, t = m := ⟨t.toNat, by omega⟩
    obtain ⟨n, rfl⟩ : ∃ n : Nat, j = n := ⟨j.toNat, by omega⟩
    exact xenc_ok m n d w hm (by omega) h3

theorem refenc (f : Fr.Frm) (w : World) (h : Fr.wrong f = 0) :
    Calls Tryd.prog 21 #[fv f] w fun e w' => e = .returned (.string (Fr.enc f)) ∧ Below w.heap.size w w' := by
  obtain ⟨t, j, d⟩ := f
  unfold fv
  unfold Fr.wrong at h
  simp only at h
  have hm : Fr.mayT t = true := by
    cases hmt : Fr.mayT t with
    | true => rfl
    | false => rw [hmt, if_pos rfl] at h; cases h
  have hb := Fr.mayT_bd hm
  rw [hm, if_neg (by decide)] at h
  by_cases hj : j < 0 ∨ 4294967295 < j
  · rw [if_pos hj] at h; cases h
  rw [if_neg hj] at h
  by_cases hd : 65536 < d.size
  · rw [if_pos hd] at h; cases h
  obtain ⟨m, rfl⟩ : ∃ m : Nat, t = m := ⟨t.toNat, by omega⟩
  obtain ⟨n, rfl⟩ : ∃ n : Nat, j = n := ⟨j.toNat, by omega⟩
  exact refenc_walk m n d w (by omega) (by omega) (by omega)
end Go.Proofs.YtckdbkbecelgcaaDoor
