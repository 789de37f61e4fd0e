/- The same frames. -/
import Derived.Test.YtngheokngonhjaaFrameAll1
import Derived.Test.YtngheokngonhjaaFrameWalk6
namespace Go.Proofs.Ytngheokngonhjaa
open Go.RowKit

theorem fcells_get (fs : List Fr.Frm) (i : Nat) (h : i < fs.length) : (fs.flatMap fcells).getD (i * 3 + 0) undef = .int .i64 fs[i].t ∧ (fs.flatMap fcells).getD (i * 3 + 1) undef = .int .i64 fs[i].j ∧ (fs.flatMap fcells).getD (i * 3 + 2) undef = .string fs[i].d := by
  induction fs generalizing i with
  | nil => cases h
  | cons f fs ih =>
    cases i with
    | zero => exact ⟨rfl, rfl, rfl⟩
    | succ i =>
      have := ih i (by simpa using h)
      have e : ∀ j, (i + 1) * 3 + j = (i * 3 + j) + 3 := fun j => by omega
      simp only [List.flatMap_cons, e, fcells, List.cons_append, List.nil_append, List.getD_cons_succ, List.getElem_cons_succ]
      exact this

set_option maxRecDepth 100000 in
set_option maxHeartbeats 2000000 in
theorem same_walk (fs : List Fr.Frm) (a b : Option Addr) (len ca cb : Nat) (w : World) (ha : RowS w 3 a len ca (fs.flatMap fcells)) (hb : RowS w 3 b len cb (fs.flatMap fcells)) (hl : fs.length = len) (hm : len ≤ 100000) :
    Calls Try.prog 13 #[.slice a len ca, .slice b len cb] w fun e w' => e = .returned (.bool true) ∧ Below w.heap.size w w' := by
  have HA := Lib.hid ha
  have HB := Lib.hid hb
  have HL := Lib.hid hl
  clear ha hb hl
  go_enter Try.func13, Try.ntmps13
  go_wp2
  go_loopw [14] (fun i wr => ∃ k : Nat, k ≤ len ∧ i = .int .i64 k ∧ Below w.heap.size w wr) (fun i _ => len - (intOf i).toNat)
  case atStart => exact ⟨0, Nat.zero_le _, rfl, Below.refl _ _⟩
  case round =>
    obtain ⟨k, hk, rfl, hbr⟩ := hrel
    by_cases hlt : k < len
    · have hkl : k < fs.length := by rw [HL.out]; exact hlt
      obtain ⟨ba, oa, rfl, hba, hca⟩ := (HA.out.keep hbr).at k hlt
      obtain ⟨bb, ob, rfl, hbb, hcb⟩ := (HB.out.keep hbr).at k hlt
      obtain ⟨e0, e1, e2⟩ := fcells_get fs k hkl
      have a0 := hca 0 (by decide); have a1 := hca 1 (by decide); have a2 := hca 2 (by decide)
      have b0 := hcb 0 (by decide); have b1 := hcb 1 (by decide); have b2 := hcb 2 (by decide)
      rw [e0] at a0 b0
      rw [e1] at a1 b1
      rw [e2] at a2 b2
      have Hbr := Lib.hid hbr
      clear hca hcb e0 e1 e2 hbr
      generalize fs[k] = f at *
      obtain ⟨t, j, d⟩ := f
      simp only at a0 a1 a2 b0 b1 b2
      simp only [← Nat.add_assoc, Nat.add_zero] at a0 a1 a2 b0 b1 b2
      have hk1 : (k : Int) < (len : Int) := by omega
      have W6 := Has.new wr #[Value.int .i64 t, Value.int .i64 j, Value.string d] 33
      have hsz6 : (wr.alloc (.cells #[Value.int .i64 t, Value.int .i64 j, Value.string d] 33)).heap.size = wr.heap.size + 1 := by simp
      have b06 : (wr.alloc (.cells #[Value.int .i64 t, Value.int .i64 j, Value.string d] 33)).cell? ⟨bb, ob + k * 3, none⟩ = some (.int .i64 t) := by rw [((Below.refl wr.heap.size wr).alloc (Nat.le_refl _) _).cell (p := ⟨bb, ob + k * 3, none⟩) hbb]; exact b0
      have b16 : (wr.alloc (.cells #[Value.int .i64 t, Value.int .i64 j, Value.string d] 33)).cell? ⟨bb, ob + k * 3 + 1, none⟩ = some (.int .i64 j) := by rw [((Below.refl wr.heap.size wr).alloc (Nat.le_refl _) _).cell (p := ⟨bb, ob + k * 3 + 1, none⟩) hbb]; exact b1
      have b26 : (wr.alloc (.cells #[Value.int .i64 t, Value.int .i64 j, Value.string d] 33)).cell? ⟨bb, ob + k * 3 + 2, none⟩ = some (.string d) := by rw [((Below.refl wr.heap.size wr).alloc (Nat.le_refl _) _).cell (p := ⟨bb, ob + k * 3 + 2, none⟩) hbb]; exact b2
      have Hb6 := Lib.hid (Hbr.out.trans (((Below.refl wr.heap.size wr).alloc (Nat.le_refl _) (.cells #[Value.int .i64 t, Value.int .i64 j, Value.string d] 33)).mono Hbr.out.size))
      have HW := Lib.hid W6
      have HB0 := Lib.hid b06; have HB1 := Lib.hid b16; have HB2 := Lib.hid b26
      clear W6 hsz6 b06 b16 b26 b0 b1 b2
      go_wp2_with fail
      generalize wr.alloc (.cells #[Value.int .i64 t, Value.int .i64 j, Value.string d] 33) = w6 at *
      have m0 : ∀ x : Later w6, x.at.cell? ⟨wr.heap.size, 0, none⟩ = some (.int .i64 t) := fun x => x.cell (HW.out.cell 0)
      have m1 : ∀ x : Later w6, x.at.cell? ⟨wr.heap.size, 1, none⟩ = some (.int .i64 j) := fun x => x.cell (HW.out.cell 1)
      have m2 : ∀ x : Later w6, x.at.cell? ⟨wr.heap.size, 2, none⟩ = some (.string d) := fun x => x.cell (HW.out.cell 2)
      have p0 : ∀ x : Later w6, x.at.cell? ⟨bb, ob + k * 3, none⟩ = some (.int .i64 t) := fun x => x.cell HB0.out
      have p1 : ∀ x : Later w6, x.at.cell? ⟨bb, ob + k * 3 + 1, none⟩ = some (.int .i64 j) := fun x => x.cell HB1.out
      have p2 : ∀ x : Later w6, x.at.cell? ⟨bb, ob + k * 3 + 2, none⟩ = some (.string d) := fun x => x.cell HB2.out
      refine region_later 6 (by kernel_rfl) (by kernel_rfl) ?_
      simp only [List.take_succ_cons, List.take_zero, List.drop_succ_cons, List.drop_zero]
      repeat (go_big_quiet_step (fail))
      refine wpQuiet_nil ?_
      rintro w' ⟨x, rfl⟩
      have Hb7 := Lib.hid (Hb6.out.trans (x.below.mono Hb6.out.size))
      clear m0 m1 m2 p0 p1 p2
      generalize x.at = w7 at *
      go_wp2_with fail
      go_roundw
      case rel => exact ⟨k + 1, hlt, by go_num, Hb7.out⟩
      case measure => simp [intOf]; omega
    · have hk1 : ¬ (k : Int) < (len : Int) := by omega
      have Hbr := Lib.hid hbr
      clear hbr
      go_wp2
      go_ret
      exact ⟨rfl, Hbr.out⟩
end Go.Proofs.Ytngheokngonhjaa
