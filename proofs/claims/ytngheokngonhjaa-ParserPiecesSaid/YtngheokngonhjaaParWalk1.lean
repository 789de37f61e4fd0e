/- The parser's small functions. -/
import Derived.Test.YtngheokngonhjaaFrameAll1
import Derived.Test.YtngheokngonhjaaParMath
namespace Go.Proofs.Ytngheokngonhjaa
open Go.RowKit

def Ps.cells (p : Ps) : Array Value := #[.int .i64 (p.room : Int), .string p.s, .int .i64 p.wrong]
/-- block b is just this parser -/
def PAt (w : World) (b : Nat) (p : Ps) : Prop := Has w b p.cells 51
theorem PAt.c {w : World} {b : Nat} {p : Ps} (h : PAt w b p) : w.cell? ⟨b, 0, none⟩ = some (.int .i64 (p.room : Int)) ∧ w.cell? ⟨b, 1, none⟩ = some (.string p.s) ∧ w.cell? ⟨b, 2, none⟩ = some (.int .i64 p.wrong) :=
  ⟨Has.cell h 0, Has.cell h 1, Has.cell h 2⟩
theorem PAt.f {w : World} {b : Nat} {p : Ps} (h : PAt w b p) (i : Nat) : w.frozen? ⟨b, i, none⟩ = false := Has.free h i
theorem PAt.lt {w : World} {b : Nat} {p : Ps} (h : PAt w b p) : b < w.heap.size := Has.lt h
theorem PAt.keep {w w' : World} {b : Nat} {p : Ps} (h : PAt w b p) (k : Below w.heap.size w w') : PAt w' b p := Has.below h k h.lt

def ptr (b : Nat) : Value := .pointer (some ⟨b, 0, none⟩)

set_option maxRecDepth 100000 in
set_option maxHeartbeats 400000 in
theorem new_ok (m : Nat) (w : World) (h9 : 9 ≤ m) (hm : m ≤ 65545) :
    Calls Try.prog 8 #[.int .i64 (m : Int)] w fun e w' => e = .returned (.tuple #[ptr w.heap.size, .int .i64 0]) ∧ PAt w' w.heap.size ⟨m, ⟨#[]⟩, 0⟩ ∧ Below w.heap.size w w' := by
  have h1 : ¬ (m : Int) < 9 := by omega
  have h2 : ¬ (65545 : Int) < (m : Int) := by omega
  clear h9 hm
  go_enter Try.func8, Try.ntmps8
  go_wp2
  go_ret2
  exact ⟨rfl, Has.new w _ _, (Below.refl _ _).alloc (Nat.le_refl _) _⟩
set_option maxRecDepth 100000 in
set_option maxHeartbeats 400000 in
theorem new_bad (room : Int) (w : World) (h : room < 9 ∨ 65545 < room) :
    Calls Try.prog 8 #[.int .i64 room] w fun e w' => e = .returned (.tuple #[.pointer none, .int .i64 1]) ∧ w = w' := by
  by_cases h1 : room < 9
  · clear h
    go_enter Try.func8, Try.ntmps8
    go_wp2
    go_ret2
    exact ⟨rfl, rfl⟩
  · have h2 : 65545 < room := by omega
    clear h
    go_enter Try.func8, Try.ntmps8
    go_wp2
    go_ret2
    exact ⟨rfl, rfl⟩

set_option maxRecDepth 100000 in
set_option maxHeartbeats 400000 in
theorem held_walk (b : Nat) (p : Ps) (w : World) (h : PAt w b p) :
    Calls Try.prog 10 #[ptr b] w fun e w' => e = .returned (.int .i64 (p.s.size : Int)) ∧ w = w' := by
  obtain ⟨c0, c1, c2⟩ := h.c
  clear h
  unfold ptr
  go_enter Try.func10, Try.ntmps10
  go_wp2
  go_ret
  exact ⟨rfl, rfl⟩
set_option maxRecDepth 100000 in
set_option maxHeartbeats 400000 in
theorem failed_walk (b : Nat) (p : Ps) (w : World) (h : PAt w b p) :
    Calls Try.prog 15 #[ptr b] w fun e w' => e = .returned (.int .i64 p.wrong) ∧ w = w' := by
  obtain ⟨c0, c1, c2⟩ := h.c
  clear h
  unfold ptr
  go_enter Try.func15, Try.ntmps15
  go_wp2
  go_ret
  exact ⟨rfl, rfl⟩

set_option maxRecDepth 100000 in
set_option maxHeartbeats 400000 in
theorem fail_walk (b : Nat) (p : Ps) (er : Int) (w : World) (h : PAt w b p) :
    Calls Try.prog 17 #[ptr b, .int .i64 er] w fun e w' => e = .returned (.tuple #[.agg #[.int .i64 0, .int .i64 0, .string ⟨#[]⟩], .bool false, .int .i64 er]) ∧ PAt w' b ⟨p.room, ⟨#[]⟩, er⟩ ∧ Chg [b] w w' := by
  obtain ⟨c0, c1, c2⟩ := h.c
  have f0 := h.f 0; have f1 := h.f 1; have f2 := h.f 2
  have hlt := h.lt
  have H := Lib.hid h
  have hne : b ≠ w.heap.size := by omega
  clear h
  unfold ptr
  go_enter Try.func17, Try.ntmps17
  go_wp2
  ((try simp only [Exit.inBlock, Exit.then]); refine bodyPost_ret (v := (.tuple #[.agg #[.int .i64 0, .int .i64 0, .string ⟨#[]⟩], .bool false, .int .i64 er])) ?_ rfl ⟨?_, ?_⟩; (rw [results_cell_tmp2 rfl]; go_simp))
  · rfl
  · exact ⟨((Has.setCell H.out 2 _).setCell 1 _).alloc _, (((Chg.refl [b] w).setCell ⟨b, 2, none⟩ _ (.inl (by simp))).setCell ⟨b, 1, none⟩ _ (.inl (by simp))).alloc _⟩

set_option maxRecDepth 100000 in
set_option maxHeartbeats 400000 in
theorem tooLong_walk (b : Nat) (p : Ps) (w : World) (h : PAt w b p) :
    Calls Try.prog 18 #[ptr b] w fun e w' => e = .returned (.bool (long p)) ∧ w = w' := by
  obtain ⟨c0, c1, c2⟩ := h.c
  have hlt := h.lt
  clear h
  unfold ptr
  by_cases h9 : p.s.size < 9
  · have hL := Lib.hid (show long p = false by unfold long; simp; omega)
    have h9' : (p.s.size : Int) < 9 := by omega
    generalize long p = L at *
    go_enter Try.func18, Try.ntmps18
    go_wp2
    go_ret
    exact ⟨by rw [hL.out]; rfl, rfl⟩
  · have h9' : ¬ (p.s.size : Int) < 9 := by omega
    have hz9 : (9 : Int) ≤ (p.s.size : Int) := by omega
    have H := Lib.hid (fun w => xnumber_walk (p.s.extract 5 9) w)
    have hsz : (p.s.extract 5 9).size = 4 := by rw [ByteArray.size_extract]; omega
    rw [if_pos hsz, if_pos hsz, Fr.num4_ext p.s 5 9 (by omega)] at H
    have hn := Fr.num4_lt (p.s.data.toList.drop 5)
    have hL := Lib.hid (show long p = decide ((p.room : Int) < 9 + (Fr.num4 (p.s.data.toList.drop 5) : Int)) by unfold long; rw [decide_eq_decide]; omega)
    generalize long p = L at *
    generalize Fr.num4 (p.s.data.toList.drop 5) = n at *
    have hs := run_slice_str Try.underlying9 p.s 5 9 5 9 rfl rfl (by omega) (by omega)
    clear hsz
    go_enter Try.func18, Try.ntmps18
    go_wp2_with fail
    refine (H.out _).mono ?_
    rintro e w1 ⟨rfl, rfl⟩
    go_wp2
    go_ret
    exact ⟨by rw [hL.out]; rfl, rfl⟩
end Go.Proofs.Ytngheokngonhjaa
