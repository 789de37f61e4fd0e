/- Requests and answers: the small case. -/
import Derived.Test.YtckdbkbecelgcaaDoorPrWalk5
namespace Go.Proofs.YtckdbkbecelgcaaDoor
open Go.RowKit
set_option linter.unusedVariables false
set_option linter.unusedSimpArgs false

/-- blocks that are known whole -/
def Hold (w : World) (L : List (Nat × Array Value × TypeId)) : Prop := ∀ x ∈ L, Has w x.1 x.2.1 x.2.2
theorem Hold.nil (w : World) : Hold w [] := fun x hx => (by cases hx)
theorem Hold.keep {w w' : World} {L : List (Nat × Array Value × TypeId)} (h : Hold w L) (k : Below w.heap.size w w') : Hold w' L := fun x hx => (h x hx).below k (h x hx).lt
theorem Hold.add {w : World} {L : List (Nat × Array Value × TypeId)} (h : Hold w L) (cs : Array Value) (T : TypeId) : Hold (w.alloc (.cells cs T)) ((w.heap.size, cs, T) :: L) := fun x hx => by
  rcases List.mem_cons.1 hx with rfl | hx
  · exact Has.new w cs T
  · exact (h x hx).alloc _
theorem Hold.at {w : World} {L : List (Nat × Array Value × TypeId)} (h : Hold w L) (i : Nat) {b : Nat} {cs : Array Value} {T : TypeId} (hi : L[i]? = some (b, cs, T)) : Has w b cs T := h (b, cs, T) (List.mem_of_getElem? hi)
theorem nine_1 : Pr.rd ⟨2, 3, ⟨#[99, 57]⟩⟩ = some ⟨2, 3, ⟨#[]⟩, ⟨#[]⟩, 1, 9, 0⟩ := by kernel_rfl
theorem nine_2 : Pr.ask ⟨2, 3, ⟨#[]⟩, ⟨#[]⟩, 1, 9, 0⟩ = some ⟨2, 3, ⟨#[99, 57]⟩⟩ := by kernel_rfl
theorem nine_3 : Pr.wr ⟨69, 3, ⟨#[]⟩, 33⟩ = some ⟨69, 3, ⟨#[33]⟩⟩ := by kernel_rfl
set_option maxRecDepth 100000 in
set_option maxHeartbeats 1600000 in
theorem nine_walk (w : World) (hT : Tabs w) : Calls Tryd.prog 9 #[] w fun e w' => e = .returned (.bool true) ∧ Below w.heap.size w w' := by
  have HT := Lib.hid hT
  clear hT
  have H1 := Lib.hid (pread_walk 2 3 ⟨#[99, 57]⟩ w HT.out)
  rw [nine_1] at H1
  have H2 := Lib.hid (fun w h => ask_walk 2 3 ⟨#[]⟩ ⟨#[]⟩ 1 9 0 w h)
  rw [nine_2] at H2
  have H3 := Lib.hid (fun w => write_walk 69 3 ⟨#[]⟩ 33 w (by decide))
  rw [nine_3] at H3
  simp only [readV, askF] at H1 H2 H3
  go_enter Tryd.func9, Tryd.ntmps9
  go_wp2_with fail
  (with_reducible refine (H1.out).mono ?_)
  rintro e w1 ⟨rfl, hb⟩
  have HB := Lib.hid hb
  have HL := Lib.hid (Hold.nil w1)
  clear hb H1
  go_upto_region 2 with (fail)
  have HBn := Lib.hid (HB.out.alloc HB.out.size (.cells #[.int .i64 2, .int .i64 3, .string ⟨#[]⟩, .string ⟨#[]⟩, .int .i64 1, .int .i64 9, .int .i64 0] 27))
  have HLn := Lib.hid (HL.out.add #[.int .i64 2, .int .i64 3, .string ⟨#[]⟩, .string ⟨#[]⟩, .int .i64 1, .int .i64 9, .int .i64 0] 27)
  clear HB HL
  have HB := HBn
  have HL := HLn
  clear HBn HLn
  generalize w1.heap.size = q1 at *
  generalize w1.alloc (.cells #[.int .i64 2, .int .i64 3, .string ⟨#[]⟩, .string ⟨#[]⟩, .int .i64 1, .int .i64 9, .int .i64 0] 27) = w2 at *
  have HA := Lib.hid (HL.out.at 0 rfl)
  have a0 := HA.out.cell 0; have a1 := HA.out.cell 1; have a2 := HA.out.cell 2; have a3 := HA.out.cell 3; have a4 := HA.out.cell 4; have a5 := HA.out.cell 5; have a6 := HA.out.cell 6
  simp only [List.getElem?_toArray, List.getElem?_cons_zero, List.getElem?_cons_succ] at a0 a1 a2 a3 a4 a5 a6
  go_wp2_with fail
  (with_reducible refine (H2.out _ (HT.out.keep HB.out)).mono ?_)
  rintro e w3 ⟨rfl, hb⟩
  have HBn := Lib.hid (HB.out.trans (hb.mono HB.out.size))
  have HLn := Lib.hid (HL.out.keep hb)
  clear HB HL hb
  have HB := HBn
  have HL := HLn
  clear HBn HLn
  clear a0 a1 a2 a3 a4 a5 a6 HA H2
  go_upto_region 3 with (fail)
  have HBn := Lib.hid (HB.out.alloc HB.out.size (.cells #[.int .i64 2, .int .i64 3, .string ⟨#[99, 57]⟩] 23))
  have HLn := Lib.hid (HL.out.add #[.int .i64 2, .int .i64 3, .string ⟨#[99, 57]⟩] 23)
  clear HB HL
  have HB := HBn
  have HL := HLn
  clear HBn HLn
  generalize w3.heap.size = q2 at *
  generalize w3.alloc (.cells #[.int .i64 2, .int .i64 3, .string ⟨#[99, 57]⟩] 23) = w4 at *
  go_wp2_with fail
  (with_reducible refine (H3.out _).mono ?_)
  rintro e w5 ⟨rfl, hb⟩
  have HBn := Lib.hid (HB.out.trans (hb.mono HB.out.size))
  have HLn := Lib.hid (HL.out.keep hb)
  clear HB HL hb
  have HB := HBn
  have HL := HLn
  clear HBn HLn
  go_upto_region 4 with (fail)
  have HBn := Lib.hid (HB.out.alloc HB.out.size (.cells #[.int .i64 69, .int .i64 3, .string ⟨#[33]⟩] 23))
  have HLn := Lib.hid (HL.out.add #[.int .i64 69, .int .i64 3, .string ⟨#[33]⟩] 23)
  clear HB HL
  have HB := HBn
  have HL := HLn
  clear HBn HLn
  generalize w5.heap.size = q3 at *
  generalize w5.alloc (.cells #[.int .i64 69, .int .i64 3, .string ⟨#[33]⟩] 23) = w6 at *
  have HA := Lib.hid (HL.out.at 2 rfl)
  have HF := Lib.hid (HL.out.at 1 rfl)
  have HG := Lib.hid (HL.out.at 0 rfl)
  have a0 := HA.out.cell 0; have a1 := HA.out.cell 1; have a2 := HA.out.cell 2; have a3 := HA.out.cell 3; have a4 := HA.out.cell 4; have a5 := HA.out.cell 5; have a6 := HA.out.cell 6
  have b0 := HF.out.cell 0; have b1 := HF.out.cell 1; have b2 := HF.out.cell 2
  have c0 := HG.out.cell 0; have c1 := HG.out.cell 1; have c2 := HG.out.cell 2
  simp only [List.getElem?_toArray, List.getElem?_cons_zero, List.getElem?_cons_succ] at a0 a1 a2 a3 a4 a5 a6 b0 b1 b2 c0 c1 c2
  clear HA HF HG HL
  go_wp2
  go_ret
  exact ⟨rfl, HB.out⟩
end Go.Proofs.YtckdbkbecelgcaaDoor
