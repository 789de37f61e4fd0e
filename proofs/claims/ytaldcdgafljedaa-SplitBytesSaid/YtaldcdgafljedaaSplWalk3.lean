/- Splitters: a block is closed. -/
import Derived.Test.YtaldcdgafljedaaSplWalk2
import Derived.Test.YtaldcdgafljedaaMake
import Derived.Test.YtaldcdgafljedaaRowS
import Derived.Laws.ResultCell
import Derived.Deep.CutRange
import Derived.Test.YtaldcdgafljedaaLater
import Derived.Test.YtaldcdgafljedaaRowAt
namespace Go.Proofs.Ytaldcdgafljedaa
open Go.RowKit
set_option linter.unusedVariables false
set_option linter.unusedSimpArgs false

def noBlk : Value := .agg #[.string ⟨#[]⟩, .int .u32 0, .int .i64 0]
def blkV (now : List Rl.Pc) : Value := .agg #[.string (Fr.bs (Sp.body now)), .int .u32 ((Crc.sumOf (Rl.join now)).toNat : Int), .int .i64 ((Rl.join now).length : Int)]
set_option maxRecDepth 100000 in
set_option maxHeartbeats 1600000 in
theorem sclose_empty (w : World) (B b sb pb : Nat) (v : Value) (now : List Rl.Pc) (room : Nat) (row : Rl.Pc) (h : SpAt w B b sb pb v now room row) (h0 : Sp.body now = []) :
    Calls Try.prog 33 #[.pointer (some ⟨b, 0, none⟩)] w fun e w' => e = .returned (.tuple #[noBlk, .bool false]) ∧ Below w.heap.size w w' := by
  obtain ⟨a, c, rfl, -⟩ := rowS_owns h.own
  have hcs := h.cs
  rw [h0] at hcs
  have c0 := hcs.cell 0
  have hlt := Has.lt hcs
  have hne : b ≠ w.heap.size := by omega
  simp only [scells, List.length_nil, List.getElem?_toArray, List.getElem?_cons_zero, List.getElem?_cons_succ] at c0
  clear h hcs h0
  unfold noBlk
  go_enter Try.func33, Try.ntmps33
  go_wp2
  refine bodyPost_ret (v := .tuple #[.agg #[.string ⟨#[]⟩, .int .u32 0, .int .i64 0], .bool false]) (by rw [results_cell_tmp (fn := Try.f33) rfl]; go_simp) rfl ?_
  refine ⟨rfl, ?_⟩
  (repeat (first | exact (Below.refl _ _).alloc (Nat.le_refl _) _ | refine Below.setCell ?_ (by first | exact Nat.le_refl _ | exact Nat.le_succ _) _))
theorem has_sets3_other {w : World} {b r : Nat} {cs : Array Value} {T : TypeId} (h : Has w b cs T) (hne : b ≠ r) (x y z : Value) : Has (((w.setCell ⟨r, 0, none⟩ x).setCell ⟨r, 1, none⟩ y).setCell ⟨r, 2, none⟩ z) b cs T :=
  ((h.setCell_other ⟨r, 0, none⟩ x hne).setCell_other ⟨r, 1, none⟩ y hne).setCell_other ⟨r, 2, none⟩ z hne
theorem has_sets3 {w : World} {r : Nat} {a b c : Value} {T : TypeId} (h : Has w r #[a, b, c] T) (x y z : Value) : Has (((w.setCell ⟨r, 0, none⟩ x).setCell ⟨r, 1, none⟩ y).setCell ⟨r, 2, none⟩ z) r #[x, y, z] T :=
  ((h.setCell 0 x).setCell 1 y).setCell 2 z
theorem chg_sets3 {w0 w : World} {r : Nat} {S : List Nat} (h : Chg S w0 w) (hr : w0.heap.size ≤ r) (x y z : Value) : Chg S w0 (((w.setCell ⟨r, 0, none⟩ x).setCell ⟨r, 1, none⟩ y).setCell ⟨r, 2, none⟩ z) :=
  ((h.setCell ⟨r, 0, none⟩ x (.inr hr)).setCell ⟨r, 1, none⟩ y (.inr hr)).setCell ⟨r, 2, none⟩ z (.inr hr)
theorem nz_body {D : List UInt8} (h : D ≠ []) : ((D.length : Int) == 0) = false := by
  have : D.length ≠ 0 := fun e => h (List.eq_nil_of_length_eq_zero e)
  simp; exact h
set_option maxRecDepth 100000 in
set_option maxHeartbeats 1600000 in
theorem sclose_walk (w : World) (B b sb pb : Nat) (v : Value) (now : List Rl.Pc) (room : Nat) (row : Rl.Pc) (h : SpAt w B b sb pb v now room row) (h0 : Sp.body now ≠ []) :
    Calls Try.prog 33 #[.pointer (some ⟨b, 0, none⟩)] w fun e w' => e = .returned (.tuple #[blkV now, .bool true]) ∧ SpAt w' B b sb pb (.slice none 0 0) [] room row ∧ Chg [b, sb] w w' := by
  obtain ⟨hcs, hown, hsum, hpk, hlt, hne, hB⟩ := h
  obtain ⟨a, c, rfl, hrow, -⟩ := rowAt_owns hown
  have hnz := nz_body h0
  have HSP : ∀ w', Has w' b (scells (.slice none 0 0) sb 0 room pb) 69 → SumAt w' sb (BitVec.allOnes 32) → KAt w' pb row → B ≤ w'.heap.size → SpAt w' B b sb pb (.slice none 0 0) [] room row := fun w' h1 h2 h3 h4 => ⟨h1, World.ownsRow_nil _ _ _ _, h2, h3, hlt, hne, h4⟩
  have HS := Lib.hid HSP
  unfold blkV
  rw [show (Crc.sumOf (Rl.join now)) = ~~~ (Crc.run (BitVec.allOnes 32) (Rl.join now)) from rfl]
  clear HSP hown h0
  generalize Rl.join now = J at *
  generalize Sp.body now = D at *
  generalize Crc.run (BitVec.allOnes 32) J = X at *
  have HB1 := Lib.hid (Has.alloc hcs (.cells #[.string ⟨#[]⟩, .int .u32 0, .int .i64 0] 37))
  have HR1 := Lib.hid (hrow.keep ((Below.refl w.heap.size w).alloc (Nat.le_refl _) (.cells #[.string ⟨#[]⟩, .int .u32 0, .int .i64 0] 37)))
  have HS1 := Lib.hid (show SumAt (w.alloc (.cells #[.string ⟨#[]⟩, .int .u32 0, .int .i64 0] 37)) sb X from Has.alloc hsum _)
  have HP1 := Lib.hid (show KAt (w.alloc (.cells #[.string ⟨#[]⟩, .int .u32 0, .int .i64 0] 37)) pb row from Has.alloc hpk _)
  have HQ1 := Lib.hid (Has.new w #[.string ⟨#[]⟩, .int .u32 0, .int .i64 0] 37)
  have HC1 := Lib.hid ((Chg.refl [b, sb] w).alloc (.cells #[.string ⟨#[]⟩, .int .u32 0, .int .i64 0] 37))
  have hql : b < w.heap.size ∧ sb < w.heap.size ∧ pb < w.heap.size := ⟨Has.lt hcs, Has.lt hsum, Has.lt hpk⟩
  generalize hq : w.heap.size = q at *
  have hcv0 : ∀ (wx : World) (hr : RowAt wx a D.length c (D.map vB)), (convert 59 9 (.slice a D.length c)).run Try.prog wx = .ok (.string (Fr.bs D)) wx := fun wx hr => convert_row Try.underlying59 Try.underlying5 Try.underlying9 hr
  have HCV := Lib.hid hcv0
  clear hcv0
  have HV := Lib.hid (fun (wx : World) (hs : SumAt wx sb X) => value_walk sb X wx hs)
  simp only [vW] at HV
  generalize Fr.bs D = T at *
  generalize ((~~~ X).toNat : Int) = m at *
  clear hcs hsum hpk hrow
  go_enter Try.func33, Try.ntmps33
  go_upto_region 1 with (fail)
  generalize hw1 : w.alloc (.cells #[.string ⟨#[]⟩, .int .u32 0, .int .i64 0] 37) = w1 at *
  have hz : w1.heap.size = q + 1 := by rw [← hw1, World.size_alloc, hq]
  clear hw1
  have c0 := HB1.out.cell 0
  simp only [scells, ptr, List.getElem?_toArray, List.getElem?_cons_zero, List.getElem?_cons_succ] at c0
  go_wp2_with fail
  have HF := Lib.hid hz
  apply Quiet.region_make 15 4 (Psi := fun x w' => ∃ r, x = .pointer (some ⟨r, 0, none⟩) ∧ w1.heap.size ≤ r ∧ Has w' r #[.string ⟨#[]⟩, .int .u32 0, .int .i64 0] 37) (by kernel_rfl) (by kernel_rfl) (by kernel_rfl)
  case H1 =>
    intro wb hwb
    have d0 : ∀ x : Later wb, x.at.cell? ⟨b, 0, none⟩ = some (.slice a D.length c) := fun x => x.cell ((Later.mk hwb).cell c0)
    have d1 : ∀ x : Later wb, x.at.cell? ⟨b, 1, none⟩ = some (.pointer (some ⟨sb, 0, none⟩)) := fun x => x.cell ((Later.mk hwb).cell (HB1.out.cell 1))
    have d2 : ∀ x : Later wb, x.at.cell? ⟨b, 2, none⟩ = some (.int .i64 (J.length : Int)) := fun x => x.cell ((Later.mk hwb).cell (HB1.out.cell 2))
    have hcv : ∀ x : Later wb, (convert 59 9 (.slice a D.length c)).run Try.prog x.at = .ok (.string T) x.at := fun x => HCV.out _ ((HR1.out.keep hwb).keep x.below)
    have HVX := Lib.hid (fun x : Later wb => later_same (x := x) (HV.out x.at ((HS1.out.low hwb).low x.below)))
    show wpQuiet _ _ (fun w' => ∃ x : Later wb, w' = x.at) _ _ _
    simp only [List.take_succ_cons, List.take_zero]
    repeat (go_big_quiet_step (exact HVX.out _))
    exact rfl
  case make =>
    intro o ho wa hwa
    obtain rfl := Option.some.inj ho
    refine ⟨.pointer (some ⟨wa.heap.size, 0, none⟩), wa.alloc (.cells #[.string ⟨#[]⟩, .int .u32 0, .int .i64 0] 37), ?_, ?_, ⟨wa.heap.size, rfl, hwa.size, Has.new wa _ _⟩⟩
    · kernel_rfl
    · exact (Below.refl _ _).alloc (Nat.le_refl _) _
  case mono =>
    rintro x wa wb ⟨r, hx, hr, hh⟩ hwb
    exact ⟨r, hx, hr, Has.below hh hwb (Has.lt hh)⟩
  rintro x w2 hl2 ⟨r, rfl, hr1, hh⟩
  simp only [List.drop_succ_cons, List.drop_zero, Act.put, List.setIfInBounds_toArray, List.set_cons_succ, List.set_cons_zero]
  have HB2 := Lib.hid (HB1.out.below hl2 HB1.out.lt)
  have HS2 := Lib.hid (HS1.out.low hl2)
  have HP2 := Lib.hid (show KAt w2 pb row from Has.below HP1.out hl2 (Has.lt HP1.out))
  have HQ2 := Lib.hid (HQ1.out.below hl2 HQ1.out.lt)
  have HC2 := Lib.hid (HC1.out.trans (below_chg hl2 [b, sb]))
  have HR2 := Lib.hid hh
  rw [hz] at hr1
  have hql2 : b < r ∧ sb < r ∧ pb < r ∧ q < r := ⟨by omega, by omega, by omega, by omega⟩
  clear HV HB1 HS1 HP1 HQ1 HC1 HR1 c0 HCV hl2 hh
  have f0 := HR2.out.free 0; have f1 := HR2.out.free 1; have f2 := HR2.out.free 2
  have c0 := HR2.out.cell 0; have c1 := HR2.out.cell 1; have c2 := HR2.out.cell 2
  simp only [List.getElem?_toArray, List.getElem?_cons_zero, List.getElem?_cons_succ] at c0 c1 c2
  have hbr : b ≠ r ∧ sb ≠ r ∧ pb ≠ r ∧ q ≠ r := ⟨by omega, by omega, by omega, by omega⟩
  have hqr : w.heap.size ≤ r := by omega
  go_upto_region 4 with (fail)
  have HB3 := Lib.hid (has_sets3_other HB2.out hbr.1 (.string T) (.int .u32 m) (.int .i64 (J.length : Int)))
  have HS3 := Lib.hid (show SumAt _ sb X from has_sets3_other HS2.out hbr.2.1 (.string T) (.int .u32 m) (.int .i64 (J.length : Int)))
  have HP3 := Lib.hid (show KAt _ pb row from has_sets3_other HP2.out hbr.2.2.1 (.string T) (.int .u32 m) (.int .i64 (J.length : Int)))
  have HQ3 := Lib.hid (has_sets3_other HQ2.out hbr.2.2.2 (.string T) (.int .u32 m) (.int .i64 (J.length : Int)))
  have HR3 := Lib.hid (has_sets3 HR2.out (.string T) (.int .u32 m) (.int .i64 (J.length : Int)))
  have HC3 := Lib.hid (chg_sets3 HC2.out hqr (.string T) (.int .u32 m) (.int .i64 (J.length : Int)))
  clear HB2 HS2 HP2 HQ2 HC2 HR2 f0 f1 f2 c0 c1 c2
  generalize ((w2.setCell ⟨r, 0, none⟩ (.string T)).setCell ⟨r, 1, none⟩ (.int .u32 m)).setCell ⟨r, 2, none⟩ (.int .i64 (J.length : Int)) = w3 at *
  have f0 := HB3.out.free 0; have f2 := HB3.out.free 2
  have c0 := HB3.out.cell 0; have c1 := HB3.out.cell 1; have c2 := HB3.out.cell 2
  simp only [scells, ptr, List.getElem?_toArray, List.getElem?_cons_zero, List.getElem?_cons_succ] at c0 c1 c2
  have hbq : b ≠ q ∧ sb ≠ q ∧ pb ≠ q := ⟨by omega, by omega, by omega⟩
  go_upto_region 6 with (fail)
  have HB4 := Lib.hid ((HB3.out.setCell 0 (.slice none 0 0)).setCell 2 (.int .i64 0))
  have HS4 := Lib.hid ((HS3.out.oth ⟨b, 0, none⟩ (.slice none 0 0) (fun e => hne.1 e.symm)).oth ⟨b, 2, none⟩ (.int .i64 0) (fun e => hne.1 e.symm))
  have HP4 := Lib.hid ((HP3.out.oth ⟨b, 0, none⟩ (.slice none 0 0) (fun e => hne.2.1 e.symm)).oth ⟨b, 2, none⟩ (.int .i64 0) (fun e => hne.2.1 e.symm))
  have HQ4 := Lib.hid ((HQ3.out.setCell_other ⟨b, 0, none⟩ (.slice none 0 0) (fun e => hbq.1 e.symm)).setCell_other ⟨b, 2, none⟩ (.int .i64 0) (fun e => hbq.1 e.symm))
  have HR4 := Lib.hid ((HR3.out.setCell_other ⟨b, 0, none⟩ (.slice none 0 0) (fun e => hbr.1 e.symm)).setCell_other ⟨b, 2, none⟩ (.int .i64 0) (fun e => hbr.1 e.symm))
  have HC4 := Lib.hid ((HC3.out.setCell ⟨b, 0, none⟩ (.slice none 0 0) (.inl (by simp))).setCell ⟨b, 2, none⟩ (.int .i64 0) (.inl (by simp)))
  generalize (w3.setCell ⟨b, 0, none⟩ (.slice none 0 0)).setCell ⟨b, 2, none⟩ (.int .i64 0) = w4 at *
  clear HB3 HS3 HP3 HQ3 HC3 HR3 f0 f2 c0 c1 c2
  have c1 := HB4.out.cell 1
  simp only [scells, ptr, List.getElem?_toArray, List.getElem?_cons_zero, List.getElem?_cons_succ] at c1
  go_wp2_with fail
  (with_reducible refine (reset_walk sb X _ HS4.out).mono ?_)
  rintro e w5 ⟨rfl, hs5, hk5⟩
  have HB5 := Lib.hid (HB4.out.chg hk5 (by simp; exact hne.1))
  have HS5 := Lib.hid hs5
  have HP5 := Lib.hid (HP4.out.grow hk5 (by simp; exact fun e => hne.2.2 e.symm))
  have HQ5 := Lib.hid (HQ4.out.chg hk5 (by simp; exact fun e => hbq.2.1 e.symm))
  have HR5 := Lib.hid (HR4.out.chg hk5 (by simp; exact fun e => hbr.2.1 e.symm))
  have HC5 := Lib.hid (HC4.out.trans (hk5.mono (fun j _ hj => by simp at hj; simp; exact .inr hj)))
  clear hs5 hk5 HB4 HS4 HP4 HQ4 HR4 HC4 c1
  have c0 := HR5.out.cell 0; have c1 := HR5.out.cell 1; have c2 := HR5.out.cell 2
  have q0 := HQ5.out.cell 0; have q1 := HQ5.out.cell 1; have q2 := HQ5.out.cell 2
  have f0 := HQ5.out.free 0; have f1 := HQ5.out.free 1; have f2 := HQ5.out.free 2
  simp only [List.getElem?_toArray, List.getElem?_cons_zero, List.getElem?_cons_succ] at c0 c1 c2 q0 q1 q2
  have HX := Lib.hid (HS.out _ (has_sets3_other HB5.out hbq.1 (.string T) (.int .u32 m) (.int .i64 (J.length : Int))) (has_sets3_other HS5.out hbq.2.1 (.string T) (.int .u32 m) (.int .i64 (J.length : Int))) (has_sets3_other HP5.out hbq.2.2 (.string T) (.int .u32 m) (.int .i64 (J.length : Int))) (Nat.le_trans hB (by simp only [World.size_setCell]; have := HC5.out.size; omega)))
  have HG := Lib.hid (chg_sets3 HC5.out (Nat.le_of_eq hq) (.string T) (.int .u32 m) (.int .i64 (J.length : Int)))
  clear HB5 HS5 HP5 HQ5 HR5 HC5
  go_wp2
  refine bodyPost_ret (v := .tuple #[.agg #[.string T, .int .u32 m, .int .i64 (J.length : Int)], .bool true]) (by rw [results_cell_tmp (fn := Try.f33) rfl]; go_simp) rfl ?_
  exact ⟨rfl, HX.out, HG.out⟩
end Go.Proofs.Ytaldcdgafljedaa
