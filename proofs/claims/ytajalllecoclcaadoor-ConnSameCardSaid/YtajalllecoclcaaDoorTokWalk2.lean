/- Texts rune by rune: Runes, First, Is, Cut. -/
import Derived.Test.YtajalllecoclcaaDoorTokWalk1
namespace Go.Proofs.YtajalllecoclcaaDoor
open Go.RowKit
set_option linter.unusedVariables false
set_option linter.unusedSimpArgs false

def intV (p : Int × Nat) : Value := .int .i64 p.1
theorem info_i64 : (Tryd.prog.info? 3).map (fun i => (i.zero, i.size, i.bytes)) = some (some (.int .i64 0), 1, 8) := by kernel_rfl
/-- the first rune that may not stand in a word, and where it begins -/
def badAt : List (Int × Nat) → Nat → Int × Int
  | [], _ => (0, -1)
  | q :: l, p => if mayB q.1 = true then badAt l (p + q.2) else (q.1, p)
set_option maxRecDepth 100000 in
set_option maxHeartbeats 1600000 in
theorem tfirst_walk (s : ByteArray) (w : World) (hT : Tabs w) (hs : s.size ≤ 1000000) : Calls Tryd.prog 55 #[.string s] w fun e w' => e = .returned (.tuple #[.int .i64 (badAt (Tk.runes s.data.toList) 0).1, .int .i64 (badAt (Tk.runes s.data.toList) 0).2]) ∧ Below w.heap.size w w' := by
  have HT := Lib.hid hT
  have HAT := Lib.hid (Tk.runes_at s.data.toList)
  have HD := Lib.hid (Tk.d_at s.data.toList)
  have HEND := Lib.hid (Tk.runes_end s.data.toList)
  have H0 := Lib.hid (show badAt (Tk.runes (s.data.toList.drop 0)) 0 = badAt (Tk.runes s.data.toList) 0 by rw [List.drop_zero])
  generalize badAt (Tk.runes s.data.toList) 0 = R at *
  obtain ⟨R1, R2⟩ := R
  clear hT
  go_enter Tryd.func55, Tryd.ntmps55
  go_wp2_with fail
  go_loopw [] (fun wr => ∃ (p : Nat), badAt (Tk.runes (s.data.toList.drop p)) p = (R1, R2) ∧ ItAt w wr s p) (fun w' => s.size - w'.iterPos w.heap.size)
  case atStart => exact ⟨0, H0.out, ItAt.start w s⟩
  case round =>
    obtain ⟨p, hr, hit⟩ := hrel
    have HI := Lib.hid hit
    by_cases hp : p < s.size
    · have hd := HD.out p (by rw [llen]; exact hp)
      have hnx : ∀ ty, (Instr.next (.pointer (some ⟨w.heap.size, 0, none⟩)) true ty).run Tryd.prog wr = _ := fun ty => Lib.run_next_any_at wr w.heap.size s p ty hit.it hp
      rw [Tk.decode_d] at hnx
      rw [HAT.out p (by rw [llen]; exact hp)] at hr
      have HN := Lib.hid (hit.next (p + (Tk.d (s.data.toList.drop p)).2))
      have HTD := Lib.hid (fun w h => told_walk s p w h hp)
      rw [llen] at hd
      unfold badAt at hr
      simp only at hr
      clear hit
      generalize Tk.num (Tk.d (s.data.toList.drop p)) = N at *
      generalize (Tk.d (s.data.toList.drop p)).1 = c at *
      generalize (Tk.d (s.data.toList.drop p)).2 = k at *
      obtain ⟨hd1, hd2, -⟩ := hd
      generalize hwn : wr.iterAt w.heap.size s (p + k) = w3 at *
      clear hwn
      have HM := Lib.hid (fun w => tkmay_walk N w)
      cases hmy : mayB N with
      | true =>
        rw [hmy] at HM hr
        rw [if_pos rfl] at hr
        have HR := Lib.hid hr
        clear hmy hr
        go_wp2_with fail
        (with_reducible refine (HTD.out _ (HT.out.keep HN.out.below)).mono ?_)
        rintro e w4 ⟨rfl, hb4⟩
        have HN4 := Lib.hid (HN.out.keep hb4)
        clear hb4 HN HTD
        go_wp2_with fail
        (with_reducible refine (HM.out _).mono ?_)
        rintro e w5 ⟨rfl, rfl⟩
        go_wp2
        go_roundw
        case rel => exact ⟨p + k, HR.out, HN4.out⟩
        case measure => rw [HN4.out.pos, HI.out.pos]; omega
      | false =>
        rw [hmy] at HM hr
        rw [if_neg (by decide)] at hr
        have HR1 := Lib.hid (congrArg Prod.fst hr)
        have HR2 := Lib.hid (congrArg Prod.snd hr)
        clear hmy hr
        go_wp2_with fail
        (with_reducible refine (HTD.out _ (HT.out.keep HN.out.below)).mono ?_)
        rintro e w4 ⟨rfl, hb4⟩
        have HN4 := Lib.hid (HN.out.keep hb4)
        clear hb4 HN HTD
        go_wp2_with fail
        (with_reducible refine (HM.out _).mono ?_)
        rintro e w5 ⟨rfl, rfl⟩
        go_wp2
        go_ret2
        exact ⟨by rw [← HR1.out, ← HR2.out]; rfl, HN4.out.below⟩
    · have hnx : ∀ ty, (Instr.next (.pointer (some ⟨w.heap.size, 0, none⟩)) true ty).run Tryd.prog wr = _ := fun ty => Lib.run_next_end_at wr w.heap.size s p ty hit.it hp
      rw [HEND.out p (by rw [llen]; omega)] at hr
      have HR1 := Lib.hid (congrArg Prod.fst hr)
      have HR2 := Lib.hid (congrArg Prod.snd hr)
      clear hit hr
      go_wp2
      go_ret2
      exact ⟨by rw [← HR1.out, ← HR2.out]; rfl, HI.out.below⟩
end Go.Proofs.YtajalllecoclcaaDoor
