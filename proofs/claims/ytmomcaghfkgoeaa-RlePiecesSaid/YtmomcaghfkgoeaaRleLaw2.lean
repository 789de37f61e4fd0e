/- The law of pieces. -/
import Derived.Test.YtmomcaghfkgoeaaRleLaw1
namespace Go.Proofs.Ytmomcaghfkgoeaa
open Go.RowKit
set_option linter.unusedVariables false
set_option linter.unusedSimpArgs false

theorem u8_of {x : Int} (h : (Lit.int .u8 x).wf = true) : ∃ b : UInt8, x = (b.toNat : Int) := by
  have h2 : 0 ≤ x ∧ x ≤ 255 := by simpa [Lit.wf, IntKind.min, IntKind.max, IntKind.signed, IntKind.bits] using h
  exact ⟨UInt8.ofNat x.toNat, by rw [UInt8.toNat_ofNat']; omega⟩

set_option maxRecDepth 100000 in
set_option maxHeartbeats 1600000 in
theorem rlePieces_big (s : ByteArray) (b : UInt8) (n : Int) (w : World) (hl : 2000 < s.size) :
    Calls Try.prog 6 #[.string s, .agg #[.int .u8 (b.toNat : Int), .int .i64 n]] w fun e w' => e = .returned (.bool true) ∧ Below w.heap.size w w' := by
  have hl' : (2000 : Int) < (s.size : Int) := by omega
  clear hl
  go_enter Try.func6, Try.ntmps6
  go_wp2_with fail
  (with_reducible refine (six_walk _).mono ?_)
  rintro e w1 ⟨rfl, hb1⟩
  have HB := Lib.hid (((Below.refl w.heap.size w).alloc (Nat.le_refl _) (.cells #[.int .u8 (b.toNat : Int), .int .i64 n] 30)).trans (hb1.mono (by simp)))
  clear hb1
  go_wp2
  go_ret
  exact ⟨rfl, HB.out⟩
set_option maxRecDepth 100000 in
set_option maxHeartbeats 2000000 in
theorem rlePieces_small (s : ByteArray) (b : UInt8) (n : Int) (w : World) (hl : ¬ 2000 < s.size) :
    Calls Try.prog 6 #[.string s, .agg #[.int .u8 (b.toNat : Int), .int .i64 n]] w fun e w' => e = .returned (.bool true) ∧ Below w.heap.size w w' := by
  have hl' : ¬ (2000 : Int) < (s.size : Int) := by omega
  have H1 := Lib.hid (fun w => pieces_walk s w (by omega))
  have H2 := Lib.hid (fun w => refpieces_walk s w (by omega))
  have hlen := Rl.pcs_length s.data.toList
  rw [llen] at hlen
  generalize Rl.pcs s.data.toList = R at *
  go_enter Try.func6, Try.ntmps6
  go_upto_region 1 with (fail)
  have HX := Lib.hid (Has.new w #[.int .u8 (b.toNat : Int), .int .i64 n] 30)
  have HB := Lib.hid ((Below.refl w.heap.size w).alloc (Nat.le_refl _) (.cells #[.int .u8 (b.toNat : Int), .int .i64 n] 30))
  generalize w.alloc (.cells #[.int .u8 (b.toNat : Int), .int .i64 n] 30) = w1 at *
  go_wp2_with fail
  (with_reducible refine (H1.out _).mono ?_)
  rintro e w2 ⟨v1, rfl, ho1, hb2⟩
  obtain ⟨a1, c1, rfl, hr1, _⟩ := rowS_owns ho1
  have HR1 := Lib.hid hr1
  have HX2 := Lib.hid (HX.out.below hb2 HX.out.lt)
  have HB2 := Lib.hid (HB.out.trans (hb2.mono HB.out.size))
  clear ho1 hb2 hr1
  go_wp2_with fail
  (with_reducible refine (H2.out _).mono ?_)
  rintro e w3 ⟨v2, rfl, ho2, hb3⟩
  obtain ⟨a2, c2, rfl, hr2, _⟩ := rowS_owns ho2
  have HR2 := Lib.hid hr2
  have HR3 := Lib.hid (HR1.out.keep hb3)
  have HX3 := Lib.hid (HX2.out.below hb3 HX2.out.lt)
  have HB3 := Lib.hid (HB2.out.trans (hb3.mono HB2.out.size))
  clear ho2 hb3 hr2 HX HX2 HB HB2 HR1
  go_wp2_with fail
  go_loopw [26] (fun i wr => ∃ k : Nat, i = .int .i64 k ∧ k ≤ R.length ∧ Below w3.heap.size w3 wr) (fun i _ => R.length - (intOf i).toNat)
  case atStart => exact ⟨0, rfl, Nat.zero_le _, Below.refl _ _⟩
  case round =>
    obtain ⟨k, rfl, hk, hbr⟩ := hrel
    by_cases hlt : k < R.length
    · have hlt' : (k : Int) < (R.length : Int) := by omega
      obtain ⟨ba, oa, rfl, hba, hca⟩ := (HR3.out.keep hbr).at k hlt
      obtain ⟨bb, ob, rfl, hbb, hcb⟩ := (HR2.out.keep hbr).at k hlt
      have a0 := hca 0 (by decide); have a1 := hca 1 (by decide)
      have b0 := hcb 0 (by decide); have b1 := hcb 1 (by decide)
      rw [flat_get2 R k 0 hlt (by decide)] at a0 b0
      rw [flat_get2 R k 1 hlt (by decide)] at a1 b1
      generalize R[k] = p at *
      obtain ⟨pb, pn⟩ := p
      simp only [pcells, List.getD_cons_zero, List.getD_cons_succ, Nat.add_zero] at a0 a1 b0 b1
      simp only [← Nat.add_assoc] at a1 b1
      have HBR := Lib.hid hbr
      clear hca hcb hbr
      go_upto_region 10 with (fail)
      have HY := Lib.hid (Has.new wr #[.int .u8 (pb.toNat : Int), .int .i64 (pn : Int)] 30)
      have HK := Lib.hid ((Below.refl wr.heap.size wr).alloc (Nat.le_refl _) (.cells #[.int .u8 (pb.toNat : Int), .int .i64 (pn : Int)] 30))
      have HBR2 := Lib.hid (HBR.out.alloc HBR.out.size (.cells #[.int .u8 (pb.toNat : Int), .int .i64 (pn : Int)] 30))
      generalize wr.alloc (.cells #[.int .u8 (pb.toNat : Int), .int .i64 (pn : Int)] 30) = w5 at *
      have m0 : ∀ x : Later w5, x.at.cell? ⟨wr.heap.size, 0, none⟩ = some (.int .u8 (pb.toNat : Int)) := fun x => x.cell (HY.out.cell 0)
      have m1 : ∀ x : Later w5, x.at.cell? ⟨wr.heap.size, 1, none⟩ = some (.int .i64 (pn : Int)) := fun x => x.cell (HY.out.cell 1)
      have p0 : ∀ x : Later w5, x.at.cell? ⟨bb, ob + k * 2, none⟩ = some (.int .u8 (pb.toNat : Int)) := fun x => x.cell (by rw [HK.out.cell (p := ⟨bb, ob + k * 2, none⟩) hbb]; exact b0)
      have p1 : ∀ x : Later w5, x.at.cell? ⟨bb, ob + k * 2 + 1, none⟩ = some (.int .i64 (pn : Int)) := fun x => x.cell (by rw [HK.out.cell (p := ⟨bb, ob + k * 2 + 1, none⟩) hbb]; exact b1)
      clear a0 a1 b0 b1
      refine region_later 6 (by kernel_rfl) (by kernel_rfl) ?_
      simp only [List.take_succ_cons, List.take_zero, List.drop_succ_cons, List.drop_zero]
      repeat (go_big_quiet_step (fail))
      refine wpQuiet_nil ?_
      rintro w' ⟨x, rfl⟩
      have HBR3 := Lib.hid (HBR2.out.trans (x.below.mono HBR2.out.size))
      clear m0 m1 p0 p1
      generalize x.at = w6 at *
      go_wp2
      go_roundw
      case rel => exact ⟨k + 1, by go_num, hlt, HBR3.out⟩
      case measure => simp [intOf]; omega
    · have hlt' : ¬ (k : Int) < (R.length : Int) := by omega
      have HX4 := Lib.hid (HX3.out.below hbr HX3.out.lt)
      have HB4 := Lib.hid (HB3.out.trans (hbr.mono HB3.out.size))
      clear hbr hlt hk
      have x0 := HX4.out.cell 0; have x1 := HX4.out.cell 1
      simp only [List.getElem?_toArray, List.getElem?_cons_zero, List.getElem?_cons_succ] at x0 x1
      by_cases hn : n < 1 ∨ 255 < n
      · have HP := Lib.hid (fun w => piece_bad b n w hn)
        go_wp2_with fail
        (with_reducible refine (HP.out _).mono ?_)
        rintro e w7 ⟨rfl, hb7⟩
        have HX7 := Lib.hid (HX4.out.below hb7 HX4.out.lt)
        have HB7 := Lib.hid (HB4.out.trans (hb7.mono HB4.out.size))
        clear hb7 x0 x1
        have x0 := HX7.out.cell 0; have x1 := HX7.out.cell 1
        simp only [List.getElem?_toArray, List.getElem?_cons_zero, List.getElem?_cons_succ] at x0 x1
        by_cases h1 : n < 1
        · have e1 : decide (n < 1) = true := by simpa using h1
          clear hn
          go_wp2_with fail
          (with_reducible refine (six_walk _).mono ?_)
          rintro e w8 ⟨rfl, hb8⟩
          have HB8 := Lib.hid (HB7.out.trans (hb8.mono HB7.out.size))
          clear hb8
          go_wp2
          go_ret
          exact ⟨rfl, HB8.out⟩
        · have e1 : decide (n < 1) = false := by simpa using h1
          have h2 : 255 < n := by omega
          have e2 : decide (255 < n) = true := by simpa using h2
          clear hn
          go_wp2_with fail
          (with_reducible refine (six_walk _).mono ?_)
          rintro e w8 ⟨rfl, hb8⟩
          have HB8 := Lib.hid (HB7.out.trans (hb8.mono HB7.out.size))
          clear hb8
          go_wp2
          go_ret
          exact ⟨rfl, HB8.out⟩
      · obtain ⟨m, rfl⟩ := Int.eq_ofNat_of_zero_le (show 0 ≤ n by omega)
        have hm1 : 1 ≤ m ∧ m ≤ 255 := by omega
        have HP := Lib.hid (fun w => piece_walk b m w hm1.1 hm1.2)
        have HQ := Lib.hid (fun w => refpiece_walk b m w hm1.2)
        generalize Fr.bs (Rl.text ⟨b, m⟩) = T at *
        have e1 : decide ((m : Int) < 1) = false := by simp; omega
        have e1' : ¬ (m : Int) < 1 := by omega
        have e2 : decide ((255 : Int) < (m : Int)) = false := by simp; omega
        have e2' : ¬ (255 : Int) < (m : Int) := by omega
        clear hn
        go_wp2_with fail
        refine (HP.out _).mono ?_
        rintro e w7 ⟨rfl, hb7⟩
        have HX7 := Lib.hid (HX4.out.below hb7 HX4.out.lt)
        have HB7 := Lib.hid (HB4.out.trans (hb7.mono HB4.out.size))
        clear hb7 x0 x1
        have x0 := HX7.out.cell 0; have x1 := HX7.out.cell 1
        simp only [List.getElem?_toArray, List.getElem?_cons_zero, List.getElem?_cons_succ] at x0 x1
        go_wp2_with fail
        refine (HQ.out _).mono ?_
        rintro e w8 ⟨rfl, hb8⟩
        have HB8 := Lib.hid (HB7.out.trans (hb8.mono HB7.out.size))
        clear hb8
        go_wp2_with fail
        (with_reducible refine (six_walk _).mono ?_)
        rintro e w9 ⟨rfl, hb9⟩
        have HB9 := Lib.hid (HB8.out.trans (hb9.mono HB8.out.size))
        clear hb9
        go_wp2
        go_ret
        exact ⟨rfl, HB9.out⟩
theorem rlePieces_walk (s : ByteArray) (x n : Int) (w : World) (_ : s.size ≤ maxLen) (hx : (Lit.int .u8 x).wf = true) (_ : (Lit.int .i64 n).wf = true) :
    Calls Try.prog 6 #[.string s, .agg #[.int .u8 x, .int .i64 n]] w fun e w' => e = .returned (.bool true) ∧ Below w.heap.size w w' := by
  obtain ⟨b, rfl⟩ := u8_of hx
  by_cases hl : 2000 < s.size
  · exact rlePieces_big s b n w hl
  · exact rlePieces_small s b n w hl
end Go.Proofs.Ytmomcaghfkgoeaa
