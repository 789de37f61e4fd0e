/- The law of packers. (Printed by gen_feedpacks.py.) -/
import Derived.Test.YtohdifhleeonpaaFeedLaw2
import Derived.Test.YtohdifhleeonpaaFeedSure
namespace Go.Proofs.Ytohdifhleeonpaa
open Go.RowKit
set_option linter.unusedVariables false
set_option linter.unusedSimpArgs false

set_option maxRecDepth 100000 in
set_option maxHeartbeats 4000000 in
theorem feedPacks_in (s : ByteArray) (w : World) (hl : ¬ 600 < s.size) :
    Calls Try.prog 3 #[.string s] w fun e w' => e = .returned (.bool true) ∧ Below w.heap.size w w' := by
  have hl' : ¬ (600 : Int) < (s.size : Int) := by omega
  have HL := Lib.hid hl
  have H0 := Lib.hid (newPacker_walk w)
  have HENC := Lib.hid (fun w => refencode_walk s w (by omega))
  clear hl
  go_enter Try.func3, Try.ntmps3
  go_wp2_with fail
  (with_reducible refine (H0.out).mono ?_)
  rintro e w1 ⟨rfl, hk1, hb1⟩
  have HK1 := Lib.hid hk1
  have HB1 := Lib.hid hb1
  clear hk1 hb1
  go_wp2_with fail
  go_loopw [15, 4] (fun i x wr => ∃ k : Nat, i = .int .i64 k ∧ k ≤ s.size ∧ x = .string (Fr.bs (Rl.sureB (s.data.toList.take k))) ∧ KAt wr w.heap.size (Rl.rowOf (s.data.toList.take k)) ∧ Below w.heap.size w wr) (fun i _ _ => s.size - (intOf i).toNat)
  case atStart => exact ⟨0, rfl, Nat.zero_le _, rfl, HK1.out, HB1.out⟩
  case round =>
    obtain ⟨k, rfl, hk, rfl, hka, hbr⟩ := hrel
    have HB := Lib.hid hbr
    by_cases hlt : k < s.size
    · have hlt' : (k : Int) < (s.size : Int) := by omega
      have htm := take_more (bget s k hlt)
      have HP := Lib.hid (put_walk w.heap.size (Rl.rowOf (s.data.toList.take k)) s[k] wr hka (Rl.rowOf_bd _).1)
      have HRW := Lib.hid (show Rl.rowOf (s.data.toList.take (k + 1)) = (Rl.pput (Rl.rowOf (s.data.toList.take k)) s[k]).2 by rw [htm]; exact (Rl.put_row _ _).2)
      have HC := Lib.hid (show Fr.bs (Rl.sureB (s.data.toList.take k)) ++ Fr.bs (Rl.putB (Rl.rowOf (s.data.toList.take k)) s[k]) = Fr.bs (Rl.sureB (s.data.toList.take (k + 1))) by rw [htm, Rl.sureB_put, bs_app])
      have hsl := sure_len (s.data.toList.take k)
      have hpl := putB_len (Rl.rowOf (s.data.toList.take k)) s[k]
      have hz1 := bs_size (Rl.sureB (s.data.toList.take k))
      have hz2 := bs_size (Rl.putB (Rl.rowOf (s.data.toList.take k)) s[k])
      rw [List.length_take, llen] at hsl
      generalize Fr.bs (Rl.sureB (s.data.toList.take k)) = S at *
      generalize Fr.bs (Rl.putB (Rl.rowOf (s.data.toList.take k)) s[k]) = T at *
      have hcat : S.size + T.size ≤ 10000 := by omega
      have hkb : (k : Int) ≤ 600 := by omega
      obtain ⟨d, hd⟩ : ∃ d, d = k % 7 := ⟨_, rfl⟩
      have hm1 : Int.tmod (k : Int) 7 = (d : Int) := by rw [Int.tmod_eq_emod_of_nonneg (by omega)]; omega
      have hm2 : (k : Int) % 7 = (d : Int) := by omega
      clear htm hsl hpl hz1 hz2 hka hbr hd
      by_cases hd0 : d = 0
      · have e1 : ((d : Int) == 0) = true := by simpa using (show (d : Int) = 0 by omega)
        clear hd0
        go_wp2_with fail
        (with_reducible refine (HP.out).mono ?_)
        rintro e w2 ⟨rfl, h1, h2⟩
        have HK2 := Lib.hid (show KAt w2 w.heap.size (Rl.rowOf (s.data.toList.take (k + 1))) by rw [HRW.out]; exact h1)
        have HB2 := Lib.hid (HB.out.trans (h2.below HB.out.size (by simp)))
        clear h1 h2

        have HSU := Lib.hid (fun w => refsure_walk (s.extract 0 (k + 1)) w (by rw [ByteArray.size_extract]; have := HL.out; omega))
        rw [list_to, ← HC.out] at HSU
        have hsk1 := run_slice_to Try.underlying9 s (k + 1) ((k : Int) + 1) (by omega) hlt
        generalize s.extract 0 (k + 1) = sk at *
        generalize hrow : Rl.rowOf (s.data.toList.take (k + 1)) = row at *
        have HRE := Lib.hid hrow
        clear hrow
        go_wp2_with fail
        refine (HSU.out _).mono ?_
        rintro e w3 ⟨rfl, hb3⟩
        have HK3 := Lib.hid (show KAt w3 w.heap.size row from Has.below HK2.out hb3 (Has.lt HK2.out))
        have HB3 := Lib.hid (HB2.out.trans (hb3.mono HB2.out.size))
        clear hb3
        go_upto_region 11 with (fail)
        have HK4 := Lib.hid (show KAt (w3.alloc (.cells #[.int .u8 (row.b.toNat : Int), .int .i64 (row.n : Int)] 27)) w.heap.size row from Has.alloc HK3.out _)
        have HX := Lib.hid (Has.new w3 #[.int .u8 (row.b.toNat : Int), .int .i64 (row.n : Int)] 27)
        have HB4 := Lib.hid (HB3.out.alloc HB3.out.size (.cells #[.int .u8 (row.b.toNat : Int), .int .i64 (row.n : Int)] 27))
        generalize w3.alloc (.cells #[.int .u8 (row.b.toNat : Int), .int .i64 (row.n : Int)] 27) = w4 at *
        have m0 : ∀ x : Later w4, x.at.cell? ⟨w3.heap.size, 0, none⟩ = some (.int .u8 (row.b.toNat : Int)) := fun x => x.cell (HX.out.cell 0)
        have m1 : ∀ x : Later w4, x.at.cell? ⟨w3.heap.size, 1, none⟩ = some (.int .i64 (row.n : Int)) := fun x => x.cell (HX.out.cell 1)
        have HROW := Lib.hid (fun x : Later w4 => later_call (x := x) (prow_walk w.heap.size row x.at (Has.below HK4.out x.below (Has.lt HK4.out))))
        refine region_later 9 (by kernel_rfl) (by kernel_rfl) ?_
        simp only [List.take_succ_cons, List.take_zero, List.drop_succ_cons, List.drop_zero]
        repeat (go_big_quiet_step (exact HROW.out _))
        refine wpQuiet_nil ?_
        rintro w' ⟨x, rfl⟩
        have HK5 := Lib.hid (show KAt x.at w.heap.size row from Has.below HK4.out x.below (Has.lt HK4.out))
        have HB5 := Lib.hid (HB4.out.trans (x.below.mono HB4.out.size))
        clear m0 m1
        generalize x.at = w5 at *
        go_wp2
        go_roundw
        case rel => exact ⟨k + 1, by go_num, hlt, by rw [HC.out], by rw [HRE.out]; exact HK5.out, HB5.out⟩
        case measure => simp [intOf] <;> omega
      · have e1 : ((d : Int) == 0) = false := by simpa using (show ¬ (d : Int) = 0 by omega)
        clear hd0
        by_cases he : k + 1 = s.size
        · have e2 : ((k : Int) + 1 == (s.size : Int)) = true := by simpa using (show (k : Int) + 1 = (s.size : Int) by omega)
          have e2' : (k : Int) + 1 ≤ (s.size : Int) := by omega
          clear he
          go_wp2_with fail
          (with_reducible refine (HP.out).mono ?_)
          rintro e w2 ⟨rfl, h1, h2⟩
          have HK2 := Lib.hid (show KAt w2 w.heap.size (Rl.rowOf (s.data.toList.take (k + 1))) by rw [HRW.out]; exact h1)
          have HB2 := Lib.hid (HB.out.trans (h2.below HB.out.size (by simp)))
          clear h1 h2

          have HSU := Lib.hid (fun w => refsure_walk (s.extract 0 (k + 1)) w (by rw [ByteArray.size_extract]; have := HL.out; omega))
          rw [list_to, ← HC.out] at HSU
          have hsk1 := run_slice_to Try.underlying9 s (k + 1) ((k : Int) + 1) (by omega) hlt
          generalize s.extract 0 (k + 1) = sk at *
          generalize hrow : Rl.rowOf (s.data.toList.take (k + 1)) = row at *
          have HRE := Lib.hid hrow
          clear hrow
          go_wp2_with fail
          refine (HSU.out _).mono ?_
          rintro e w3 ⟨rfl, hb3⟩
          have HK3 := Lib.hid (show KAt w3 w.heap.size row from Has.below HK2.out hb3 (Has.lt HK2.out))
          have HB3 := Lib.hid (HB2.out.trans (hb3.mono HB2.out.size))
          clear hb3
          go_upto_region 11 with (fail)
          have HK4 := Lib.hid (show KAt (w3.alloc (.cells #[.int .u8 (row.b.toNat : Int), .int .i64 (row.n : Int)] 27)) w.heap.size row from Has.alloc HK3.out _)
          have HX := Lib.hid (Has.new w3 #[.int .u8 (row.b.toNat : Int), .int .i64 (row.n : Int)] 27)
          have HB4 := Lib.hid (HB3.out.alloc HB3.out.size (.cells #[.int .u8 (row.b.toNat : Int), .int .i64 (row.n : Int)] 27))
          generalize w3.alloc (.cells #[.int .u8 (row.b.toNat : Int), .int .i64 (row.n : Int)] 27) = w4 at *
          have m0 : ∀ x : Later w4, x.at.cell? ⟨w3.heap.size, 0, none⟩ = some (.int .u8 (row.b.toNat : Int)) := fun x => x.cell (HX.out.cell 0)
          have m1 : ∀ x : Later w4, x.at.cell? ⟨w3.heap.size, 1, none⟩ = some (.int .i64 (row.n : Int)) := fun x => x.cell (HX.out.cell 1)
          have HROW := Lib.hid (fun x : Later w4 => later_call (x := x) (prow_walk w.heap.size row x.at (Has.below HK4.out x.below (Has.lt HK4.out))))
          refine region_later 9 (by kernel_rfl) (by kernel_rfl) ?_
          simp only [List.take_succ_cons, List.take_zero, List.drop_succ_cons, List.drop_zero]
          repeat (go_big_quiet_step (exact HROW.out _))
          refine wpQuiet_nil ?_
          rintro w' ⟨x, rfl⟩
          have HK5 := Lib.hid (show KAt x.at w.heap.size row from Has.below HK4.out x.below (Has.lt HK4.out))
          have HB5 := Lib.hid (HB4.out.trans (x.below.mono HB4.out.size))
          clear m0 m1
          generalize x.at = w5 at *
          go_wp2
          go_roundw
          case rel => exact ⟨k + 1, by go_num, hlt, by rw [HC.out], by rw [HRE.out]; exact HK5.out, HB5.out⟩
          case measure => simp [intOf] <;> omega
        · have e2 : ((k : Int) + 1 == (s.size : Int)) = false := by simpa using (show ¬ (k : Int) + 1 = (s.size : Int) by omega)
          clear he
          go_wp2_with fail
          (with_reducible refine (HP.out).mono ?_)
          rintro e w2 ⟨rfl, h1, h2⟩
          have HK2 := Lib.hid (show KAt w2 w.heap.size (Rl.rowOf (s.data.toList.take (k + 1))) by rw [HRW.out]; exact h1)
          have HB2 := Lib.hid (HB.out.trans (h2.below HB.out.size (by simp)))
          clear h1 h2

          go_wp2
          go_roundw
          case rel => exact ⟨k + 1, by go_num, hlt, by rw [HC.out], HK2.out, HB2.out⟩
          case measure => simp [intOf] <;> omega
    · have hlt' : ¬ (k : Int) < (s.size : Int) := by omega
      obtain rfl : k = s.size := by omega
      rw [← llen, List.take_length] at hka ⊢
      have hr := (Rl.rowOf_bd s.data.toList).1
      have HE := Lib.hid (fun w' h => pend_walk w.heap.size (Rl.rowOf s.data.toList) w' h (by omega))
      have HE0 := Lib.hid (fun w' h => pend_walk w.heap.size Rl.row0 w' h (by decide))
      rw [show Rl.endB Rl.row0 = [] from rfl, show Fr.bs [] = ⟨#[]⟩ from rfl] at HE0
      have HR0 := Lib.hid (fun w' h => prow_walk w.heap.size Rl.row0 w' h)
      have HC := Lib.hid (show Fr.bs (Rl.sureB s.data.toList) ++ Fr.bs (Rl.endB (Rl.rowOf s.data.toList)) = Fr.bs (Rl.enc s.data.toList) by rw [bs_app, Rl.sureB_end])
      have hsm := Rl.enc_small s.data.toList
      rw [llen] at hsm
      have hz := congrArg ByteArray.size HC.out
      rw [ByteArray.size_append, bs_size (Rl.enc s.data.toList)] at hz
      have hL := HL.out
      rw [← HC.out] at HENC
      have HKA := Lib.hid hka
      generalize Fr.bs (Rl.sureB s.data.toList) = S at *
      generalize Fr.bs (Rl.endB (Rl.rowOf s.data.toList)) = T at *
      have hcat : S.size + T.size ≤ 10000 := by omega
      clear hka hbr hz hsm hL HC
      go_wp2_with fail
      (with_reducible refine (HE.out _ HKA.out).mono ?_)
      rintro e w2 ⟨rfl, h1, h2⟩
      have HK2 := Lib.hid h1
      have HB2 := Lib.hid (HB.out.trans (h2.below HB.out.size (by simp)))
      clear h1 h2
      go_wp2_with fail
      (with_reducible refine (HENC.out _).mono ?_)
      rintro e w3 ⟨rfl, hb3⟩
      have HK3 := Lib.hid (show KAt w3 w.heap.size Rl.row0 from Has.below HK2.out hb3 (Has.lt HK2.out))
      have HB3 := Lib.hid (HB2.out.trans (hb3.mono HB2.out.size))
      clear hb3
      go_wp2_with fail
      (with_reducible refine (HR0.out _ HK3.out).mono ?_)
      rintro e w4 ⟨rfl, hb4⟩
      have HK4 := Lib.hid (show KAt w4 w.heap.size Rl.row0 from Has.below HK3.out hb4 (Has.lt HK3.out))
      have HB4 := Lib.hid (HB3.out.trans (hb4.mono HB3.out.size))
      clear hb4
      have hz0 : (Rl.row0.b.toNat : Int) = 0 := rfl
      have hz1 : (Rl.row0.n : Int) = 0 := rfl
      go_wp2_with fail
      (with_reducible refine (HE0.out _ HK4.out).mono ?_)
      rintro e w5 ⟨rfl, h1, h2⟩
      have HB5 := Lib.hid (HB4.out.trans (h2.below HB4.out.size (by simp)))
      clear h1 h2
      go_wp2_with fail
      (with_reducible refine (five_walk _).mono ?_)
      rintro e w6 ⟨rfl, hb6⟩
      have HB6 := Lib.hid (HB5.out.trans (hb6.mono HB5.out.size))
      clear hb6
      go_wp2
      go_ret
      exact ⟨rfl, HB6.out⟩
set_option maxRecDepth 100000 in
set_option maxHeartbeats 800000 in
theorem feedPacks_walk (s : ByteArray) (w : World) (_ : s.size ≤ maxLen) :
    Calls Try.prog 3 #[.string s] w fun e w' => e = .returned (.bool true) ∧ Below w.heap.size w w' := by
  by_cases hl : 600 < s.size
  · have hl' : (600 : Int) < (s.size : Int) := by omega
    clear hl
    go_enter Try.func3, Try.ntmps3
    go_wp2_with fail
    (with_reducible refine (five_walk _).mono ?_)
    rintro e w1 ⟨rfl, hb1⟩
    go_wp2
    go_ret
    exact ⟨rfl, hb1⟩
  · exact feedPacks_in s w hl
end Go.Proofs.Ytohdifhleeonpaa

