/- SplitWhole. -/
import Derived.Test.YtaldcdgafljedaaSplLaw4
import Derived.Test.YtaldcdgafljedaaRleRef3
namespace Go.Proofs.Ytaldcdgafljedaa
open Go.RowKit
set_option linter.unusedVariables false
set_option linter.unusedSimpArgs false

theorem body_enc (ps : List Rl.Pc) (h : Rl.Apart ps) : Sp.body ps = Rl.enc (Rl.join ps) := by
  unfold Rl.enc
  rw [Rl.pcs_unique ps h]; rfl
theorem dec_body (ps : List Rl.Pc) (h : Rl.Apart ps) : Rl.dec (Sp.body ps) = (Rl.join ps, 0) := by rw [body_enc ps h, Rl.dec_enc]
theorem body_small (ps : List Rl.Pc) (h : Rl.Apart ps) : 4 * (Sp.body ps).length ≤ 5 * (Rl.join ps).length := by rw [body_enc ps h]; exact Rl.enc_small _
theorem blkjoin_take (L : List (List Rl.Pc)) (k : Nat) (h : k < L.length) : Rl.join (L.take (k + 1)).flatten = Rl.join (L.take k).flatten ++ Rl.join L[k] := by
  rw [List.take_add_one, List.getElem?_eq_getElem h, List.flatten_append, Rl.join_app]
  simp
theorem blkjoin_le (L : List (List Rl.Pc)) (k : Nat) : (Rl.join (L.take k).flatten).length ≤ (Rl.join L.flatten).length := by
  have := congrArg (fun x => (Rl.join x.flatten).length) (List.take_append_drop k L)
  simp only [List.flatten_append, Rl.join_app, List.length_append] at this
  omega
set_option maxRecDepth 100000 in
set_option maxHeartbeats 2000000 in
theorem splitWhole_in (s : ByteArray) (room : Nat) (w : World) (h : roomOk room = true) (hl : s.size ≤ 600) :
    Calls Try.prog 5 #[.string s, .int .i64 (room : Int)] w fun e w' => e = .returned (.bool true) ∧ Below w.heap.size w w' := by
  have hl' : ¬ (600 : Int) < (s.size : Int) := by omega
  have HRO := Lib.hid (fun w => refroom_walk room w)
  rw [h] at HRO
  have hh := of_decide_eq_true h
  have HOF := Lib.hid (fun w => sof_walk s room w h hl)
  have HAP := Lib.hid (blks_apart room s.data.toList)
  have hbl := blks_len room (by omega) s.data.toList
  have hbj := blks_join room s.data.toList
  rw [llen] at hbl hbj
  have HBJ := Lib.hid hbj
  have hfl : Rl.join (Sp.blks room s.data.toList).flatten = s.data.toList := by rw [Sp.blks_flat, Rl.join_pcs]
  have HFL := Lib.hid hfl
  generalize Sp.blks room s.data.toList = L at *
  have hlb : (L.length : Int) ≤ 1000 := by omega
  clear h hh hbl hbj hfl
  go_enter Try.func5, Try.ntmps5
  go_wp2_with fail
  (with_reducible refine (HRO.out _).mono ?_)
  rintro e w1 ⟨rfl, rfl⟩
  go_wp2_with fail
  (with_reducible refine (HOF.out _).mono ?_)
  rintro e w1 ⟨out, rfl, ho, hb1⟩
  obtain ⟨a, c, rfl, hr1, -⟩ := rowS_owns ho
  have HR1 := Lib.hid hr1
  have HB1 := Lib.hid hb1
  clear ho hr1 hb1
  go_wp2_with fail
  go_loopw [7, 29] (fun x i wr => ∃ k : Nat, i = .int .i64 k ∧ k ≤ L.length ∧ x = .string (Fr.bs (Rl.join (L.take k).flatten)) ∧ Below w1.heap.size w1 wr) (fun _ i _ => L.length - (intOf i).toNat)
  case atStart => exact ⟨0, rfl, Nat.zero_le _, rfl, Below.refl _ _⟩
  case round =>
    obtain ⟨k, rfl, hk, rfl, hbr⟩ := hrel
    have HB := Lib.hid hbr
    by_cases hlt : k < L.length
    · have hlt' : (k : Int) < (L.length : Int) := by omega
      obtain ⟨ab, ao, rfl, hab, hac⟩ := (HR1.out.keep hbr).at k hlt
      have a0 := hac 0 (by decide); have a1 := hac 1 (by decide); have a2' := hac 2 (by decide)
      rw [flat_get3 L k 0 hlt (by decide)] at a0
      rw [flat_get3 L k 1 hlt (by decide)] at a1
      rw [flat_get3 L k 2 hlt (by decide)] at a2'
      have HJT := Lib.hid (blkjoin_take L k hlt)
      have hja := blkjoin_le L (k + 1)
      rw [HFL.out, llen, blkjoin_take L k hlt, List.length_append] at hja
      have hap := HAP.out _ (List.getElem_mem hlt)
      generalize L[k] = ps at *
      have hdb := dec_body ps hap
      have hbz := body_small ps hap
      have HD := Lib.hid (fun w => refdecode_walk (Fr.bs (Sp.body ps)) w (by rw [bs_size]; omega))
      rw [Fr.list_bs, hdb] at HD
      have HSM := Lib.hid (fun w => refsum_walk ⟨#[]⟩ (Fr.bs (Rl.join ps)) w (by rw [bs_size]; unfold maxLen; omega))
      rw [Fr.list_bs] at HSM
      have HCT := Lib.hid (bs_app (Rl.join (L.take k).flatten) (Rl.join ps))
      have hz1 := bs_size (Rl.join ps)
      have hz2 := bs_size (Rl.join (L.take k).flatten)
      have hzz : ((Fr.bs (Rl.join ps)).size : Int) = ((Rl.join ps).length : Int) := by rw [hz1]
      simp only [bcells, vW, List.getD_cons_zero, List.getD_cons_succ, Nat.add_zero] at a0 a1 a2' HSM
      simp only [← Nat.add_assoc] at a1 a2'
      rw [← hzz] at a2'
      simp only at HD
      generalize ((Crc.sumOf (Rl.join ps)).toNat : Int) = m at *
      generalize hjp : Rl.join ps = JP at *
      generalize hjs : Rl.join (L.take k).flatten = JS at *
      generalize Fr.bs (Sp.body ps) = TB at *
      generalize Fr.bs JP = TJ at *
      generalize Fr.bs JS = TS at *
      have hcat : TS.size + TJ.size ≤ 10000000 := by omega
      have hkb : (k : Int) ≤ 1000 := by omega
      clear hac hbr hdb hbz hz1 hz2 hzz hja hap hjp hjs
      go_upto_region 8 with (fail)
      have HB2 := Lib.hid (HB.out.alloc HB.out.size (.cells #[.string TB, .int .u32 m, .int .i64 (TJ.size : Int)] 37))
      have HX := Lib.hid (Has.new wr #[.string TB, .int .u32 m, .int .i64 (TJ.size : Int)] 37)
      clear a0 a1 a2' HB
      generalize wr.heap.size = q at *
      generalize wr.alloc (.cells #[.string TB, .int .u32 m, .int .i64 (TJ.size : Int)] 37) = w2 at *
      have y0 := HX.out.cell 0
      simp only [List.getElem?_toArray, List.getElem?_cons_zero, List.getElem?_cons_succ] at y0
      go_wp2_with fail
      (with_reducible refine (HD.out _).mono ?_)
      rintro e w3 ⟨rfl, hb3⟩
      have HB3 := Lib.hid (HB2.out.trans (hb3.mono HB2.out.size))
      have HX3 := Lib.hid (HX.out.below hb3 HX.out.lt)
      clear HB2 HX hb3 y0 HD
      have x1 : ∀ x : Later w3, x.at.cell? ⟨q, 1, none⟩ = some (.int .u32 m) := fun x => x.cell (HX3.out.cell 1)
      have x2 : ∀ x : Later w3, x.at.cell? ⟨q, 2, none⟩ = some (.int .i64 (TJ.size : Int)) := fun x => x.cell (HX3.out.cell 2)
      have HVX := Lib.hid (fun x : Later w3 => later_call (x := x) (HSM.out x.at))
      go_upto_region 9 with (fail)
      refine region_later 17 (by kernel_rfl) (by kernel_rfl) ?_
      simp only [List.take_succ_cons, List.take_zero, List.drop_succ_cons, List.drop_zero]
      repeat (go_big_quiet_step (exact HVX.out _))
      refine wpQuiet_nil ?_
      rintro w' ⟨x, rfl⟩
      have HB4 := Lib.hid (HB3.out.trans (x.below.mono HB3.out.size))
      clear x1 x2 HVX HB3 HX3 HSM
      generalize x.at = w4 at *
      go_wp2
      go_roundw
      case rel => exact ⟨k + 1, by go_num, hlt, by rw [HJT.out, HCT.out], HB4.out⟩
      case measure => simp [intOf]; omega
    · have hlt' : ¬ (k : Int) < (L.length : Int) := by omega
      have hte : L.take k = L := List.take_of_length_le (by omega)
      have hts : Fr.bs (Rl.join (L.take k).flatten) = s := by rw [hte, HFL.out]; rfl
      rw [hts]
      have HB4 := Lib.hid (HB1.out.trans (hbr.mono HB1.out.size))
      clear hbr HB HR1 hte hts
      go_wp2_with fail
      (with_reducible refine (five_walk _).mono ?_)
      rintro e w8 ⟨rfl, hb8⟩
      have HB8 := Lib.hid (HB4.out.trans (hb8.mono HB4.out.size))
      clear hb8
      go_wp2
      go_ret
      exact ⟨rfl, HB8.out⟩
set_option maxRecDepth 100000 in
set_option maxHeartbeats 800000 in
theorem splitWhole_walk (s : ByteArray) (n : Int) (w : World) (_ : s.size ≤ maxLen) (_ : (Lit.int .i64 n).wf = true) : Calls Try.prog 5 #[.string s, .int .i64 n] w fun e w' => e = .returned (.bool true) ∧ Below w.heap.size w w' := by
  by_cases hl : 600 < s.size
  · have hl' : (600 : Int) < (s.size : Int) := by omega
    clear hl
    go_enter Try.func5, Try.ntmps5
    go_wp2_with fail
    (with_reducible refine (five_walk _).mono ?_)
    rintro e w2 ⟨rfl, hb2⟩
    go_wp2
    go_ret
    exact ⟨rfl, hb2⟩
  · by_cases hr : roomOk n = true
    · obtain ⟨room, rfl⟩ : ∃ room : Nat, n = (room : Int) := ⟨n.toNat, by have := of_decide_eq_true hr; omega⟩
      exact splitWhole_in s room w hr (by omega)
    · have hr' : roomOk n = false := by simpa using hr
      have HRO := Lib.hid (fun w => refroom_walk n w)
      rw [hr'] at HRO
      have hl' : ¬ (600 : Int) < (s.size : Int) := by omega
      clear hr hr' hl
      go_enter Try.func5, Try.ntmps5
      go_wp2_with fail
      (with_reducible refine (HRO.out _).mono ?_)
      rintro e w2 ⟨rfl, rfl⟩
      go_wp2_with fail
      (with_reducible refine (five_walk _).mono ?_)
      rintro e w4 ⟨rfl, hb4⟩
      go_wp2
      go_ret
      exact ⟨rfl, hb4⟩
end Go.Proofs.Ytaldcdgafljedaa
