/- The law of long frames. -/
import Derived.Test.YtjneeomioolcjaaFrameLaw3
import Derived.Laws.MakeOwn
namespace Go.Proofs.Ytjneeomioolcjaa
open Go.RowKit

/-- k zero bytes -/
def zs (k : Nat) : ByteArray := Fr.bs (List.replicate k 0)
theorem zs_size (k : Nat) : (zs k).size = k := by rw [← Fr.size_list]; unfold zs; rw [Fr.list_bs]; simp
theorem made_get (k i : Nat) (h : i < k) : (madeCells #[Value.int .u8 0] k)[i]? = some (Value.int .u8 0) := by
  simp [madeCells, h, Nat.mod_one]
theorem conv_zs (k : Nat) (hk : k ≤ 65600) (w : World) (T : TypeId) :
    (convert 39 9 (.slice (some ⟨w.heap.size, 0, none⟩) k k)).run Try.prog (w.alloc (.cells (madeCells #[Value.int .u8 0] k) T)) = .ok (.string (zs k)) (w.alloc (.cells (madeCells #[Value.int .u8 0] k) T)) := by
  refine convert_row (bs := List.replicate k 0) Try.underlying39 Try.underlying5 Try.underlying9 ⟨Nat.le_refl _, by unfold maxLen; omega, by simp, (fun e => nomatch e), fun x hx _ => ?_⟩
  cases hx
  refine ⟨w.heap.size, 0, rfl, fun i hi => ?_⟩
  rw [(Has.new w _ _).cell, Nat.zero_add, made_get k i hi]
  simp [vB, hi]
theorem make_zs (k : Nat) (hk : k ≤ 65600) (w : World) :
    (Instr.makeSlice 39 (.int .i64 (k : Int)) (.int .i64 (k : Int))).run Try.prog w = .ok (.slice (some ⟨w.heap.size, 0, none⟩) k k) (w.alloc (.cells (madeCells #[Value.int .u8 0] k) 5)) := by
  have h : (Try.prog.info? 5).map (fun i => (i.zero, i.size, i.bytes)) = some (some (.int .u8 0), 1, 1) := by kernel_rfl
  obtain ⟨i, hi, hp⟩ := Option.map_eq_some_iff.1 h
  simp only [Prod.mk.injEq] at hp
  obtain ⟨hz, h1, h2⟩ := hp
  have := run_makeSlice (P := Try.prog) (w := w) 39 5 i (.int .u8 0) Try.underlying39 hi hz .i64 .i64 (k : Int) (k : Int) (by omega) (Int.le_refl _) (by rw [h1, Int.toNat_natCast]; omega) (by rw [h2]; omega) (by omega)
  rw [this, h1, Int.toNat_natCast, Nat.mul_one]
  rfl
theorem Fr.long_dec (c k : Nat) (hc : c < 7) (hk : 65536 < k) (hk2 : k < 65600) : Fr.dec ((Fr.enc ⟨1 + (c : Int), k, ⟨#[]⟩⟩).extract 0 5 ++ Fr.bs (Fr.put4 k)) = Fr.none_ 2 := by
  have hl : ((Fr.enc ⟨1 + (c : Int), k, ⟨#[]⟩⟩).extract 0 5 ++ Fr.bs (Fr.put4 k)).data.toList = UInt8.ofNat (1 + c) :: (Fr.put4 k ++ Fr.put4 k) := by
    rw [Fr.list_append, Fr.list_bs, ByteArray.data_extract, Array.toList_extract, Fr.enc_list]
    have e1 : (1 + (c : Int)).toNat = 1 + c := by omega
    show List.extract (UInt8.ofNat (1 + (c : Int)).toNat :: _) 0 5 ++ _ = _
    rw [e1]
    rfl
  have hs : ((Fr.enc ⟨1 + (c : Int), k, ⟨#[]⟩⟩).extract 0 5 ++ Fr.bs (Fr.put4 k)).size = 9 := by
    rw [← Fr.size_list, hl]; rfl
  have h5 : Fr.num4 (((Fr.enc ⟨1 + (c : Int), k, ⟨#[]⟩⟩).extract 0 5 ++ Fr.bs (Fr.put4 k)).data.toList.drop 5) = k := by
    rw [hl]
    have : (UInt8.ofNat (1 + c) :: (Fr.put4 k ++ Fr.put4 k)).drop 5 = Fr.put4 k ++ [] := rfl
    rw [this, Fr.num4_put4 k (by omega)]
  refine Fr.dec_l _ ?_ (by rw [hs]; decide) (by rw [h5]; exact hk)
  rw [hl]
  show Fr.mayT ((UInt8.ofNat (1 + c)).toNat : Int) = true
  rw [UInt8.toNat_ofNat']
  unfold Fr.mayT
  simp
  omega
theorem Fr.long_may (c : Nat) (hc : c < 7) : Fr.mayT (1 + (c : Int)) = true := by unfold Fr.mayT; simp; omega
theorem Fr.long_wrong (c k : Nat) (d : ByteArray) (hc : c < 7) (hk : k < 65600) : Fr.wrong ⟨1 + (c : Int), k, d⟩ = if 65536 < d.size then 2 else 0 := by
  unfold Fr.wrong
  simp only [Fr.long_may c hc]
  rw [if_neg (by decide), if_neg (by omega)]

set_option maxRecDepth 100000 in
set_option maxHeartbeats 2000000 in
theorem frameLong_walk (n a : Int) (w : World) (hn : (Lit.int .u32 n).wf = true) (ha : (Lit.int .u8 a).wf = true) :
    Calls Try.prog 5 #[.int .u32 n, .int .u8 a] w fun e w' => e = .returned (.bool true) ∧ Below w.heap.size w w' := by
  have HE := Lib.hid (fun w => end_walk w)
  have hn1 : 0 ≤ n ∧ n ≤ 4294967295 := by simpa [Lit.wf, IntKind.min, IntKind.max, IntKind.signed, IntKind.bits] using hn
  have ha1 : 0 ≤ a ∧ a ≤ 255 := by simpa [Lit.wf, IntKind.min, IntKind.max, IntKind.signed, IntKind.bits] using ha
  obtain ⟨m, rfl⟩ : ∃ m : Nat, n = m := ⟨n.toNat, by omega⟩
  obtain ⟨b, rfl⟩ : ∃ m : Nat, a = m := ⟨a.toNat, by omega⟩
  obtain ⟨k, hk⟩ : ∃ k : Nat, k = m % 65600 := ⟨_, rfl⟩
  have hk1 : k < 65600 := by omega
  have hk2 : Int.tmod (m : Int) 65600 = (k : Int) := by rw [Int.tmod_eq_emod_of_nonneg (by omega)]; omega
  obtain ⟨c, hc⟩ : ∃ c : Nat, c = b % 7 := ⟨_, rfl⟩
  have hc1 : c < 7 := by omega
  have hc2 : Int.tmod (b : Int) 7 = (c : Int) := by rw [Int.tmod_eq_emod_of_nonneg (by omega)]; omega
  have hb3 : (b : Int) < 256 := by omega
  clear hn ha hn1 ha1 hk hc
  have hmk := make_zs k (by omega)
  have hcv := conv_zs k (by omega)
  have hzs := zs_size k
  have HT := Lib.hid (Fr.long_wrong c k (zs k) hc1 hk1)
  by_cases h1 : 3000 < k ∧ k < 65530
  · have g1 : (3000 : Int) < (k : Int) := by omega
    have g2 : (k : Int) < 65530 := by omega
    clear HT hzs hmk hcv
    go_enter Try.func5, Try.ntmps5
    go_wp2_with fail
    refine (HE.out _).mono ?_
    rintro e w1 ⟨rfl, hb1⟩
    go_wp2
    go_ret
    exact ⟨rfl, hb1⟩
  · by_cases h2 : 65536 < k
    · have g1 : (3000 : Int) < (k : Int) := by omega
      have g2 : ¬ (k : Int) < 65530 := by omega
      have g3 : (65536 : Int) < (k : Int) := by omega
      have H1 := Lib.hid (fun w => xenc_walk ⟨1 + (c : Int), k, zs k⟩ w)
      have H2 := Lib.hid (fun w => refenc ⟨1 + (c : Int), k, ⟨#[]⟩⟩ w (by rw [Fr.long_wrong c k _ hc1 hk1]; rfl))
      have H3 := Lib.hid (fun w => reffour_walk k w (by omega))
      have hes := Fr.enc_size ⟨1 + (c : Int), k, ⟨#[]⟩⟩
      have hsl := run_slice_to Try.underlying9 (Fr.enc ⟨1 + (c : Int), k, ⟨#[]⟩⟩) 5 5 rfl (by rw [hes]; exact Nat.le_add_right_of_le (by decide))
      have hld := Fr.long_dec c k hc1 h2 hk1
      have hz4 : (Fr.bs (Fr.put4 k)).size = 4 := rfl
      have hz5 : ((Fr.enc ⟨1 + (c : Int), k, ⟨#[]⟩⟩).extract 0 5).size = 5 := by rw [ByteArray.size_extract, hes]; show min 5 (9 + 0) - 0 = 5; rfl
      rw [HT.out, hzs, if_pos h2] at H1
      simp only [show ((2 : Int) = 0) = False from by simp, if_false] at H1
      unfold fv at H1 H2
      simp only at H1 H2
      generalize Fr.enc ⟨1 + (c : Int), k, ⟨#[]⟩⟩ = u at *
      generalize u.extract 0 5 = v at *
      generalize Fr.bs (Fr.put4 k) = x at *
      have H4 := Lib.hid (fun w => xdec_walk (v ++ x) w (by rw [ByteArray.size_append, hz4, hz5]; decide))
      rw [hld] at H4
      clear HT hld h1 h2
      go_enter Try.func5, Try.ntmps5
      go_wp2_with fail
      refine (H1.out _).mono ?_
      rintro e w1 ⟨rfl, hb1⟩
      have R0 := Has.below (Has.new (w.alloc (.cells (madeCells #[Value.int .u8 0] k) 5)) #[Value.int .i64 (1 + (c : Int)), Value.int .i64 (k : Int), Value.string (zs k)] 23) hb1 (by simp)
      rw [World.size_alloc] at R0
      have Hb1 := Lib.hid ((below_alloc2 w (.cells (madeCells #[Value.int .u8 0] k) 5) (.cells #[Value.int .i64 (1 + (c : Int)), Value.int .i64 (k : Int), Value.string (zs k)] 23)).trans (hb1.mono (by simp; omega)))
      have HR0 := Lib.hid R0
      clear hb1 R0 hmk hcv
      have c0 : ∀ x : Later w1, x.at.cell? ⟨w.heap.size + 1, 0, none⟩ = some (.int .i64 (1 + (c : Int))) := fun x => x.cell (HR0.out.cell 0)
      have K1 := Lib.hid (fun x : Later w1 => later_call (x := x) (H2.out x.at))
      have K2 := Lib.hid (fun x : Later w1 => later_call (x := x) (H3.out x.at))
      simp only [fv, Fr.none_] at H4
      go_wp2_with fail
      refine region_later 10 (by kernel_rfl) (by kernel_rfl) ?_
      simp only [List.take_succ_cons, List.take_zero, List.drop_succ_cons, List.drop_zero]
      repeat (go_big_quiet_step ((first | (with_reducible exact K1.out _) | (with_reducible exact K2.out _))))
      refine wpQuiet_nil ?_
      rintro w' ⟨y, rfl⟩
      have Hb2 := Lib.hid (Hb1.out.trans (y.below.mono Hb1.out.size))
      clear K1 K2 c0
      generalize y.at = w2 at *
      go_wp2_with fail
      refine (H4.out _).mono ?_
      rintro e w3 ⟨rfl, hb3⟩
      have Hb3 := Lib.hid (Hb2.out.trans (hb3.mono Hb2.out.size))
      clear hb3
      go_wp2_with fail
      refine (HE.out _).mono ?_
      rintro e w4 ⟨rfl, hb4⟩
      have Hb4 := Lib.hid (Hb3.out.trans (((Below.refl w3.heap.size w3).alloc (Nat.le_refl _) _).trans (hb4.mono (by simp)) |>.mono Hb3.out.size))
      clear hb4
      go_wp2
      go_ret
      exact ⟨rfl, Hb4.out⟩
    · have g3 : ¬ (65536 : Int) < (k : Int) := by omega
      have H1 := Lib.hid (fun w => xenc_walk ⟨1 + (c : Int), k, zs k⟩ w)
      have hw : Fr.wrong ⟨1 + (c : Int), k, zs k⟩ = 0 := by rw [HT.out, hzs, if_neg h2]
      have hes := Fr.enc_size ⟨1 + (c : Int), k, zs k⟩
      have hld := Fr.dec_enc ⟨1 + (c : Int), k, zs k⟩ ⟨#[]⟩ hw
      have hap : Fr.enc ⟨1 + (c : Int), k, zs k⟩ ++ (⟨#[]⟩ : ByteArray) = Fr.enc ⟨1 + (c : Int), k, zs k⟩ := ByteArray.append_empty
      rw [hap] at hld
      rw [hw, if_pos rfl] at H1
      replace hes : (Fr.enc ⟨1 + (c : Int), k, zs k⟩).size = 9 + k := by rw [hes]; show 9 + (zs k).size = _; rw [hzs]
      unfold fv at H1
      simp only at H1
      generalize Fr.enc ⟨1 + (c : Int), k, zs k⟩ = u at *
      have H4 := Lib.hid (fun w => xdec_walk u w (by rw [hes]; omega))
      rw [hld, hes] at H4
      simp only [fv] at H4
      have he9 : (((9 + k : Nat) : Int) == (k : Int) + 9) = true := by simp; omega
      have hcast : ((9 + k : Nat) : Int) = (k : Int) + 9 := by omega
      rw [hcast] at H4
      clear HT hld hap hw he9 hcast
      have g12 : (k : Int) ≤ 3000 ∨ (3000 < (k : Int) ∧ ¬ (k : Int) < 65530) := by omega
      clear h1 h2
      rcases g12 with g1 | ⟨g1, g2⟩
      all_goals
        go_enter Try.func5, Try.ntmps5
        go_wp2_with fail
        refine (H1.out _).mono ?_
        rintro e w1 ⟨rfl, hb1⟩
        have R0 := Has.below (Has.new (w.alloc (.cells (madeCells #[Value.int .u8 0] k) 5)) #[Value.int .i64 (1 + (c : Int)), Value.int .i64 (k : Int), Value.string (zs k)] 23) hb1 (by simp)
        rw [World.size_alloc] at R0
        have Hb1 := Lib.hid ((below_alloc2 w (.cells (madeCells #[Value.int .u8 0] k) 5) (.cells #[Value.int .i64 (1 + (c : Int)), Value.int .i64 (k : Int), Value.string (zs k)] 23)).trans (hb1.mono (by simp; omega)))
        have HR0 := Lib.hid R0
        clear hb1 R0 hmk hcv
        go_wp2_with fail
        refine (H4.out _).mono ?_
        rintro e w3 ⟨rfl, hb3⟩
        have Hb3 := Lib.hid (Hb1.out.trans (hb3.mono Hb1.out.size))
        have R3 := HR0.out.below hb3 HR0.out.lt
        have hlt3 := R3.lt
        have c0 := R3.cell 0; have c1 := R3.cell 1; have c2 := R3.cell 2
        simp only [List.getElem?_toArray, List.getElem?_cons_zero, List.getElem?_cons_succ] at c0 c1 c2
        clear hb3 R3
        go_wp2_with fail
        refine (HE.out _).mono ?_
        rintro e w4 ⟨rfl, hb4⟩
        have Hb4 := Lib.hid (Hb3.out.trans (((Below.refl w3.heap.size w3).alloc (Nat.le_refl _) _).trans (hb4.mono (by simp)) |>.mono Hb3.out.size))
        clear hb4
        go_wp2
        go_ret
        exact ⟨rfl, Hb4.out⟩
end Go.Proofs.Ytjneeomioolcjaa
