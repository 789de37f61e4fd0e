/- The law of small packed texts. -/
import Derived.Test.YtmomcaghfkgoeaaRleLaw1
import Derived.Laws.MakeOwn
namespace Go.Proofs.Ytmomcaghfkgoeaa
open Go.RowKit
set_option linter.unusedVariables false
set_option linter.unusedSimpArgs false

theorem made_get (k i : Nat) (h : i < k) : (madeCells #[Value.int .u8 0] k)[i]? = some (Value.int .u8 0) := by
  simp [madeCells, h, Nat.mod_one]
theorem make_zs (k : Nat) (hk : k ≤ 65600) (w : World) :
    (Instr.makeSlice 24 (.int .i64 (k : Int)) (.int .i64 (k : Int))).run Try.prog w = .ok (.slice (some ⟨w.heap.size, 0, none⟩) k k) (w.alloc (.cells (madeCells #[Value.int .u8 0] k) 5)) := by
  have h : (Try.prog.info? 5).map (fun i => (i.zero, i.size, i.bytes)) = some (some (.int .u8 0), 1, 1) := by kernel_rfl
  obtain ⟨i, hi, hp⟩ := Option.map_eq_some_iff.1 h
  simp only [Prod.mk.injEq] at hp
  obtain ⟨hz, h1, h2⟩ := hp
  have := run_makeSlice (P := Try.prog) (w := w) 24 5 i (.int .u8 0) Try.underlying24 hi hz .i64 .i64 (k : Int) (k : Int) (by omega) (Int.le_refl _) (by rw [h1, Int.toNat_natCast]; omega) (by rw [h2]; omega) (by omega)
  rw [this, h1, Int.toNat_natCast, Nat.mul_one]
  rfl
theorem row_zs (k : Nat) (hk : k ≤ 65600) (w : World) : RowAt (w.alloc (.cells (madeCells #[Value.int .u8 0] k) 5)) (some ⟨w.heap.size, 0, none⟩) k k ((List.replicate k 0).map vB) :=
  ⟨Nat.le_refl _, by unfold maxLen; omega, by simp, (fun e => nomatch e), fun x hx _ => by
    cases hx
    refine ⟨w.heap.size, 0, rfl, fun i hi => ?_⟩
    rw [(Has.new w _ _).cell, Nat.zero_add, made_get k i hi]
    simp [vB, hi]⟩

set_option maxRecDepth 100000 in
set_option maxHeartbeats 1600000 in
theorem rleSmall_in (s : ByteArray) (m : Nat) (w : World) (hl : ¬ 2000 < s.size) (hm : m < 65536) :
    Calls Try.prog 3 #[.string s, .int .u16 (m : Int)] w fun e w' => e = .returned (.bool true) ∧ Below w.heap.size w w' := by
  have hl' : ¬ (2000 : Int) < (s.size : Int) := by omega
  obtain ⟨k, hk⟩ : ∃ k : Nat, k = m % 3000 := ⟨_, rfl⟩
  have hk1 : k < 3000 := by omega
  have hk2 : Int.tmod (m : Int) 3000 = (k : Int) := by rw [Int.tmod_eq_emod_of_nonneg (by omega)]; omega
  have hk3 : (m : Int) % 3000 = (k : Int) := by omega
  obtain ⟨r, hr⟩ : ∃ r : Nat, r = k % 255 := ⟨_, rfl⟩
  have hr2 : Int.tmod (k : Int) 255 = (r : Int) := by rw [Int.tmod_eq_emod_of_nonneg (by omega)]; omega
  have hr3 : (k : Int) % 255 = (r : Int) := by omega
  obtain ⟨q, hq⟩ : ∃ q : Nat, q = k / 255 := ⟨_, rfl⟩
  have hq2 : Int.tdiv (k : Int) 255 = (q : Int) := by rw [Int.tdiv_eq_ediv_of_nonneg (by omega)]; omega
  have hq3 : (k : Int) / 255 = (q : Int) := by omega
  have hq4 : q ≤ 20 := by omega
  have hr4 : r < 255 := by omega
  have hm2 : (m : Int) < 65536 := by omega
  have hmk := make_zs k (by omega)
  have HRZ := Lib.hid (row_zs k (by omega))
  have HX := Lib.hid (fun w => encode_walk s w (by omega))
  have hsm := Rl.enc_small s.data.toList
  rw [llen, ← bs_size] at hsm
  generalize Fr.bs (Rl.enc s.data.toList) = T at *
  have hb : decide (4 * (T.size : Int) ≤ 5 * (s.size : Int)) = true := by simp; omega
  have hTs : (T.size : Int) ≤ 10000 := by omega
  have hze := Rl.enc_rep 0 k k (Nat.le_refl _)
  rw [← bs_size, ← hr, ← hq] at hze
  have HZ := Lib.hid (fun w => encode_walk (Fr.bs (List.replicate k 0)) w (by rw [bs_size, List.length_replicate]; omega))
  rw [Fr.list_bs] at HZ
  generalize Fr.bs (Rl.enc (List.replicate k 0)) = Z at *
  clear hsm hk hr hq hl hm
  by_cases h4 : 4 ≤ r
  · have h4' : (4 : Int) ≤ (r : Int) := by omega
    rw [if_pos h4] at hze
    have hz : ((Z.size : Int) == 5 * (q : Int) + 5) = true := by rw [hze]; simp
    clear hze h4
    go_enter Try.func3, Try.ntmps3
    go_wp2_with fail
    (with_reducible refine (HX.out _).mono ?_)
    rintro e w1 ⟨rfl, hb1⟩
    have HR1 := Lib.hid ((HRZ.out w).keep hb1)
    have hcv := convert_row Try.underlying24 Try.underlying5 Try.underlying9 HR1.out
    have K1 := Lib.hid (((Below.refl w.heap.size w).alloc (Nat.le_refl _) _).trans (hb1.mono (by simp)))
    clear hb1
    change (convert _ _ _).run _ _ = .ok (.string (Fr.bs (List.replicate k 0))) _ at hcv
    go_wp2_with fail
    refine (HZ.out _).mono ?_
    rintro e w2 ⟨rfl, hb2⟩
    have K2 := Lib.hid (K1.out.trans (hb2.mono K1.out.size))
    clear hb2 hcv
    go_wp2_with fail
    (with_reducible refine (six_walk _).mono ?_)
    rintro e w3 ⟨rfl, hb3⟩
    have K3 := Lib.hid (K2.out.trans (hb3.mono K2.out.size))
    clear hb3
    go_wp2
    go_ret
    exact ⟨rfl, K3.out⟩
  · have h4' : ¬ (4 : Int) ≤ (r : Int) := by omega
    rw [if_neg h4] at hze
    have hz : ((Z.size : Int) == 5 * (q : Int) + (r : Int)) = true := by rw [hze]; simp
    clear hze h4
    go_enter Try.func3, Try.ntmps3
    go_wp2_with fail
    (with_reducible refine (HX.out _).mono ?_)
    rintro e w1 ⟨rfl, hb1⟩
    have HR1 := Lib.hid ((HRZ.out w).keep hb1)
    have hcv := convert_row Try.underlying24 Try.underlying5 Try.underlying9 HR1.out
    have K1 := Lib.hid (((Below.refl w.heap.size w).alloc (Nat.le_refl _) _).trans (hb1.mono (by simp)))
    clear hb1
    change (convert _ _ _).run _ _ = .ok (.string (Fr.bs (List.replicate k 0))) _ at hcv
    go_wp2_with fail
    refine (HZ.out _).mono ?_
    rintro e w2 ⟨rfl, hb2⟩
    have K2 := Lib.hid (K1.out.trans (hb2.mono K1.out.size))
    clear hb2 hcv
    go_wp2_with fail
    (with_reducible refine (six_walk _).mono ?_)
    rintro e w3 ⟨rfl, hb3⟩
    have K3 := Lib.hid (K2.out.trans (hb3.mono K2.out.size))
    clear hb3
    go_wp2
    go_ret
    exact ⟨rfl, K3.out⟩
set_option maxRecDepth 100000 in
set_option maxHeartbeats 800000 in
theorem rleSmall_walk (s : ByteArray) (n : Int) (w : World) (_ : s.size ≤ maxLen) (hn : (Lit.int .u16 n).wf = true) :
    Calls Try.prog 3 #[.string s, .int .u16 n] w fun e w' => e = .returned (.bool true) ∧ Below w.heap.size w w' := by
  have hn1 : 0 ≤ n ∧ n ≤ 65535 := by simpa [Lit.wf, IntKind.min, IntKind.max, IntKind.signed, IntKind.bits] using hn
  by_cases hl : 2000 < s.size
  · have hl' : (2000 : Int) < (s.size : Int) := by omega
    clear hl hn hn1
    go_enter Try.func3, Try.ntmps3
    go_wp2_with fail
    (with_reducible refine (six_walk _).mono ?_)
    rintro e w1 ⟨rfl, hb1⟩
    go_wp2
    go_ret
    exact ⟨rfl, hb1⟩
  · obtain ⟨m, rfl⟩ := Int.eq_ofNat_of_zero_le hn1.1
    exact rleSmall_in s m w hl (by omega)
end Go.Proofs.Ytmomcaghfkgoeaa
