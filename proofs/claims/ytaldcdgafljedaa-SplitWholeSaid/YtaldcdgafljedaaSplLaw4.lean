/- SplitFull. -/
import Derived.Test.YtaldcdgafljedaaSplLaw3
namespace Go.Proofs.Ytaldcdgafljedaa
open Go.RowKit
set_option linter.unusedVariables false
set_option linter.unusedSimpArgs false

theorem bs_full (l : List UInt8) (h : 0 < l.length) : (Fr.bs l).toList.isEmpty = false := by
  cases l with
  | nil => exact absurd h (by decide)
  | cons b t => rw [ByteArray.toList_eq]; rfl
set_option maxRecDepth 100000 in
set_option maxHeartbeats 2000000 in
theorem splitFull_in (s : ByteArray) (room : Nat) (w : World) (h : roomOk room = true) (hl : s.size ≤ 600) :
    Calls Try.prog 6 #[.string s, .int .i64 (room : Int)] w fun e w' => e = .returned (.bool true) ∧ Below w.heap.size w w' := by
  have hl' : ¬ (600 : Int) < (s.size : Int) := by omega
  have HRO := Lib.hid (fun w => refroom_walk room w)
  rw [h] at HRO
  have hh := of_decide_eq_true h
  have HOF := Lib.hid (fun w => sof_walk s room w h hl)
  have HG := Lib.hid (blks_good room (by omega) s.data.toList)
  have hbl := blks_len room (by omega) s.data.toList
  rw [llen] at hbl
  have hroom : (room : Int) ≤ 900000 := by omega
  have hroom' : room ≤ 900000 := by omega
  generalize Sp.blks room s.data.toList = L at *
  have hlb : (L.length : Int) ≤ 1000 := by omega
  clear h hh hl hbl
  go_enter Try.func6, Try.ntmps6
  go_wp2_with fail
  (with_reducible refine (HRO.out _).mono ?_)
  rintro e w1 ⟨rfl, rfl⟩
  go_wp2_with fail
  (with_reducible refine (HOF.out _).mono ?_)
  rintro e w1 ⟨out, rfl, ho, hb1⟩
  obtain ⟨a, c, rfl, hr1, -⟩ := rowS_owns ho
  have HR1 := Lib.hid hr1
  have HB1 := Lib.hid hb1
  clear ho hr1 hb1
  go_wp2_with fail
  go_loopw [26] (fun i wr => ∃ k : Nat, i = .int .i64 k ∧ k ≤ L.length ∧ Below w1.heap.size w1 wr) (fun i _ => L.length - (intOf i).toNat)
  case atStart => exact ⟨0, rfl, Nat.zero_le _, Below.refl _ _⟩
  case round =>
    obtain ⟨k, rfl, hk, hbr⟩ := hrel
    have HB := Lib.hid hbr
    by_cases hlt : k < L.length
    · have hlt' : (k : Int) < (L.length : Int) := by omega
      obtain ⟨ab, ao, rfl, hab, hac⟩ := (HR1.out.keep hbr).at k hlt
      have a0 := hac 0 (by decide); have a1 := hac 1 (by decide); have a2' := hac 2 (by decide)
      rw [flat_get3 L k 0 hlt (by decide)] at a0
      rw [flat_get3 L k 1 hlt (by decide)] at a1
      rw [flat_get3 L k 2 hlt (by decide)] at a2'
      have hg := HG.out k hlt
      have HPREV := Lib.hid (show ∀ m, k = m + 1 → ∃ (ps : List Rl.Pc), room < (Sp.body ps).length + Rl.firstN (Sp.body L[k]) ∧ (Sp.body ps).length ≤ room ∧ wr.cell? ⟨ab, ao + m * 3, none⟩ = some (.string (Fr.bs (Sp.body ps))) from fun m hm => by
        subst hm
        obtain ⟨ba2, oa2, he, _, hca2⟩ := (HR1.out.keep hbr).at m (by omega)
        cases he
        have d0 := hca2 0 (by decide)
        rw [flat_get3 L m 0 (by omega) (by decide)] at d0
        exact ⟨L[m], hg.2 m rfl (by omega), (HG.out m (by omega)).1.2, d0⟩)
      obtain ⟨⟨hg1, hg2⟩, -⟩ := hg
      generalize L[k] = ps at *
      have hfl := Rl.firstN_le (Sp.body ps)
      have HF := Lib.hid (fun w => first_walk (Fr.bs (Sp.body ps)) w (by rw [bs_size]; exact hg1) (by rw [bs_size]; omega))
      rw [Fr.list_bs] at HF
      have hes := bs_full (Sp.body ps) hg1
      have htb := bs_size (Sp.body ps)
      have hex := ext_len (Fr.bs (Sp.body ps)) (Rl.firstN (Sp.body ps)) (by rw [bs_size]; exact hfl)
      simp only [bcells, vW, List.getD_cons_zero, List.getD_cons_succ, Nat.add_zero] at a0 a1 a2'
      simp only [← Nat.add_assoc] at a1 a2'
      generalize ((Crc.sumOf (Rl.join ps)).toNat : Int) = m at *
      generalize ((Rl.join ps).length : Int) = j at *
      generalize Rl.firstN (Sp.body ps) = fN at *
      generalize (Sp.body ps).length = bl at *
      generalize Fr.bs (Sp.body ps) = TB at *
      generalize TB.extract 0 fN = TF at *
      have hcmp : decide (room < TB.size) = false := by simp; omega
      have hkb : (k : Int) ≤ 1000 := by omega
      clear hac hbr htb
      by_cases hk0 : 0 < k
      · have c0 : decide ((0 : Int) < (k : Int)) = true := by simp; omega
        have c0' : decide (0 < k) = true := by simp; omega
        obtain ⟨n, hn⟩ : ∃ n, k = n + 1 := ⟨k - 1, by omega⟩
        obtain ⟨pp, hq, hq2, d0⟩ := HPREV.out n hn
        have hmw : wrap64 ((k : Int) - 1) = (n : Int) := by unfold wrap64; omega
        have hmm : (k : Int) - 1 = (n : Int) := by omega
        have hmr : n < L.length := by omega
        have hmr' : (n : Int) < (L.length : Int) := by omega
        have hmb : (n : Int) ≤ 1000 := by omega
        have hpz := bs_size (Sp.body pp)
        generalize (Sp.body pp).length = pl at *
        generalize Fr.bs (Sp.body pp) = TP at *
        have hle : decide ((TP.size : Int) + (TF.size : Int) ≤ (room : Int)) = false := by simp; omega
        have hle' : decide (TP.size + TF.size ≤ room) = false := by simp; omega
        have hpb : (TP.size : Int) ≤ 900000 := by omega
        have hfb : (TF.size : Int) ≤ 900000 := by omega
        clear hn hpz hq hq2 hex hfl hg1 hg2 HPREV HG
        go_upto_region 7 with (fail)
        have HB2 := Lib.hid (HB.out.alloc HB.out.size (.cells #[.string TB, .int .u32 m, .int .i64 j] 37))
        have HX := Lib.hid (Has.new wr #[.string TB, .int .u32 m, .int .i64 j] 37)
        have y0 : (wr.alloc (.cells #[.string TB, .int .u32 m, .int .i64 j] 37)).cell? ⟨ab, ao + n * 3, none⟩ = some (.string TP) := by rw [((Below.refl wr.heap.size wr).alloc (Nat.le_refl _) _).cell (p := ⟨ab, ao + n * 3, none⟩) hab]; exact d0
        clear a0 a1 a2' HB
        generalize wr.heap.size = q at *
        generalize wr.alloc (.cells #[.string TB, .int .u32 m, .int .i64 j] 37) = w2 at *
        have x0 : ∀ x : Later w2, x.at.cell? ⟨q, 0, none⟩ = some (.string TB) := fun x => x.cell (HX.out.cell 0)
        have z0 : ∀ x : Later w2, x.at.cell? ⟨ab, ao + n * 3, none⟩ = some (.string TP) := fun x => x.cell y0
        have HVX := Lib.hid (fun x : Later w2 => later_call (x := x) (HF.out x.at))
        clear y0 d0 HX
        refine region_later 30 (by kernel_rfl) (by kernel_rfl) ?_
        simp only [List.take_succ_cons, List.take_zero, List.drop_succ_cons, List.drop_zero]
        repeat (go_big_quiet_step (exact HVX.out _))
        refine wpQuiet_nil ?_
        rintro w' ⟨x, rfl⟩
        have HB3 := Lib.hid (HB2.out.trans (x.below.mono HB2.out.size))
        clear x0 z0 HVX HB2 HF hmw hmm
        generalize x.at = w3 at *
        go_wp2
        go_roundw
        case rel => exact ⟨k + 1, by go_num, hlt, HB3.out⟩
        case measure => simp [intOf]; omega
      · have c0 : decide ((0 : Int) < (k : Int)) = false := by simp; omega
        have c0' : decide (0 < k) = false := by simp; omega
        clear hex hfl hg1 hg2 HPREV HG
        go_upto_region 7 with (fail)
        have HB2 := Lib.hid (HB.out.alloc HB.out.size (.cells #[.string TB, .int .u32 m, .int .i64 j] 37))
        have HX := Lib.hid (Has.new wr #[.string TB, .int .u32 m, .int .i64 j] 37)
        skip
        clear a0 a1 a2' HB
        generalize wr.heap.size = q at *
        generalize wr.alloc (.cells #[.string TB, .int .u32 m, .int .i64 j] 37) = w2 at *
        have x0 : ∀ x : Later w2, x.at.cell? ⟨q, 0, none⟩ = some (.string TB) := fun x => x.cell (HX.out.cell 0)
        clear HX HF
        refine region_later 30 (by kernel_rfl) (by kernel_rfl) ?_
        simp only [List.take_succ_cons, List.take_zero, List.drop_succ_cons, List.drop_zero]
        repeat (go_big_quiet_step (fail))
        refine wpQuiet_nil ?_
        rintro w' ⟨x, rfl⟩
        have HB3 := Lib.hid (HB2.out.trans (x.below.mono HB2.out.size))
        clear x0 HB2
        generalize x.at = w3 at *
        go_wp2
        go_roundw
        case rel => exact ⟨k + 1, by go_num, hlt, HB3.out⟩
        case measure => simp [intOf]; omega
    · have hlt' : ¬ (k : Int) < (L.length : Int) := by omega
      have HB4 := Lib.hid (HB1.out.trans (hbr.mono HB1.out.size))
      clear hbr HB HR1 HG
      go_wp2_with fail
      (with_reducible refine (five_walk _).mono ?_)
      rintro e w8 ⟨rfl, hb8⟩
      have HB8 := Lib.hid (HB4.out.trans (hb8.mono HB4.out.size))
      clear hb8
      go_wp2
      go_ret
      exact ⟨rfl, HB8.out⟩
set_option maxRecDepth 100000 in
set_option maxHeartbeats 800000 in
theorem splitFull_walk (s : ByteArray) (n : Int) (w : World) (_ : s.size ≤ maxLen) (_ : (Lit.int .i64 n).wf = true) : Calls Try.prog 6 #[.string s, .int .i64 n] w fun e w' => e = .returned (.bool true) ∧ Below w.heap.size w w' := by
  by_cases hl : 600 < s.size
  · have hl' : (600 : Int) < (s.size : Int) := by omega
    clear hl
    go_enter Try.func6, Try.ntmps6
    go_wp2_with fail
    (with_reducible refine (five_walk _).mono ?_)
    rintro e w2 ⟨rfl, hb2⟩
    go_wp2
    go_ret
    exact ⟨rfl, hb2⟩
  · by_cases hr : roomOk n = true
    · obtain ⟨room, rfl⟩ : ∃ room : Nat, n = (room : Int) := ⟨n.toNat, by have := of_decide_eq_true hr; omega⟩
      exact splitFull_in s room w hr (by omega)
    · have hr' : roomOk n = false := by simpa using hr
      have HRO := Lib.hid (fun w => refroom_walk n w)
      rw [hr'] at HRO
      have hl' : ¬ (600 : Int) < (s.size : Int) := by omega
      clear hr hr' hl
      go_enter Try.func6, Try.ntmps6
      go_wp2_with fail
      (with_reducible refine (HRO.out _).mono ?_)
      rintro e w2 ⟨rfl, rfl⟩
      go_wp2_with fail
      (with_reducible refine (five_walk _).mono ?_)
      rintro e w4 ⟨rfl, hb4⟩
      go_wp2
      go_ret
      exact ⟨rfl, hb4⟩
end Go.Proofs.Ytaldcdgafljedaa
