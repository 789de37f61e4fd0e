/- The blocks are the document's. -/
import Derived.Test.YtaldcdgafljedaaSplLaw1
import Derived.Test.YtaldcdgafljedaaSplRef
namespace Go.Proofs.Ytaldcdgafljedaa
open Go.RowKit
set_option linter.unusedVariables false
set_option linter.unusedSimpArgs false

theorem flat_get3 (L : List (List Rl.Pc)) (k j : Nat) (h : k < L.length) (hj : j < 3) : (L.flatMap bcells).getD (k * 3 + j) undef = (bcells L[k]).getD j undef := flat_get bcells 3 (fun _ => rfl) L k j h hj
theorem flat_getT (L : List (List Rl.Pc)) (k j : Nat) (h : k < L.length) (hj : j < 2) : (L.flatMap tcells).getD (k * 2 + j) undef = (tcells L[k]).getD j undef := flat_get tcells 2 (fun _ => rfl) L k j h hj
set_option maxRecDepth 100000 in
set_option maxHeartbeats 800000 in
theorem refsum_walk (x t : ByteArray) (w : World) (hs : t.size ≤ maxLen) :
    Calls Try.prog 16 #[.agg #[.string x, .string t]] w fun e w' => e = .returned (vW (Crc.sumOf t.data.toList)) ∧ Below w.heap.size w w' := by
  have HO := Lib.hid (fun w => refof_walk t w hs)
  generalize vW (Crc.sumOf t.data.toList) = V at *
  go_enter Try.func16, Try.ntmps16
  go_upto_region 1 with (fail)
  have HX := Lib.hid (Has.new w #[.string x, .string t] 41)
  have HB := Lib.hid ((Below.refl w.heap.size w).alloc (Nat.le_refl _) (.cells #[.string x, .string t] 41))
  generalize w.alloc (.cells #[.string x, .string t] 41) = w1 at *
  have c1 := HX.out.cell 1
  simp only [List.getElem?_toArray, List.getElem?_cons_zero, List.getElem?_cons_succ] at c1
  go_wp2_with fail
  (with_reducible refine (HO.out _).mono ?_)
  rintro e w2 ⟨rfl, rfl⟩
  go_wp2
  go_ret
  exact ⟨rfl, HB.out⟩
set_option maxRecDepth 100000 in
set_option maxHeartbeats 2000000 in
theorem same_walk (L : List (List Rl.Pc)) (a a2 : Option Addr) (c c2 : Nat) (w : World) (h1 : RowS w 3 a L.length c (L.flatMap bcells)) (h2 : RowS w 2 a2 L.length c2 (L.flatMap tcells)) (hl : L.length ≤ 1000000) (hj : ∀ ps ∈ L, (Rl.join ps).length ≤ 1000000) :
    Calls Try.prog 13 #[.slice a L.length c, .slice a2 L.length c2] w fun e w' => e = .returned (.bool true) ∧ Below w.heap.size w w' := by
  have H1 := Lib.hid h1
  have H2 := Lib.hid h2
  have HJ := Lib.hid hj
  clear h1 h2 hj
  have hlb : (L.length : Int) ≤ 1000000 := by omega
  go_enter Try.func13, Try.ntmps13
  go_wp2_with fail
  go_loopw [14] (fun i wr => ∃ k : Nat, i = .int .i64 k ∧ k ≤ L.length ∧ Below w.heap.size w wr) (fun i _ => L.length - (intOf i).toNat)
  case atStart => exact ⟨0, rfl, Nat.zero_le _, Below.refl _ _⟩
  case round =>
    obtain ⟨k, rfl, hk, hbr⟩ := hrel
    have HB := Lib.hid hbr
    by_cases hlt : k < L.length
    · have hlt' : (k : Int) < (L.length : Int) := by omega
      obtain ⟨ab, ao, rfl, hab, hac⟩ := (H1.out.keep hbr).at k hlt
      have a0 := hac 0 (by decide); have a1 := hac 1 (by decide); have a2' := hac 2 (by decide)
      rw [flat_get3 L k 0 hlt (by decide)] at a0
      rw [flat_get3 L k 1 hlt (by decide)] at a1
      rw [flat_get3 L k 2 hlt (by decide)] at a2'
      obtain ⟨tb, tq, rfl, htb, htc⟩ := (H2.out.keep hbr).at k hlt
      have t0 := htc 0 (by decide); have t1 := htc 1 (by decide)
      rw [flat_getT L k 0 hlt (by decide)] at t0
      rw [flat_getT L k 1 hlt (by decide)] at t1
      have hjl := HJ.out _ (List.getElem_mem hlt)
      generalize L[k] = ps at *
      have HSM := Lib.hid (fun w => refsum_walk (Fr.bs (Sp.body ps)) (Fr.bs (Rl.join ps)) w (by rw [bs_size]; unfold maxLen; omega))
      rw [Fr.list_bs] at HSM
      have hz : (((Rl.join ps).length : Int) != ((Fr.bs (Rl.join ps)).size : Int)) = false := by rw [bs_size]; simp
      simp only [bcells, tcells, vW, List.getD_cons_zero, List.getD_cons_succ, Nat.add_zero] at a0 a1 a2' t0 t1 HSM
      simp only [← Nat.add_assoc] at a1 a2' t1
      generalize Fr.bs (Sp.body ps) = TB at *
      generalize ((Crc.sumOf (Rl.join ps)).toNat : Int) = m at *
      generalize ((Rl.join ps).length : Int) = j at *
      generalize Fr.bs (Rl.join ps) = TJ at *
      clear hac htc hbr hjl
      go_upto_region 6 with (fail)
      have HB2 := Lib.hid (HB.out.alloc HB.out.size (.cells #[.string TB, .int .u32 m, .int .i64 j] 37))
      have HX := Lib.hid (Has.new wr #[.string TB, .int .u32 m, .int .i64 j] 37)
      have y0 : (wr.alloc (.cells #[.string TB, .int .u32 m, .int .i64 j] 37)).cell? ⟨tb, tq + k * 2, none⟩ = some (.string TB) := by rw [((Below.refl wr.heap.size wr).alloc (Nat.le_refl _) _).cell (p := ⟨tb, tq + k * 2, none⟩) htb]; exact t0
      have y1 : (wr.alloc (.cells #[.string TB, .int .u32 m, .int .i64 j] 37)).cell? ⟨tb, tq + k * 2 + 1, none⟩ = some (.string TJ) := by rw [((Below.refl wr.heap.size wr).alloc (Nat.le_refl _) _).cell (p := ⟨tb, tq + k * 2 + 1, none⟩) htb]; exact t1
      clear a0 a1 a2' t0 t1 HB
      generalize wr.heap.size = q at *
      generalize wr.alloc (.cells #[.string TB, .int .u32 m, .int .i64 j] 37) = w2 at *
      have x0 : ∀ x : Later w2, x.at.cell? ⟨q, 0, none⟩ = some (.string TB) := fun x => x.cell (HX.out.cell 0)
      have x1 : ∀ x : Later w2, x.at.cell? ⟨q, 1, none⟩ = some (.int .u32 m) := fun x => x.cell (HX.out.cell 1)
      have x2 : ∀ x : Later w2, x.at.cell? ⟨q, 2, none⟩ = some (.int .i64 j) := fun x => x.cell (HX.out.cell 2)
      have z0 : ∀ x : Later w2, x.at.cell? ⟨tb, tq + k * 2, none⟩ = some (.string TB) := fun x => x.cell y0
      have z1 : ∀ x : Later w2, x.at.cell? ⟨tb, tq + k * 2 + 1, none⟩ = some (.string TJ) := fun x => x.cell y1
      have HVX := Lib.hid (fun x : Later w2 => later_call (x := x) (HSM.out x.at))
      clear y0 y1 HX
      refine region_later 29 (by kernel_rfl) (by kernel_rfl) ?_
      simp only [List.take_succ_cons, List.take_zero, List.drop_succ_cons, List.drop_zero]
      repeat (go_big_quiet_step (exact HVX.out _))
      refine wpQuiet_nil ?_
      rintro w' ⟨x, rfl⟩
      have HB3 := Lib.hid (HB2.out.trans (x.below.mono HB2.out.size))
      clear x0 x1 x2 z0 z1 HVX HB2 HSM
      generalize x.at = w3 at *
      go_wp2
      go_roundw
      case rel => exact ⟨k + 1, by go_num, hlt, HB3.out⟩
      case measure => simp [intOf]; omega
    · have hlt' : ¬ (k : Int) < (L.length : Int) := by omega
      go_wp2
      go_ret
      exact ⟨rfl, HB.out⟩
theorem join_part (L : List (List Rl.Pc)) : ∀ ps ∈ L, (Rl.join ps).length ≤ (Rl.join L.flatten).length := by
  intro ps hp
  induction L with
  | nil => cases hp
  | cons b L ih =>
    rw [List.flatten_cons, Rl.join_app, List.length_append]
    rcases List.mem_cons.1 hp with rfl | hp
    · omega
    · have := ih hp; omega
theorem blks_len (room : Nat) (h5 : 5 ≤ room) (l : List UInt8) : (Sp.blks room l).length ≤ l.length + 2 := by
  rw [Sp.at_end room h5, List.length_append]
  have h1 := Sp.done_len room h5 l
  have h2 := Sp.endL_len room (Sp.at_ room l).now (Rl.rowOf l)
  omega
theorem blks_join (room : Nat) (l : List UInt8) : ∀ ps ∈ Sp.blks room l, (Rl.join ps).length ≤ l.length := by
  intro ps hp
  have := join_part _ ps hp
  rw [Sp.blks_flat, Rl.join_pcs] at this
  exact this
set_option maxRecDepth 100000 in
set_option maxHeartbeats 1600000 in
theorem splitOf_walk (s : ByteArray) (n : Int) (w : World) (_ : s.size ≤ maxLen) (_ : (Lit.int .i64 n).wf = true) : Calls Try.prog 4 #[.string s, .int .i64 n] w fun e w' => e = .returned (.bool true) ∧ Below w.heap.size w w' := by
  by_cases hl : 600 < s.size
  · have hl' : (600 : Int) < (s.size : Int) := by omega
    clear hl
    go_enter Try.func4, Try.ntmps4
    go_wp2_with fail
    (with_reducible refine (five_walk _).mono ?_)
    rintro e w2 ⟨rfl, hb2⟩
    go_wp2
    go_ret
    exact ⟨rfl, hb2⟩
  · have hl' : ¬ (600 : Int) < (s.size : Int) := by omega
    have HRO := Lib.hid (fun w => refroom_walk n w)
    by_cases hr : roomOk n = true
    · rw [hr] at HRO
      have hh := of_decide_eq_true hr
      obtain ⟨room, rfl⟩ : ∃ room : Nat, n = (room : Int) := ⟨n.toNat, by omega⟩
      have HOF := Lib.hid (fun w => sof_walk s room w hr (by omega))
      have HRF := Lib.hid (fun w => refsplit_walk s room w (by omega) (by omega) (by omega))
      have hbl := blks_len room (by omega) s.data.toList
      have hbj := blks_join room s.data.toList
      rw [llen] at hbl hbj
      have HSA := Lib.hid (fun a a2 c c2 w h1 h2 => same_walk (Sp.blks room s.data.toList) a a2 c c2 w h1 h2 (by omega) (fun ps hp => Nat.le_trans (hbj ps hp) (by omega)))
      clear hh hr hl hbj hbl
      generalize Sp.blks room s.data.toList = L at *
      go_enter Try.func4, Try.ntmps4
      go_wp2_with fail
      (with_reducible refine (HOF.out _).mono ?_)
      rintro e w1 ⟨out, rfl, ho, hb1⟩
      obtain ⟨a, c, rfl, hr1, -⟩ := rowS_owns ho
      have HR1 := Lib.hid hr1
      have HB1 := Lib.hid hb1
      clear ho hr1 hb1
      go_wp2_with fail
      (with_reducible refine (HRO.out _).mono ?_)
      rintro e w2 ⟨rfl, rfl⟩
      go_wp2_with fail
      (with_reducible refine (HRF.out _).mono ?_)
      rintro e w2 ⟨out2, rfl, ho, hb2⟩
      obtain ⟨a2, c2, rfl, hr2, -⟩ := rowS_owns ho
      have HR2 := Lib.hid hr2
      have HR1' := Lib.hid (HR1.out.keep hb2)
      have HB2 := Lib.hid (HB1.out.trans (hb2.mono HB1.out.size))
      clear ho hr2 hb2 HR1 HB1
      have HSX := Lib.hid (HSA.out _ _ _ _ _ HR1'.out HR2.out)
      clear HSA
      go_wp2_with fail
      (with_reducible refine (HSX.out).mono ?_)
      rintro e w3 ⟨rfl, hb3⟩
      have HB3 := Lib.hid (HB2.out.trans (hb3.mono HB2.out.size))
      clear hb3 HSX
      go_wp2_with fail
      (with_reducible refine (five_walk _).mono ?_)
      rintro e w4 ⟨rfl, hb4⟩
      have HB4 := Lib.hid (HB3.out.trans (hb4.mono HB3.out.size))
      clear hb4
      go_wp2
      go_ret
      exact ⟨rfl, HB4.out⟩
    · have hr' : roomOk n = false := by simpa using hr
      rw [hr'] at HRO
      have HOF := Lib.hid (fun w => sof_bad s n w hr')
      clear hr hr' hl
      go_enter Try.func4, Try.ntmps4
      go_wp2_with fail
      (with_reducible refine (HOF.out _).mono ?_)
      rintro e w1 ⟨rfl, rfl⟩
      go_wp2_with fail
      (with_reducible refine (HRO.out _).mono ?_)
      rintro e w2 ⟨rfl, rfl⟩
      go_wp2_with fail
      (with_reducible refine (five_walk _).mono ?_)
      rintro e w4 ⟨rfl, hb4⟩
      go_wp2
      go_ret
      exact ⟨rfl, hb4⟩
end Go.Proofs.Ytaldcdgafljedaa
