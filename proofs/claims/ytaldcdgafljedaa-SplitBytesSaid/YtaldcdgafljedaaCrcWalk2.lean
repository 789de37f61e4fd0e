/- Walks of package crc: Text, Table, New, Of. -/
import Derived.Test.YtaldcdgafljedaaCrcWalk1
namespace Go.Proofs.Ytaldcdgafljedaa
open Go.RowKit

theorem run_snoc (s : BitVec 32) (l : List UInt8) (c : UInt8) : Crc.run s (l ++ [c]) = Crc.step (Crc.run s l) c := by
  simp [Crc.run, List.foldl_append]
theorem take_snoc (s : ByteArray) (k : Nat) (h : k < s.size) : s.data.toList.take (k + 1) = s.data.toList.take k ++ [s[k]] := by
  rw [List.take_succ_eq_append_getElem (by simpa using h)]; rfl

/-- Table's carry and shift, as the register's shift -/
theorem shift_bits (x : BitVec 32) : bits .xor .u32 ((x.toNat : Int) * 2 % 4294967296) ((x.toNat : Int) / 2147483648 * 79764919) = ((Crc.Z x).toNat : Int) := by
  have hx := x.isLt
  have := u32_xor_nat (x.toNat * 2 % 4294967296) (x.toNat / 2147483648 * 79764919) (by omega) (by omega)
  refine this.trans ?_
  by_cases h : x.toNat < 2147483648
  · rw [Crc.Z_toNat_lo x h, show x.toNat / 2147483648 = 0 by omega, show x.toNat * 2 % 4294967296 = x.toNat * 2 by omega]; simp
  · rw [Crc.Z_toNat_hi x (by omega), show x.toNat / 2147483648 = 1 by omega, show x.toNat * 2 % 4294967296 = (x.toNat - 2147483648) * 2 by omega]

def tabCells (k : Nat) : Array Value := ((List.range 256).map (fun i => if i < k then vW (Crc.tab i) else .int .u32 0)).toArray
theorem tabCells_set (k : Nat) (h : k < 256) : (tabCells k).setIfInBounds k (vW (Crc.tab k)) = tabCells (k + 1) := by
  unfold tabCells
  rw [List.setIfInBounds_toArray]
  congr 1
  apply List.ext_getElem?
  intro i
  rw [List.getElem?_set]
  simp only [List.getElem?_map, List.length_map, List.length_range]
  by_cases hi : i < 256
  · rw [List.getElem?_range hi]
    by_cases e : k = i
    · subst e; simp [h]
    · simp only [e, if_false, Option.map_some]
      congr 2
      by_cases hlt : i < k
      · simp [hlt, Nat.lt_succ_of_lt hlt]
      · simp [hlt, show ¬ i < k + 1 by omega]
  · have : (List.range 256)[i]? = none := by simp; omega
    rw [this]; simp; omega

theorem run_zero_tab (w : World) : (zeroValue 77).run Try.prog w = .ok (.agg (tabCells 0)) w := by kernel_rfl
set_option maxRecDepth 100000 in
set_option maxHeartbeats 400000 in
theorem table_walk (w : World) :
    Calls Try.prog 36 #[] w fun e w' => e = .returned (.agg (tabCells 256)) ∧ Below w.heap.size w w' := by
  go_enter Try.func36, Try.ntmps36
  have hal := run_zero_tab
  go_wp2
  go_loopw [5] (fun i wr => ∃ k : Nat, k ≤ 256 ∧ i = .int .i64 k ∧ wr = (w.alloc (.cells (tabCells 0) 77)).alloc (.cells (tabCells k) 77)) (fun i _ => 256 - (intOf i).toNat)
  case atStart => exact ⟨0, by omega, rfl, rfl⟩
  case round =>
    obtain ⟨k, hk, rfl, rfl⟩ := hrel
    by_cases hlt : k < 256
    · have e0 : (Crc.Zn 0 (BitVec.ofNat 32 (k * 16777216))).toNat = k * 16777216 := by
        show (BitVec.ofNat 32 (k * 16777216)).toNat = k * 16777216
        rw [BitVec.toNat_ofNat]; omega
      have E0 := Lib.hid e0
      clear e0
      go_wp2
      go_loop [3, 11] (fun s n => ∃ j : Nat, j ≤ 8 ∧ n = .int .i64 j ∧ s = vW (Crc.Zn j (BitVec.ofNat 32 (k * 16777216)))) (fun _ n => 8 - (intOf n).toNat)
      case atStart => exact ⟨0, by omega, rfl, by unfold vW; rw [E0.out]; rfl⟩
      case round =>
        obtain ⟨j, hj, rfl, rfl⟩ := hrel
        by_cases hjl : j < 8
        · have ez := Lib.hid (Crc.Zn_succ j (BitVec.ofNat 32 (k * 16777216)))
          generalize Crc.Zn j (BitVec.ofNat 32 (k * 16777216)) = x at *
          unfold vW
          go_wp2
          go_round
          case rel => exact ⟨j + 1, by omega, by go_num, by rw [ez.out, shift_bits]⟩
          case measure => simp [intOf]; omega
        · obtain rfl : j = 8 := by omega
          have htab : tabCells (k + 1) = (tabCells k).setIfInBounds k (vW (Crc.tab k)) := (tabCells_set k hlt).symm
          have hk8 : Crc.Zn 8 (BitVec.ofNat 32 (k * 16777216)) = Crc.tab k := rfl
          rw [hk8]
          have Htab := Lib.hid htab
          have hck : (tabCells k)[k]? = some (.int .u32 0) := by
            unfold tabCells
            rw [List.getElem?_toArray, List.getElem?_map, List.getElem?_range hlt]; simp
          clear htab hk8
          unfold vW at *
          go_wp2
          go_roundw
          case rel => exact ⟨k + 1, by omega, by go_num, by rw [Htab.out]⟩
          case measure => simp [intOf]; omega
    · obtain rfl : k = 256 := by omega
      generalize hA : w.alloc (.cells (tabCells 0) 77) = wa
      have hsz : wa.heap.size = w.heap.size + 1 := by rw [← hA, World.size_alloc]
      have h0 : Has wa w.heap.size (tabCells 0) 77 := by rw [← hA]; exact Has.new _ _ _
      have h1 : Has (wa.alloc (.cells (tabCells 256) 77)) (w.heap.size + 1) (tabCells 256) 77 := by rw [← hsz]; exact Has.new _ _ _
      have hb : Below w.heap.size w (wa.alloc (.cells (tabCells 256) 77)) := by
        rw [← hA]; exact ((Below.refl _ _).alloc (Nat.le_refl _) _).alloc (by simp) _
      have H0 := Lib.hid (h0.alloc (.cells (tabCells 256) 77))
      have H1 := Lib.hid h1
      have Hb := Lib.hid hb
      clear h0 h1 hb
      generalize wa.alloc (.cells (tabCells 256) 77) = wb at *
      clear hA hsz
      go_wp2_with (first
        | (refine wpList_load_row rfl 77 _ rfl (w.heap.size + 1) rfl _ (tabCells 256) _ _ H1.out Try.underlying77 rfl (by kernel_rfl) ?_)
        | (refine wpList_store_row rfl 77 _ _ rfl w.heap.size (tabCells 256) rfl rfl _ (tabCells 0) H0.out (by kernel_rfl) (by kernel_rfl) (by kernel_rfl) ?_))
      have hs : (wb.setRow w.heap.size (tabCells 256)).heap[w.heap.size]? = some (.cells (tabCells 256) 77 (0, 0)) := setRow_heap wb _ _ _ _ _ H0.out
      refine bodyPost_ret (results_cell_row rfl _ _ w.heap.size _ (tabCells 256) _ _ rfl hs Try.underlying77 rfl (by kernel_rfl)) rfl ⟨rfl, ?_⟩
      exact Hb.out.trans ⟨rfl, rfl, rfl, by simp, fun k hk => setRow_other wb w.heap.size k _ (by omega)⟩

end Go.Proofs.Ytaldcdgafljedaa
