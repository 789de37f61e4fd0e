/- Walks of package crc: step, Put, Value, Reset, Text. -/
import Derived.Test.YtaldcdgafljedaaBase
import Derived.Test.YtaldcdgafljedaaCrcMath
import Derived.Test.YtaldcdgafljedaaRows
import Derived.WalkKit
import Derived.ProofKit
import Derived.Lib.Hide
import Derived.Deep.QuietTactic
import Derived.BigQuiet
import Derived.StillTailTactics
import Derived.Deep.DeepFit
namespace Go.Proofs.Ytaldcdgafljedaa
open Go.RowKit

def vW (x : BitVec 32) : Value := .int .u32 (x.toNat : Int)
/-- the table lies in block b from offset 0 on -/
def TabAt (w : World) (b : Nat) : Prop := ∀ i, i < 256 → w.cell? ⟨b, i, none⟩ = some (vW (Crc.tab i))

theorem bits_u32_xor (x y : BitVec 32) : bits .xor .u32 (x.toNat : Int) (y.toNat : Int) = ((x ^^^ y).toNat : Int) := by
  have := u32_xor_nat x.toNat y.toNat x.isLt y.isLt
  rw [this, BitVec.toNat_xor]

set_option maxRecDepth 100000 in
set_option maxHeartbeats 400000 in
theorem step_walk (b : Nat) (s : BitVec 32) (c : UInt8) (w : World) (ht : TabAt w b) :
    Calls Try.prog 45 #[.pointer (some ⟨b, 0, none⟩), vW s, vB c] w fun e w' => e = .returned (vW (Crc.step s c)) ∧ w = w' := by
  obtain ⟨n, hn⟩ : ∃ n, n = s.toNat := ⟨_, rfl⟩
  obtain ⟨m, hm⟩ : ∃ n, n = c.toNat := ⟨_, rfl⟩
  have hs : n < 4294967296 := hn ▸ s.isLt
  have hc : m < 256 := hm ▸ c.toNat_lt
  have hk : n / 16777216 ^^^ m < 2 ^ 8 := Nat.xor_lt_two_pow (by omega) (by omega)
  have hx : bits .xor .u8 ((n : Int) / 16777216) (m : Int) = ((n / 16777216 ^^^ m : Nat) : Int) := u8_xor_nat (n / 16777216) m (by omega) hc
  obtain ⟨k, hkk⟩ : ∃ k, k = n / 16777216 ^^^ m := ⟨_, rfl⟩
  rw [← hkk] at hx hk
  obtain ⟨t, htt⟩ : ∃ t, t = (Crc.tab k).toNat := ⟨_, rfl⟩
  have hc : w.cell? ⟨b, k, none⟩ = some (.int .u32 (t : Int)) := by rw [htt]; exact ht k hk
  have hl : t < 4294967296 := htt ▸ (Crc.tab k).isLt
  have hx2 : bits .xor .u32 ((n : Int) * 256 % 4294967296) (t : Int) = ((n * 256 % 4294967296 ^^^ t : Nat) : Int) := u32_xor_nat (n * 256 % 4294967296) t (by omega) hl
  have hfin : ((n * 256 % 4294967296 ^^^ t : Nat) : Int) = ((Crc.step s c).toNat : Int) := by rw [Crc.step_eq, htt, hkk, hn, hm]
  have Hfin := Lib.hid hfin
  clear hfin ht
  unfold vW vB
  rw [← hn, ← hm]
  clear hn hm hkk htt
  go_enter Try.func45, Try.ntmps45
  go_wp2
  go_ret
  exact ⟨by rw [← Hfin.out]; rfl, rfl⟩

/-- the cells of a Sum: the table, then the register -/
def sumCells (s : BitVec 32) : Array Value := ((List.range 256).map (fun i => vW (Crc.tab i)) ++ [vW s]).toArray
theorem sumCells_tab (s : BitVec 32) (i : Nat) (h : i < 256) : (sumCells s)[i]? = some (vW (Crc.tab i)) := by
  unfold sumCells
  rw [List.getElem?_toArray, List.getElem?_append_left (by simpa using h), List.getElem?_map, List.getElem?_range h]; rfl
theorem sumCells_sum (s : BitVec 32) : (sumCells s)[256]? = some (vW s) := by
  unfold sumCells
  rw [List.getElem?_toArray, List.getElem?_append_right (by simp)]; simp
theorem sumCells_set (s t : BitVec 32) : (sumCells s).setIfInBounds 256 (vW t) = sumCells t := by
  unfold sumCells
  rw [List.setIfInBounds_toArray, List.set_append_right _ _ (by simp)]; simp
/-- a Sum lies in block b -/
def SumAt (w : World) (b : Nat) (s : BitVec 32) : Prop := Has w b (sumCells s) 80
theorem SumAt.tabAt {w : World} {b : Nat} {s : BitVec 32} (h : SumAt w b s) : TabAt w b := fun i hi => (Has.cell h i).trans (sumCells_tab s i hi)
theorem SumAt.sum {w : World} {b : Nat} {s : BitVec 32} (h : SumAt w b s) : w.cell? ⟨b, 256, none⟩ = some (vW s) := (Has.cell h 256).trans (sumCells_sum s)
theorem SumAt.free {w : World} {b : Nat} {s : BitVec 32} (h : SumAt w b s) : w.frozen? ⟨b, 256, none⟩ = false := Has.free h 256
theorem SumAt.set {w : World} {b : Nat} {s : BitVec 32} (h : SumAt w b s) (t : BitVec 32) : SumAt (w.setCell ⟨b, 256, none⟩ (vW t)) b t := by
  have := Has.setCell h 256 (vW t)
  rw [sumCells_set] at this
  exact this

set_option maxRecDepth 100000 in
set_option maxHeartbeats 400000 in
theorem sumput_walk (b : Nat) (s : BitVec 32) (c : UInt8) (w : World) (h : SumAt w b s) :
    Calls Try.prog 43 #[.pointer (some ⟨b, 0, none⟩), vB c] w fun e w' => e = .returned (.tuple #[]) ∧ SumAt w' b (Crc.step s c) ∧ Chg [b] w w' := by
  have ht := h.tabAt
  have hsum := h.sum
  have hfree := h.free
  have Ht := Lib.hid ht
  have H := Lib.hid h
  clear ht h
  go_enter Try.func43, Try.ntmps43
  go_wp2_with fail
  refine wp_region_still_tail 12 (by kernel_rfl) (by kernel_rfl) ?_
  simp only [List.take_succ_cons, List.take_zero, List.drop_succ_cons, List.drop_zero]
  repeat still_step
  still_call (Calls.flip (step_walk b s c _ Ht.out))
  repeat still_step
  refine wpStill_nil ?_
  change wpList _ _ _ _ _ w.drew
  simp only [vW] at hsum ⊢
  go_wp2
  go_end0
  exact ⟨rfl, H.out.set _, (((Chg.refl _ _).setCell _ _ (.inl (by simp))).drew)⟩

set_option maxRecDepth 100000 in
theorem sumput_nil (c : UInt8) (w : World) :
    Calls Try.prog 43 #[.pointer none, vB c] w fun e w' => e = .returned (.tuple #[]) ∧ w = w' := by
  go_enter Try.func43, Try.ntmps43
  go_wp2
  go_end0
  exact ⟨rfl, rfl⟩

set_option maxRecDepth 100000 in
theorem reset_walk (b : Nat) (s : BitVec 32) (w : World) (h : SumAt w b s) :
    Calls Try.prog 40 #[.pointer (some ⟨b, 0, none⟩)] w fun e w' => e = .returned (.tuple #[]) ∧ SumAt w' b (BitVec.allOnes 32) ∧ Chg [b] w w' := by
  have hsum := h.sum
  have hfree := h.free
  have H := Lib.hid h
  clear h
  simp only [vW] at hsum
  go_enter Try.func40, Try.ntmps40
  go_wp2
  go_end0
  have e : vW (BitVec.allOnes 32) = .int .u32 4294967295 := by kernel_rfl
  have hs := H.out.set (BitVec.allOnes 32)
  rw [e] at hs
  exact ⟨rfl, hs, (Chg.refl _ _).setCell _ _ (.inl (by simp))⟩

set_option maxRecDepth 100000 in
theorem reset_nil (w : World) :
    Calls Try.prog 40 #[.pointer none] w fun e w' => e = .returned (.tuple #[]) ∧ w = w' := by
  go_enter Try.func40, Try.ntmps40
  go_wp2
  go_end0
  exact ⟨rfl, rfl⟩

set_option maxRecDepth 100000 in
theorem value_nil (w : World) :
    Calls Try.prog 39 #[.pointer none] w fun e w' => e = .returned (.int .u32 0) ∧ w = w' := by
  go_enter Try.func39, Try.ntmps39
  go_wp2
  go_ret
  exact ⟨rfl, rfl⟩

theorem bits_not (x : BitVec 32) : bits .xor .u32 IntKind.u32.max (x.toNat : Int) = ((~~~ x).toNat : Int) := by
  have := u32_xor_nat 4294967295 x.toNat (by decide) x.isLt
  rw [show IntKind.u32.max = ((4294967295 : Nat) : Int) from rfl]
  rw [this, ← BitVec.allOnes_xor, BitVec.toNat_xor]; rfl
set_option maxRecDepth 100000 in
theorem value_walk (b : Nat) (s : BitVec 32) (w : World) (h : SumAt w b s) :
    Calls Try.prog 39 #[.pointer (some ⟨b, 0, none⟩)] w fun e w' => e = .returned (vW (~~~ s)) ∧ w = w' := by
  have hsum := h.sum
  have hx := bits_not s
  clear h
  simp only [vW] at *
  generalize ((~~~ s).toNat : Int) = m at *
  generalize (s.toNat : Int) = n at *
  go_enter Try.func39, Try.ntmps39
  go_wp2
  go_ret
  exact ⟨rfl, rfl⟩

end Go.Proofs.Ytaldcdgafljedaa
