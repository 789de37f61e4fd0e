/- Walk of the law CrcStreams. -/
import Derived.Test.YtaefkkpdemilpaaCrcNine
import Derived.Test.YtaefkkpdemilpaaRowAt
namespace Go.Proofs.Ytaefkkpdemilpaa
open Go.RowKit

def streamOf (l : List (BitVec 32)) : BitVec 32 := l.foldl Crc.comb 0#32
theorem streamOf_snoc (l : List (BitVec 32)) (b : BitVec 32) : streamOf (l ++ [b]) = Crc.comb (streamOf l) b := by simp [streamOf, List.foldl_append]
theorem take_snoc' {α : Type} (l : List α) (k : Nat) (h : k < l.length) : l.take (k + 1) = l.take k ++ [l[k]] := List.take_succ_eq_append_getElem h

set_option maxRecDepth 100000 in
set_option maxHeartbeats 400000 in
theorem stream_walk (bs : List (BitVec 32)) (a : Option Addr) (len cap : Nat) (w : World) (h : RowAt w a len cap (bs.map u32)) :
    Calls Try.prog 24 #[.slice a len cap] w fun e w' => e = .returned (u32 (streamOf bs)) ∧ w = w' := by
  have hm := Nat.le_trans h.le h.max
  have hlen : bs.length = len := by simpa using h.length
  unfold maxLen at hm
  have hz : Value.int .u32 0 = u32 (streamOf (bs.take 0)) := by kernel_rfl
  have Hz := Lib.hid hz
  have Hr := Lib.hid h
  have Hl := Lib.hid hlen
  clear h hz hlen
  go_enter Try.func24, Try.ntmps24
  go_wp2
  go_loop [3, 8] (fun x i => ∃ k : Nat, k ≤ len ∧ i = .int .i64 k ∧ x = u32 (streamOf (bs.take k))) (fun _ i => len - (intOf i).toNat)
  case atStart => exact ⟨0, Nat.zero_le _, rfl, Hz.out⟩
  case round =>
    obtain ⟨k, hk, rfl, rfl⟩ := hrel
    by_cases hlt : k < len
    · obtain ⟨b, off, rfl, hcell⟩ := Hr.out.at k hlt
      have hkl : k < bs.length := by rw [Hl.out]; exact hlt
      have hget : (bs.map u32).getD k undef = .int .u32 ((bs[k].toNat : Nat) : Int) := by simp [hkl, u32]
      rw [hget] at hcell
      have hs := Lib.hid (streamOf_snoc (bs.take k) bs[k])
      have ht := Lib.hid (take_snoc' bs k hkl)
      clear hget
      generalize bs[k] = x at *
      go_wp2_with fail
      refine (combine_walk _ x _).mono ?_
      rw [← hs.out, ← ht.out]
      rintro e w1 ⟨rfl, rfl⟩
      go_wp2
      go_round
      case rel => exact ⟨k + 1, by omega, by go_num, rfl⟩
      case measure => simp [intOf]; omega
    · have hfin : bs.take k = bs := List.take_of_length_le (by rw [Hl.out]; omega)
      rw [hfin]
      clear hfin
      go_wp2
      go_ret
      exact ⟨rfl, rfl⟩
set_option maxRecDepth 100000 in
set_option maxHeartbeats 400000 in
theorem refstream_walk (bs : List (BitVec 32)) (a : Option Addr) (len cap : Nat) (w : World) (h : RowAt w a len cap (bs.map u32)) :
    Calls Try.prog 25 #[.slice a len cap] w fun e w' => e = .returned (u32 (streamOf bs)) ∧ w = w' := by
  have hm := Nat.le_trans h.le h.max
  have hlen : bs.length = len := by simpa using h.length
  unfold maxLen at hm
  have hz : Value.int .u32 0 = u32 (streamOf (bs.take 0)) := by kernel_rfl
  have Hz := Lib.hid hz
  have Hr := Lib.hid h
  have Hl := Lib.hid hlen
  clear h hz hlen
  go_enter Try.func25, Try.ntmps25
  go_wp2
  go_loop [3, 8] (fun x i => ∃ k : Nat, k ≤ len ∧ i = .int .i64 k ∧ x = u32 (streamOf (bs.take k))) (fun _ i => len - (intOf i).toNat)
  case atStart => exact ⟨0, Nat.zero_le _, rfl, Hz.out⟩
  case round =>
    obtain ⟨k, hk, rfl, rfl⟩ := hrel
    by_cases hlt : k < len
    · obtain ⟨b, off, rfl, hcell⟩ := Hr.out.at k hlt
      have hkl : k < bs.length := by rw [Hl.out]; exact hlt
      have hget : (bs.map u32).getD k undef = .int .u32 ((bs[k].toNat : Nat) : Int) := by simp [hkl, u32]
      rw [hget] at hcell
      have hs := Lib.hid (streamOf_snoc (bs.take k) bs[k])
      have ht := Lib.hid (take_snoc' bs k hkl)
      clear hget
      generalize bs[k] = x at *
      go_wp2_with fail
      refine (refcombine_walk _ x _).mono ?_
      rw [← hs.out, ← ht.out]
      rintro e w1 ⟨rfl, rfl⟩
      go_wp2
      go_round
      case rel => exact ⟨k + 1, by omega, by go_num, rfl⟩
      case measure => simp [intOf]; omega
    · have hfin : bs.take k = bs := List.take_of_length_le (by rw [Hl.out]; omega)
      rw [hfin]
      clear hfin
      go_wp2
      go_ret
      exact ⟨rfl, rfl⟩

/-! plain law: each block's sum changes the stream's -/
theorem two_split (p q p' q' : Nat) (h : 2 * p + q = 2 * p' + q') (l1 : q ≤ 1) (l2 : q' ≤ 1) : p = p' ∧ q = q' := by omega
theorem rot_inj (t u : BitVec 32) (h : (t <<< 1 ^^^ t >>> 31) = (u <<< 1 ^^^ u >>> 31)) : t = u := by
  apply BitVec.eq_of_toNat_eq
  have h1 := congrArg BitVec.toNat h
  rw [Crc.rot_xor, Crc.rot_xor] at h1
  have ht := t.isLt
  have hu := u.isLt
  have e1 : ∀ x : Nat, x < 4294967296 → x * 2 % 4294967296 = 2 * (x % 2147483648) ∧ x / 2147483648 ≤ 1 := by intro x hx; omega
  rw [(e1 _ ht).1, (e1 _ hu).1] at h1
  obtain ⟨a1, a2⟩ := two_split _ _ _ _ h1 (e1 _ ht).2 (e1 _ hu).2
  rw [← Nat.div_add_mod t.toNat 2147483648, ← Nat.div_add_mod u.toNat 2147483648, a1, a2]
theorem comb_inj_left {t u b : BitVec 32} (h : Crc.comb t b = Crc.comb u b) : t = u := by
  unfold Crc.comb at h
  have h2 := congrArg (· ^^^ b) h
  simp only [BitVec.xor_assoc, BitVec.xor_self, BitVec.xor_zero] at h2
  exact rot_inj t u (by simpa [BitVec.xor_assoc] using h2)
theorem comb_inj_right {t b c : BitVec 32} (h : Crc.comb t b = Crc.comb t c) : b = c := by
  unfold Crc.comb at h
  have h2 := congrArg ((t <<< 1 ^^^ t >>> 31) ^^^ ·) h
  simpa only [← BitVec.xor_assoc, BitVec.xor_self, BitVec.zero_xor] using h2
theorem foldl_comb_inj (l : List (BitVec 32)) : ∀ t u, l.foldl Crc.comb t = l.foldl Crc.comb u → t = u := by
  induction l with
  | nil => intro t u h; exact h
  | cons b l ih => intro t u h; exact comb_inj_left (ih _ _ h)
def othOf (bs : List (BitVec 32)) (at_ : Int) (blk : BitVec 32) : List (BitVec 32) := bs.mapIdx fun i x => if (i : Int) = at_ then blk else x
theorem othOf_length (bs : List (BitVec 32)) (at_ : Int) (blk : BitVec 32) : (othOf bs at_ blk).length = bs.length := by simp [othOf]
theorem othOf_take (bs : List (BitVec 32)) (at_ : Int) (blk : BitVec 32) (k : Nat) (h : k < bs.length) :
    (othOf bs at_ blk).take (k + 1) = (othOf bs at_ blk).take k ++ [if (k : Int) = at_ then blk else bs[k]] := by
  rw [take_snoc' _ k (by rw [othOf_length]; exact h)]
  simp [othOf]
theorem othOf_same (bs : List (BitVec 32)) (at_ : Int) (blk : BitVec 32) (h : ∀ i : Nat, (hi : i < bs.length) → (i : Int) = at_ → bs[i] = blk) : othOf bs at_ blk = bs := by
  apply List.ext_getElem
  · exact othOf_length _ _ _
  · intro i h1 h2
    simp only [othOf, List.getElem_mapIdx]
    split
    · rename_i e; exact (h i h2 e).symm
    · rfl
theorem mapIdx_none {α : Type} (l : List α) (f : Nat → α → α) (h : ∀ i, ∀ x, i < l.length → f i x = x) : l.mapIdx f = l := by
  apply List.ext_getElem (by simp)
  intro i h1 h2
  rw [List.getElem_mapIdx]; exact h i _ h2
theorem othOf_split (bs : List (BitVec 32)) (j : Nat) (blk : BitVec 32) (hj : j < bs.length) : othOf bs (j : Int) blk = bs.take j ++ blk :: bs.drop (j + 1) := by
  have e : bs = bs.take j ++ bs[j] :: bs.drop (j + 1) := by rw [List.getElem_cons_drop, List.take_append_drop]
  have hl : (bs.take j).length = j := by rw [List.length_take]; omega
  unfold othOf
  conv => lhs; rw [e]
  rw [List.mapIdx_append, List.mapIdx_cons, hl]
  rw [mapIdx_none (bs.take j) _ (fun i x hi => if_neg (by omega)), mapIdx_none (bs.drop (j + 1)) _ (fun i x hi => if_neg (by omega)), if_pos (by omega)]
theorem othOf_diff (bs : List (BitVec 32)) (j : Nat) (blk : BitVec 32) (hj : j < bs.length) (hne : bs[j] ≠ blk) : streamOf bs ≠ streamOf (othOf bs (j : Int) blk) := by
  intro h
  have e : bs = bs.take j ++ bs[j] :: bs.drop (j + 1) := by rw [List.getElem_cons_drop, List.take_append_drop]
  rw [othOf_split bs j blk hj] at h
  unfold streamOf at h
  conv at h => lhs; rw [e]
  rw [List.foldl_append, List.foldl_append, List.foldl_cons, List.foldl_cons] at h
  exact hne (comb_inj_right (foldl_comb_inj _ _ _ h))
end Go.Proofs.Ytaefkkpdemilpaa
