/- Walk of the law CrcLinear. -/
import Derived.Test.YtaefkkpdemilpaaCrcNine
import Derived.Test.YtaefkkpdemilpaaRowAt
import Derived.Test.YtaefkkpdemilpaaLater
namespace Go.Proofs.Ytaefkkpdemilpaa
open Go.RowKit

/-! plain law: of three texts of one length the exclusive or of their sums is the sum of their exclusive or -/
def xor3 (a b c : List UInt8) : List UInt8 := List.zipWith (· ^^^ ·) (List.zipWith (· ^^^ ·) a b) c
theorem up_xor (a b : UInt8) : Crc.up (a ^^^ b) = Crc.up a ^^^ Crc.up b := by
  apply BitVec.eq_of_toNat_eq
  have ha := a.toNat_lt; have hb := b.toNat_lt
  have hx : a.toNat ^^^ b.toNat < 2 ^ 8 := Nat.xor_lt_two_pow ha hb
  unfold Crc.up
  rw [BitVec.toNat_xor, BitVec.toNat_ofNat, BitVec.toNat_ofNat, BitVec.toNat_ofNat, UInt8.toNat_xor]
  rw [Nat.mod_eq_of_lt (a := a.toNat * 16777216) (by omega), Nat.mod_eq_of_lt (a := b.toNat * 16777216) (by omega), Nat.mod_eq_of_lt (by omega)]
  exact Crc.xor_mul_pow _ _ 24
theorem step_xor (s t : BitVec 32) (a b : UInt8) : Crc.step (s ^^^ t) (a ^^^ b) = Crc.step s a ^^^ Crc.step t b := by
  unfold Crc.step
  rw [up_xor, ← Crc.Zn_xor]
  rw [show s ^^^ t ^^^ (Crc.up a ^^^ Crc.up b) = s ^^^ Crc.up a ^^^ (t ^^^ Crc.up b) from by rw [BitVec.xor_assoc, BitVec.xor_assoc, ← BitVec.xor_assoc t, BitVec.xor_comm t, BitVec.xor_assoc]]
theorem run_xor : ∀ (a b : List UInt8) (s t : BitVec 32), a.length = b.length → Crc.run (s ^^^ t) (List.zipWith (· ^^^ ·) a b) = Crc.run s a ^^^ Crc.run t b
  | [], [], _, _, _ => rfl
  | x :: a, y :: b, s, t, h => by
    show Crc.run (Crc.step (s ^^^ t) (x ^^^ y)) _ = _
    rw [step_xor]
    exact run_xor a b _ _ (by simpa using h)
  | [], _ :: _, _, _, h => by simp at h
  | _ :: _, [], _, _, h => by simp at h
theorem not_xor3 (x y z : BitVec 32) : ~~~ x ^^^ ~~~ y ^^^ ~~~ z = ~~~ (x ^^^ y ^^^ z) := by
  apply BitVec.eq_of_getLsbD_eq
  intro i hi
  simp [hi]
theorem sum_xor3 (a b c : List UInt8) (h1 : a.length = b.length) (h2 : b.length = c.length) : Crc.sumOf a ^^^ Crc.sumOf b ^^^ Crc.sumOf c = Crc.sumOf (xor3 a b c) := by
  unfold Crc.sumOf xor3
  rw [not_xor3]
  congr 1
  rw [← run_xor a b _ _ h1, ← run_xor _ c _ _ (by simp [h1, h2]), BitVec.xor_self, BitVec.zero_xor]

theorem u8_bits (x y : UInt8) : bits .xor .u8 (x.toNat : Int) (y.toNat : Int) = ((x ^^^ y).toNat : Int) := by
  rw [u8_xor_nat x.toNat y.toNat x.toNat_lt y.toNat_lt, UInt8.toNat_xor]
theorem xor3_take (a b c : ByteArray) (k : Nat) (ha : k < a.size) (hb : k < b.size) (hc : k < c.size) :
    xor3 (a.data.toList.take (k + 1)) (b.data.toList.take (k + 1)) (c.data.toList.take (k + 1)) = xor3 (a.data.toList.take k) (b.data.toList.take k) (c.data.toList.take k) ++ [a[k] ^^^ b[k] ^^^ c[k]] := by
  rw [take_snoc a k ha, take_snoc b k hb, take_snoc c k hc]
  unfold xor3
  rw [List.zipWith_append (by simp; omega), List.zipWith_append (by simp; omega)]
  rfl
theorem info_u8 : (Try.prog.info? 5).map (fun i => (i.zero, i.size, i.bytes)) = some (some (.int .u8 0), 1, 1) := by kernel_rfl

theorem min4 {P : Program} (w : World) (ts : Array TypeId) (t : TypeId) (x y z q : Nat) : ∃ n : Nat, (Builtin.min_ ts t #[.int .i64 (x : Int), .int .i64 (y : Int), .int .i64 (z : Int), .int .i64 (q : Int)]).run P w = .ok (.int .i64 (n : Int)) w ∧ n ≤ x ∧ n ≤ y ∧ n ≤ z ∧ n ≤ q := by
  refine ⟨min (min (min x y) z) q, ?_, by omega, by omega, by omega, by omega⟩
  simp only [Builtin.min_, Builtin.min2, List.foldlM_cons, List.foldlM_nil, pure_bind, Sem.run_pure]
  congr 2
  split <;> split <;> split <;> omega

set_option maxRecDepth 100000 in
set_option maxHeartbeats 1000000 in
theorem crcLinear_walk (a b c : ByteArray) (w : World) (ha : a.size ≤ maxLen) (hb : b.size ≤ maxLen) (hc : c.size ≤ maxLen) :
    Calls Try.prog 4 #[.string a, .string b, .string c] w fun e w' => e = .returned (.bool true) ∧ Below w.heap.size w w' := by
  unfold maxLen at ha hb hc
  obtain ⟨n, hmin, hna, hnb, hnc, hn5⟩ := min4 (P := Try.prog) w #[3, 3, 3, 3] 3 a.size b.size c.size 500
  rw [show ((500 : Nat) : Int) = 500 from rfl] at hmin
  go_enter Try.func4, Try.ntmps4
  go_wp2_with fail
  clear hmin
  go_loopw [8, 18] (fun v i wr => ∃ k : Nat, k ≤ n ∧ i = .int .i64 k ∧ wr.ownsRow w.heap.size 5 1 v k ((xor3 (a.data.toList.take k) (b.data.toList.take k) (c.data.toList.take k)).map vB) ∧ Below w.heap.size w wr) (fun _ i _ => n - (intOf i).toNat)
  case atStart => exact ⟨0, Nat.zero_le _, rfl, World.ownsRow_nil _ _ _ _, Below.refl _ _⟩
  case round =>
    obtain ⟨k, hk, rfl, hown, hbr⟩ := hrel
    by_cases hlt : k < n
    · have ha1 : k < a.size := by omega
      have hb1 : k < b.size := by omega
      have hc1 : k < c.size := by omega
      have ht := Lib.hid (xor3_take a b c k ha1 hb1 hc1)
      have hx1 := u8_bits a[k] b[k]
      have hx2 := u8_bits (a[k] ^^^ b[k]) c[k]
      have hv : Value.int .u8 ((a[k].toNat ^^^ b[k].toNat ^^^ c[k].toNat : Nat) : Int) = vB (a[k] ^^^ b[k] ^^^ c[k]) := by simp [vB]
      have Hv := Lib.hid hv
      clear hv
      simp only [UInt8.toNat_xor] at hx1 hx2
      generalize hX : (xor3 (a.data.toList.take k) (b.data.toList.take k) (c.data.toList.take k)).map vB = xs at *
      have HX := Lib.hid hX
      have Hown := Lib.hid hown
      have Hbr := Lib.hid hbr
      clear hown hbr hX
      go_wp2_with fail
      refine region_later 12 (by kernel_rfl) (by kernel_rfl) ?_
      simp only [List.take_succ_cons, List.take_zero, List.drop_succ_cons, List.drop_zero]
      repeat (go_big_quiet_step (fail))
      refine wpQuiet_nil ?_
      rintro w' ⟨x, rfl⟩
      have hb4 := x.below
      generalize x.at = w4 at *
      have Hown2 := Lib.hid (ownsRow_keep Hown.out hb4)
      have Hbr2 := Lib.hid (Hbr.out.trans (hb4.mono Hbr.out.size))
      clear Hown Hbr hb4
      go_wp2_with (at_builtin; refine append1 Try.underlying26 info_u8 rfl rfl _ _ rfl w.heap.size k _ _ rfl Hown2.out _ rfl rfl (by unfold maxLen; omega) (by omega) Hbr2.out.size ?_)
      intro g cap' w2 ho hc hb2 _ _ _
      have ho2 : w2.ownsRow w.heap.size 5 1 (.slice (some ⟨g, 0, none⟩) (k + 1) cap') (k + 1) ((xor3 (a.data.toList.take (k + 1)) (b.data.toList.take (k + 1)) (c.data.toList.take (k + 1))).map vB) := by
        rw [ht.out, List.map_append, HX.out, List.map_cons, List.map_nil, ← Hv.out]; exact ho
      have hb3 := Hbr2.out.trans hb2
      clear ho hc hb2 Hown2 Hbr2 HX ht
      go_wp2
      go_roundw
      case rel => exact ⟨k + 1, by omega, by go_num, ho2, hb3⟩
      case measure => simp [intOf]; omega
    · obtain rfl : k = n := by omega
      obtain ⟨a2, cap2, rfl, hrow, _⟩ := rowAt_owns hown
      have hcv : ∀ x : Later wr, (convert 26 9 (.slice a2 k cap2)).run Try.prog x.at = .ok (.string ⟨(xor3 (a.data.toList.take k) (b.data.toList.take k) (c.data.toList.take k)).toArray⟩) x.at := fun x =>
        convert_row Try.underlying26 Try.underlying5 Try.underlying9 (hrow.keep x.below)
      have hsum := congrArg BitVec.toNat (sum_xor3 (a.data.toList.take k) (b.data.toList.take k) (c.data.toList.take k) (by simp; omega) (by simp; omega))
      rw [BitVec.toNat_xor, BitVec.toNat_xor] at hsum
      have hla := (Crc.sumOf (a.data.toList.take k)).isLt
      have hlb := (Crc.sumOf (b.data.toList.take k)).isLt
      have hlc := (Crc.sumOf (c.data.toList.take k)).isLt
      have hxl : (⟨(xor3 (a.data.toList.take k) (b.data.toList.take k) (c.data.toList.take k)).toArray⟩ : ByteArray).size ≤ 500 := by
        show (xor3 (a.data.toList.take k) (b.data.toList.take k) (c.data.toList.take k)).toArray.size ≤ 500
        rw [List.size_toArray]
        unfold xor3
        rw [List.length_zipWith, List.length_zipWith, List.length_take]
        omega
      have Ha := Lib.hid (fun x : Later wr => later_call (x := x) (of_walk (a.extract 0 k) x.at (by unfold maxLen; simp; omega)))
      have Hb := Lib.hid (fun x : Later wr => later_call (x := x) (of_walk (b.extract 0 k) x.at (by unfold maxLen; simp; omega)))
      have Hc := Lib.hid (fun x : Later wr => later_call (x := x) (of_walk (c.extract 0 k) x.at (by unfold maxLen; simp; omega)))
      have Hx := Lib.hid (fun x : Later wr => later_call (x := x) (of_walk ⟨(xor3 (a.data.toList.take k) (b.data.toList.take k) (c.data.toList.take k)).toArray⟩ x.at (by unfold maxLen; omega)))
      have Hn := Lib.hid (fun x : Later wr => later_call (x := x) (nine_walk x.at))
      have ex : ∀ s : ByteArray, k ≤ s.size → (s.extract 0 k).data.toList = s.data.toList.take k := fun s _ => by simp
      rw [ex a hna] at Ha
      rw [ex b hnb] at Hb
      rw [ex c hnc] at Hc
      rw [show (⟨(xor3 (a.data.toList.take k) (b.data.toList.take k) (c.data.toList.take k)).toArray⟩ : ByteArray).data.toList = xor3 (a.data.toList.take k) (b.data.toList.take k) (c.data.toList.take k) from by simp] at Hx
      unfold vW at Ha Hb Hc Hx
      generalize (Crc.sumOf (a.data.toList.take k)).toNat = n1 at *
      generalize (Crc.sumOf (b.data.toList.take k)).toNat = n2 at *
      generalize (Crc.sumOf (c.data.toList.take k)).toNat = n3 at *
      generalize (Crc.sumOf (xor3 (a.data.toList.take k) (b.data.toList.take k) (c.data.toList.take k))).toNat = m at *
      have h1 := u32_xor_nat n1 n2 hla hlb
      have h2 := u32_xor_nat (n1 ^^^ n2) n3 (Nat.xor_lt_two_pow hla hlb) hlc
      rw [hsum] at h2
      clear ex hla hlb hlc hxl
      have Hbr := Lib.hid hbr
      clear hrow hown hbr hsum
      go_wp2_with fail
      refine region_later 22 (by kernel_rfl) (by kernel_rfl) ?_
      simp only [List.take_succ_cons, List.take_zero, List.drop_succ_cons, List.drop_zero]
      repeat (go_big_quiet_step ((first | (with_reducible exact Ha.out _) | (with_reducible exact Hb.out _) | (with_reducible exact Hc.out _) | (with_reducible exact Hx.out _) | exact Hn.out _)))
      refine wpQuiet_nil ?_
      rintro w' ⟨x, rfl⟩
      have hb4 := x.below
      clear Ha Hb Hc Hx Hn hcv
      generalize x.at = w4 at *
      go_wp2
      go_ret
      exact ⟨rfl, Hbr.out.trans (hb4.mono Hbr.out.size)⟩
end Go.Proofs.Ytaefkkpdemilpaa
