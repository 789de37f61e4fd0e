/- Walk of the law CrcTurned. -/
import Derived.Test.YtaefkkpdemilpaaCrcNine
import Derived.Test.YtaefkkpdemilpaaCrcTurn
import Derived.Test.YtaefkkpdemilpaaRowAt
import Derived.Test.YtaefkkpdemilpaaLater
import Derived.Lib.ConvBytes
import Derived.Lib.UnsafeStr
namespace Go.Proofs.Ytaefkkpdemilpaa
open Go.RowKit

/-- the bytes l lie in block b, and may be written -/
def BytesAt (w : World) (b : Nat) (l : List UInt8) : Prop := b < w.heap.size ∧ ∀ i, i < l.length → w.cell? ⟨b, i, none⟩ = some (vB (l.getD i 0)) ∧ w.frozen? ⟨b, i, none⟩ = false
theorem BytesAt.keep {w w' : World} {b : Nat} {l : List UInt8} (h : BytesAt w b l) (k : Below w.heap.size w w') : BytesAt w' b l :=
  ⟨Nat.lt_of_lt_of_le h.1 k.size, fun i hi => by rw [k.cell (p := ⟨b, i, none⟩) h.1, k.frozen (p := ⟨b, i, none⟩) h.1]; exact h.2 i hi⟩

theorem BytesAt.set {w : World} {b : Nat} {l : List UInt8} (h : BytesAt w b l) (k : Nat) (c : UInt8) (hk : k < l.length) : BytesAt (w.setCell ⟨b, k, none⟩ (vB c)) b (l.set k c) := by
  refine ⟨by rw [World.size_setCell]; exact h.1, fun i hi => ?_⟩
  rw [List.length_set] at hi
  have h1 := h.2 i hi
  rw [World.frozen?_setCell]
  by_cases e : i = k
  · subst e
    refine ⟨?_, h1.2⟩
    rw [World.cell?_setCell_same (u := vB (l.getD i 0)) (h := h1.1)]
    simp [hi]
  · refine ⟨?_, h1.2⟩
    rw [World.cell?_setCell_other (h := fun e' => e (by simpa using (congrArg Addr.off e').symm)), h1.1]
    simp [List.getElem?_set_ne (fun e' => e e'.symm)]
theorem BytesAt.row {w : World} {b : Nat} {l : List UInt8} {cap : Nat} (h : BytesAt w b l) (hl : l.length ≤ cap) (hm : cap ≤ maxLen) : RowAt w (some ⟨b, 0, none⟩) l.length cap (l.map vB) :=
  ⟨hl, hm, by simp, (fun e => nomatch e), fun x hx _ => by
    cases hx
    refine ⟨b, 0, rfl, fun i hi => ?_⟩
    rw [Nat.zero_add, (h.2 i hi).1]
    simp [hi]⟩
theorem bytesAt_conv (w : World) (E : TypeId) (s : ByteArray) : BytesAt (Lib.bytesWorld w E s) w.heap.size s.data.toList := by
  refine ⟨by rw [Lib.bytesWorld_size]; omega, fun i hi => ?_⟩
  have hi2 : i < s.size := by simpa using hi
  refine ⟨Lib.bytesWorld_cell w E s i hi2, ?_⟩
  have hsz : s.size ≤ (Lib.bytesCells w E s).size := by simp [Lib.bytesCells]
  unfold World.frozen?
  rw [Lib.bytesWorld_at_new]
  simp; omega
theorem bytesWorld_below (w : World) (E : TypeId) (s : ByteArray) : Below w.heap.size w (Lib.bytesWorld w E s) :=
  Lib.below_freeze ((Below.drew (Below.refl _ w)).alloc (Nat.le_refl _) _) (p := ⟨w.heap.size, _, none⟩) (Nat.le_refl _) 1

theorem u8_bits (x y : UInt8) : bits .xor .u8 (x.toNat : Int) (y.toNat : Int) = ((x ^^^ y).toNat : Int) := by
  rw [u8_xor_nat x.toNat y.toNat x.toNat_lt y.toNat_lt, UInt8.toNat_xor]
theorem shift128 (r : Nat) (h : r < 8) : (128 : Int) / 2 ^ r = ((UInt8.ofNat (2 ^ (7 - r))).toNat : Int) := by
  match r, h with
  | 0, _ | 1, _ | 2, _ | 3, _ | 4, _ | 5, _ | 6, _ | 7, _ => rfl

set_option maxRecDepth 100000 in
set_option maxHeartbeats 1000000 in
theorem crcTurned_core (s : ByteArray) (p : Nat) (mask : Nat) (w : World) (hs : s.size ≤ 500) (hp : p < 8 * s.size) :
    Calls Try.prog 5 #[.string s, .int .i64 (p : Int), .int .u32 (mask : Int)] w fun e w' => e = .returned (.bool true) ∧ Below w.heap.size w w' := by
  have hcv := Lib.run_convert_string_bytes (P := Try.prog) w 9 26 5 s Try.underlying9 Try.underlying26 Try.underlying5
  have hn : decide ((p : Int) < 0) = false := by simp
  have hq : decide (8 * (s.size : Int) ≤ (p : Int)) = false := by simp; omega
  go_enter Try.func5, Try.ntmps5
  go_wp2_with fail
  clear hcv hn hq
  have hb0 := bytesAt_conv w 5 s
  have hbl := bytesWorld_below w 5 s
  generalize Lib.bytesWorld w 5 s = w0 at *
  have hcap : s.size ≤ grownCap w s.size 0 5 := grownCap_ge _ _ _ _
  have hcm : grownCap w s.size 0 5 ≤ maxLen := grownCap_le_maxLen _ _ _ _ (by unfold maxLen; omega)
  generalize grownCap w s.size 0 5 = cap at *
  have Hcm := Lib.hid hcm
  clear hcm
  obtain ⟨B, hB⟩ : ∃ B, B = w.heap.size := ⟨_, rfl⟩
  rw [← hB] at hb0 hbl ⊢
  have HB := Lib.hid hB
  clear hB
  have hlen : s.data.toList.length = s.size := by simp
  have Hlen := Lib.hid hlen
  clear hlen
  generalize hl : s.data.toList = l at *
  have Hl := Lib.hid hl
  clear hl
  go_loopw [9, 30] (fun t n wr => ∃ i : Nat, i ≤ 32 ∧ n = .int .i64 i ∧ t = .bool (Crc.turned l p mask i) ∧ BytesAt wr B (Crc.turnTo l p mask i) ∧ Below B w wr) (fun _ n _ => 32 - (intOf n).toNat)
  case atStart => exact ⟨0, by omega, rfl, rfl, hb0, hbl⟩
  case round =>
    obtain ⟨i, hi, rfl, rfl, hbr, hbel⟩ := hrel
    by_cases hlt : i < 32
    · by_cases hk : p + i < 8 * s.size
      · have hbit : (((mask : Int) / 2 ^ i).tmod 2 == 1) = mask.testBit i := by
          rw [Nat.testBit_eq_decide_div_mod_eq, show ((mask : Int) / 2 ^ i) = ((mask / 2 ^ i : Nat) : Int) by simp, show (((mask / 2 ^ i : Nat) : Int)).tmod 2 = ((mask / 2 ^ i % 2 : Nat) : Int) from rfl]
          rw [Bool.eq_iff_iff, beq_iff_eq, decide_eq_true_eq]
          omega
        by_cases hmb : mask.testBit i = true
        · rw [hmb] at hbit
          have hlX : (Crc.turnTo l p mask i).length = s.size := by rw [Crc.turnTo_len, Hlen.out]
          have hcell := (hbr.2 ((p + i) / 8) (by omega)).1
          have hcl : ∀ x : Later wr, x.at.cell? ⟨B, (p + i) / 8, none⟩ = some (.int .u8 (((Crc.turnTo l p mask i).getD ((p + i) / 8) 0).toNat : Int)) := fun x => x.cell hcell
          clear hcell
          have hturn : Crc.turns l p mask i = true := by unfold Crc.turns; rw [hmb, Hlen.out]; simpa using hk
          have hT1 : Crc.turnTo l p mask (i + 1) = Crc.flipAt (Crc.turnTo l p mask i) (p + i) := by rw [Crc.turnTo, if_pos hturn]
          have hT2 : Crc.turned l p mask (i + 1) = true := by rw [Crc.turned, hturn]; rfl
          have HT1 := Lib.hid hT1
          have HT2 := Lib.hid hT2
          clear hT1 hT2 hturn
          generalize hc : (Crc.turnTo l p mask i).getD ((p + i) / 8) 0 = c at *
          have Hc := Lib.hid hc
          clear hc
          have Hbr := Lib.hid hbr
          have Hbel := Lib.hid hbel
          clear hbr hbel hlX
          go_wp2_with fail
          refine region_later 13 (by kernel_rfl) (by kernel_rfl) ?_
          simp only [List.take_succ_cons, List.take_zero, List.drop_succ_cons, List.drop_zero]
          repeat (go_big_quiet_step (fail))
          refine wpQuiet_nil ?_
          rintro w' ⟨x, rfl⟩
          have hb4 := x.below
          have hb5 := Hbr.out.keep hb4
          have hb6 := Hbel.out.trans (hb4.mono (Nat.le_of_lt Hbr.out.1))
          generalize x.at = w4 at *
          clear hcl hb4
          have hf := hb5.2 ((p + i) / 8) (by rw [Crc.turnTo_len, Hlen.out]; omega)
          obtain ⟨hf1, hf2⟩ := hf
          have Hb5 := Lib.hid hb5
          have Hb6 := Lib.hid hb6
          clear hb5 hb6
          unfold vB at hf1
          go_wp2
          go_roundw
          case rel =>
            refine ⟨i + 1, by omega, by go_num, by rw [HT2.out], ?_, Hb6.out.setCell (p := ⟨B, (p + i) / 8, none⟩) (Nat.le_refl _) _⟩
            have e := u8_bits c (UInt8.ofNat (2 ^ (7 - (p + i) % 8)))
            rw [← shift128 ((p + i) % 8) (by omega)] at e
            rw [e, HT1.out]
            unfold Crc.flipAt
            rw [Hc.out]
            exact Hb5.out.set ((p + i) / 8) _ (by rw [Crc.turnTo_len, Hlen.out]; omega)
          case measure => simp [intOf]; omega
        · have hmb2 : mask.testBit i = false := Bool.eq_false_iff.2 hmb
          rw [hmb2] at hbit
          have hturn : Crc.turns l p mask i = false := by unfold Crc.turns; rw [hmb2, Bool.and_false]
          have hT1 : Crc.turnTo l p mask (i + 1) = Crc.turnTo l p mask i := by rw [Crc.turnTo, if_neg (by rw [hturn]; exact Bool.false_ne_true)]
          have hT2 : Crc.turned l p mask (i + 1) = Crc.turned l p mask i := by rw [Crc.turned, hturn]; rfl
          have HT1 := Lib.hid hT1
          have HT2 := Lib.hid hT2
          clear hT1 hT2 hturn hmb hmb2
          go_wp2
          go_roundw
          case rel => exact ⟨i + 1, by omega, by go_num, by rw [HT2.out], by rw [HT1.out]; exact hbr, hbel⟩
          case measure => simp [intOf]; omega
      · have hk2 : decide ((p : Int) + (i : Int) < 8 * (s.size : Int)) = false := by simp; omega
        have hturn : Crc.turns l p mask i = false := by unfold Crc.turns; rw [Hlen.out]; simp; intro h; omega
        have hT1 : Crc.turnTo l p mask (i + 1) = Crc.turnTo l p mask i := by rw [Crc.turnTo, if_neg (by rw [hturn]; exact Bool.false_ne_true)]
        have hT2 : Crc.turned l p mask (i + 1) = Crc.turned l p mask i := by rw [Crc.turned, hturn]; rfl
        have HT1 := Lib.hid hT1
        have HT2 := Lib.hid hT2
        clear hT1 hT2 hturn
        go_wp2
        go_roundw
        case rel => exact ⟨i + 1, by omega, by go_num, by rw [HT2.out], by rw [HT1.out]; exact hbr, hbel⟩
        case measure => simp [intOf]; omega
    · obtain rfl : i = 32 := by omega
      have hlX : (Crc.turnTo l p mask 32).length = s.size := by rw [Crc.turnTo_len, Hlen.out]
      have hrow : RowAt wr (some ⟨B, 0, none⟩) s.size cap ((Crc.turnTo l p mask 32).map vB) := by
        have := hbr.row (cap := cap) (by omega) Hcm.out
        rw [hlX] at this; exact this
      have hcv : ∀ x : Later wr, (convert 26 9 (.slice (some ⟨B, 0, none⟩) s.size cap)).run Try.prog x.at = .ok (.string ⟨(Crc.turnTo l p mask 32).toArray⟩) x.at := fun x =>
        convert_row Try.underlying26 Try.underlying5 Try.underlying9 (hrow.keep x.below)
      have hst := Crc.sum_turned l p mask
      have hxs : (⟨(Crc.turnTo l p mask 32).toArray⟩ : ByteArray).size ≤ maxLen := by
        show (Crc.turnTo l p mask 32).toArray.size ≤ maxLen
        rw [List.size_toArray, hlX]; unfold maxLen; omega
      have Ha := Lib.hid (fun x : Later wr => later_call (x := x) (of_walk s x.at (by unfold maxLen; omega)))
      have Hx := Lib.hid (fun x : Later wr => later_call (x := x) (of_walk ⟨(Crc.turnTo l p mask 32).toArray⟩ x.at hxs))
      have Hn := Lib.hid (fun x : Later wr => later_call (x := x) (nine_walk x.at))
      rw [Hl.out] at Ha
      rw [show (⟨(Crc.turnTo l p mask 32).toArray⟩ : ByteArray).data.toList = Crc.turnTo l p mask 32 from by simp] at Hx
      unfold vW at Ha Hx
      have h1 : (((Crc.sumOf l).toNat : Int) == ((Crc.sumOf (Crc.turnTo l p mask 32)).toNat : Int)) = !Crc.turned l p mask 32 := by
        rw [Bool.eq_iff_iff, beq_iff_eq, Int.ofNat_inj, BitVec.toNat_inj, hst]; simp
      have h2 : (((Crc.sumOf l).toNat : Int) != ((Crc.sumOf (Crc.turnTo l p mask 32)).toNat : Int)) = Crc.turned l p mask 32 := by
        unfold bne; rw [h1, Bool.not_not]
      generalize ((Crc.sumOf l).toNat : Int) = n1 at *
      generalize ((Crc.sumOf (Crc.turnTo l p mask 32)).toNat : Int) = n2 at *
      generalize Crc.turned l p mask 32 = tb at *
      have Hbel := Lib.hid hbel
      have Hlt := Lib.hid hbr.1
      clear hbr hbel hlX hst hxs hrow hlt hi
      go_wp2_with fail
      refine region_later 12 (by kernel_rfl) (by kernel_rfl) ?_
      simp only [List.take_succ_cons, List.take_zero, List.drop_succ_cons, List.drop_zero]
      repeat (go_big_quiet_step ((first | (with_reducible exact Ha.out _) | (with_reducible exact Hx.out _) | exact Hn.out _)))
      refine wpQuiet_nil ?_
      rintro w' ⟨x, rfl⟩
      have hb4 := x.below
      clear Ha Hx Hn hcv
      generalize x.at = w4 at *
      go_wp2
      go_ret
      exact ⟨rfl, (by rw [← HB.out]; exact Hbel.out.trans (hb4.mono (Nat.le_of_lt Hlt.out)))⟩

set_option maxRecDepth 100000 in
set_option maxHeartbeats 1000000 in
theorem crcTurned_walk (s : ByteArray) (at_ mask : Int) (w : World) (hs : s.size ≤ maxLen) (_hat : (Lit.int .i64 at_).wf = true) (hmk : (Lit.int .u32 mask).wf = true) :
    Calls Try.prog 5 #[.string s, .int .i64 at_, .int .u32 mask] w fun e w' => e = .returned (.bool true) ∧ Below w.heap.size w w' := by
  have hx : 0 ≤ mask ∧ mask ≤ 4294967295 := by simpa [Lit.wf, IntKind.min, IntKind.max, IntKind.signed, IntKind.bits] using hmk
  clear hmk
  unfold maxLen at hs
  have hn : (8 * (s.size : Int)) = 8 * (s.size : Int) := rfl
  by_cases h1 : s.size ≤ 500
  · by_cases h2 : at_ < 0
    · have d2 : decide (at_ < 0) = true := by simpa using h2
      clear hn
      go_enter Try.func5, Try.ntmps5
      go_wp2_with fail
      refine (nine_walk _).mono ?_
      rintro e w3 ⟨rfl, hb2⟩
      go_wp2
      go_ret
      exact ⟨rfl, hb2⟩
    · by_cases h3 : 8 * (s.size : Int) ≤ at_
      · have d2 : decide (at_ < 0) = false := by simpa using h2
        have d3 : decide (8 * (s.size : Int) ≤ at_) = true := by simpa using h3
        clear hn
        go_enter Try.func5, Try.ntmps5
        go_wp2_with fail
        refine (nine_walk _).mono ?_
        rintro e w3 ⟨rfl, hb2⟩
        go_wp2
        go_ret
        exact ⟨rfl, hb2⟩
      · obtain ⟨p, rfl⟩ : ∃ p : Nat, at_ = (p : Int) := ⟨at_.toNat, by omega⟩
        obtain ⟨m, rfl⟩ : ∃ m : Nat, mask = (m : Int) := ⟨mask.toNat, by omega⟩
        exact crcTurned_core s p m w h1 (by omega)
  · have d1 : decide ((500 : Int) < (s.size : Int)) = true := by simp; omega
    clear hn
    by_cases hov : s.size ≤ 1152921504606846975
    · go_enter Try.func5, Try.ntmps5
      go_wp2_with fail
      refine (nine_walk _).mono ?_
      rintro e w3 ⟨rfl, hb2⟩
      go_wp2
      go_ret
      exact ⟨rfl, hb2⟩
    · go_enter Try.func5, Try.ntmps5
      go_wp2_with fail
      refine (nine_walk _).mono ?_
      rintro e w3 ⟨rfl, hb2⟩
      go_wp2
      go_ret
      exact ⟨rfl, hb2⟩
end Go.Proofs.Ytaefkkpdemilpaa
