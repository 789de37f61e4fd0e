/- The law of beginning anew. (Printed by gen_feedanew.py.) -/
import Derived.Test.YtohdifhleeonpaaFeedLaw2
namespace Go.Proofs.Ytohdifhleeonpaa
open Go.RowKit
set_option linter.unusedVariables false
set_option linter.unusedSimpArgs false

/-- an unpacker's row behind any bytes, whatever was wrong -/
def urow (l : List UInt8) : Rl.Pc := l.foldl (fun r c => (uput r c).r) Rl.row0
theorem urow_snoc (l : List UInt8) (c : UInt8) : urow (l ++ [c]) = (uput (urow l) c).r := by unfold urow; rw [List.foldl_append]; rfl
theorem urow_bd (l : List UInt8) : (urow l).n ≤ 4 := by
  have : ∀ (l : List UInt8) (r : Rl.Pc), r.n ≤ 4 → (l.foldl (fun r c => (uput r c).r) r).n ≤ 4 := by
    intro l
    induction l with
    | nil => intro r h; exact h
    | cons c l ih => intro r h; exact ih _ (uput_bd r c h).1
  exact this l _ (Nat.zero_le _)
/-- what the last of j bytes told -/
def lastR (l : List UInt8) (j : Nat) : Up := if j = 0 then ⟨[], 0, Rl.row0⟩ else uput (urow (l.take (j - 1))) (l.getD (j - 1) 0)
theorem lastR_succ (s : ByteArray) (j : Nat) (h : j < s.size) : lastR s.data.toList (j + 1) = uput (urow (s.data.toList.take j)) s[j] := by
  unfold lastR
  rw [if_neg (by omega), Nat.add_sub_cancel, getD_idx s j h]

set_option maxRecDepth 100000 in
set_option maxHeartbeats 4000000 in
theorem feedAnew_in (a b : ByteArray) (w : World) (hla : ¬ 60 < a.size) (hlb : ¬ 60 < b.size) :
    Calls Try.prog 6 #[.string a, .string b] w fun e w' => e = .returned (.bool true) ∧ Below w.heap.size w w' := by
  have hla' : ¬ (60 : Int) < (a.size : Int) := by omega
  have hlb' : ¬ (60 : Int) < (b.size : Int) := by omega
  have hla2 : decide ((60 : Int) < (a.size : Int)) = false := by simp; omega
  have hlb2 : decide ((60 : Int) < (b.size : Int)) = false := by simp; omega
  have HLA := Lib.hid hla
  have HLB := Lib.hid hlb
  have H0 := Lib.hid (newPacker_walk w)
  have HENC := Lib.hid (fun w => refencode_walk b w (by omega))
  clear hla hlb
  go_enter Try.func6, Try.ntmps6
  go_wp2_with fail
  (with_reducible refine (H0.out).mono ?_)
  rintro e w1 ⟨rfl, hk1, hb1⟩
  have HK1 := Lib.hid hk1
  have HB1 := Lib.hid hb1
  clear hk1 hb1
  go_wp2_with fail
  go_loopw [30] (fun i wr => ∃ k : Nat, i = .int .i64 k ∧ k ≤ a.size ∧ KAt wr w.heap.size (Rl.rowOf (a.data.toList.take k)) ∧ Below w.heap.size w wr) (fun i _ => a.size - (intOf i).toNat)
  case atStart => exact ⟨0, rfl, Nat.zero_le _, HK1.out, HB1.out⟩
  case round =>
    obtain ⟨k, rfl, hk, hka, hbr⟩ := hrel
    have HB := Lib.hid hbr
    by_cases hlt : k < a.size
    · have hlt' : (k : Int) < (a.size : Int) := by omega
      have htm := take_more (bget a k hlt)
      have HP := Lib.hid (put_walk w.heap.size (Rl.rowOf (a.data.toList.take k)) a[k] wr hka (Rl.rowOf_bd _).1)
      have HRW := Lib.hid (show Rl.rowOf (a.data.toList.take (k + 1)) = (Rl.pput (Rl.rowOf (a.data.toList.take k)) a[k]).2 by rw [htm]; exact (Rl.put_row _ _).2)
      clear htm hka hbr
      go_wp2_with fail
      (with_reducible refine (HP.out).mono ?_)
      rintro e w2 ⟨rfl, h1, h2⟩
      have HK2 := Lib.hid (show KAt w2 w.heap.size (Rl.rowOf (a.data.toList.take (k + 1))) by rw [HRW.out]; exact h1)
      have HB2 := Lib.hid (HB.out.trans (h2.below HB.out.size (by simp)))
      clear h1 h2
      go_wp2
      go_roundw
      case rel => exact ⟨k + 1, by go_num, hlt, HK2.out, HB2.out⟩
      case measure => simp [intOf] <;> omega
    · have hlt' : ¬ (k : Int) < (a.size : Int) := by omega
      have hr := (Rl.rowOf_bd (a.data.toList.take k)).1
      have HE := Lib.hid (pend_walk w.heap.size (Rl.rowOf (a.data.toList.take k)) wr hka (by omega))
      clear hka hbr
      go_wp2_with fail
      (with_reducible refine (HE.out).mono ?_)
      rintro e w3 ⟨rfl, h1, h2⟩
      have HK3 := Lib.hid h1
      have HB3 := Lib.hid (HB.out.trans (h2.below HB.out.size (by simp)))
      clear h1 h2 hr
      go_wp2_with fail
      obtain ⟨wo, rfl⟩ : ∃ wo : World, wo = wr := ⟨_, rfl⟩
      clear hlt hlt' hk
      go_loopw [43, 7] (fun i x wr => ∃ k : Nat, i = .int .i64 k ∧ k ≤ b.size ∧ x = .string (Fr.bs (Rl.sureB (b.data.toList.take k))) ∧ KAt wr w.heap.size (Rl.rowOf (b.data.toList.take k)) ∧ Below w.heap.size w wr) (fun i _ _ => b.size - (intOf i).toNat)
      case atStart => exact ⟨0, rfl, Nat.zero_le _, rfl, HK3.out, HB3.out⟩
      case round =>
        obtain ⟨k, rfl, hk, rfl, hka, hbr⟩ := hrel
        have HB4 := Lib.hid hbr
        by_cases hlt : k < b.size
        · have hlt' : (k : Int) < (b.size : Int) := by omega
          have htm := take_more (bget b k hlt)
          have HP := Lib.hid (put_walk w.heap.size (Rl.rowOf (b.data.toList.take k)) b[k] wr hka (Rl.rowOf_bd _).1)
          have HRW := Lib.hid (show Rl.rowOf (b.data.toList.take (k + 1)) = (Rl.pput (Rl.rowOf (b.data.toList.take k)) b[k]).2 by rw [htm]; exact (Rl.put_row _ _).2)
          have HC := Lib.hid (show Fr.bs (Rl.sureB (b.data.toList.take k)) ++ Fr.bs (Rl.putB (Rl.rowOf (b.data.toList.take k)) b[k]) = Fr.bs (Rl.sureB (b.data.toList.take (k + 1))) by rw [htm, Rl.sureB_put, bs_app])
          have hsl := sure_len (b.data.toList.take k)
          have hpl := putB_len (Rl.rowOf (b.data.toList.take k)) b[k]
          have hz1 := bs_size (Rl.sureB (b.data.toList.take k))
          have hz2 := bs_size (Rl.putB (Rl.rowOf (b.data.toList.take k)) b[k])
          rw [List.length_take, llen] at hsl
          generalize Fr.bs (Rl.sureB (b.data.toList.take k)) = S at *
          generalize Fr.bs (Rl.putB (Rl.rowOf (b.data.toList.take k)) b[k]) = T at *
          have hcat : S.size + T.size ≤ 10000 := by omega
          clear htm hsl hpl hz1 hz2 hka hbr
          go_wp2_with fail
          (with_reducible refine (HP.out).mono ?_)
          rintro e w5 ⟨rfl, h1, h2⟩
          have HK5 := Lib.hid (show KAt w5 w.heap.size (Rl.rowOf (b.data.toList.take (k + 1))) by rw [HRW.out]; exact h1)
          have HB5 := Lib.hid (HB4.out.trans (h2.below HB4.out.size (by simp)))
          clear h1 h2
          go_wp2
          go_roundw
          case rel => exact ⟨k + 1, by go_num, hlt, by rw [HC.out], HK5.out, HB5.out⟩
          case measure => simp [intOf] <;> omega
        · have hlt' : ¬ (k : Int) < (b.size : Int) := by omega
          obtain rfl : k = b.size := by omega
          rw [← llen, List.take_length] at hka ⊢
          have hr := (Rl.rowOf_bd b.data.toList).1
          have HE2 := Lib.hid (pend_walk w.heap.size (Rl.rowOf b.data.toList) wr hka (by omega))
          have HC := Lib.hid (show Fr.bs (Rl.sureB b.data.toList) ++ Fr.bs (Rl.endB (Rl.rowOf b.data.toList)) = Fr.bs (Rl.enc b.data.toList) by rw [bs_app, Rl.sureB_end])
          have hsm := Rl.enc_small b.data.toList
          rw [llen] at hsm
          have hz := congrArg ByteArray.size HC.out
          rw [ByteArray.size_append, bs_size (Rl.enc b.data.toList)] at hz
          have hL := HLB.out
          rw [← HC.out] at HENC
          generalize Fr.bs (Rl.sureB b.data.toList) = S at *
          generalize Fr.bs (Rl.endB (Rl.rowOf b.data.toList)) = T at *
          have hcat : S.size + T.size ≤ 10000 := by omega
          clear hka hbr hz hsm hL HC hr
          go_wp2_with fail
          (with_reducible refine (HE2.out).mono ?_)
          rintro e w5 ⟨rfl, h1, h2⟩
          have HB5 := Lib.hid (HB4.out.trans (h2.below HB4.out.size (by simp)))
          have HU := Lib.hid (newUnpacker_walk w5)
          have hub : w.heap.size ≤ w5.heap.size := HB5.out.size
          clear h1 h2
          generalize hu0 : w5.heap.size = ub at *
          go_wp2_with fail
          (with_reducible refine (HU.out).mono ?_)
          rintro e w6 ⟨rfl, h1, h2⟩
          have HU6 := Lib.hid h1
          have HB6 := Lib.hid (HB5.out.trans (h2.mono (by omega)))
          clear h1 h2 hu0
          go_wp2_with fail
          obtain ⟨wo2, rfl⟩ : ∃ wo : World, wo = wr := ⟨_, rfl⟩
          clear hlt hlt' hk
          go_loopw [61] (fun i wr => ∃ k : Nat, i = .int .i64 k ∧ k ≤ a.size ∧ UAt wr ub (urow (a.data.toList.take k)) ∧ Below w.heap.size w wr) (fun i _ => a.size - (intOf i).toNat)
          case atStart => exact ⟨0, rfl, Nat.zero_le _, HU6.out, HB6.out⟩
          case round =>
            obtain ⟨k, rfl, hk, hua, hbr⟩ := hrel
            have HB7 := Lib.hid hbr
            by_cases hlt : k < a.size
            · have hlt' : (k : Int) < (a.size : Int) := by omega
              have htm := take_more (bget a k hlt)
              have HP := Lib.hid (uput_walk ub (urow (a.data.toList.take k)) a[k] wr hua (urow_bd _))
              have HRW := Lib.hid (show urow (a.data.toList.take (k + 1)) = (uput (urow (a.data.toList.take k)) a[k]).r by rw [htm]; exact urow_snoc _ _)
              clear htm hua hbr
              go_wp2_with fail
              (with_reducible refine (HP.out).mono ?_)
              rintro e w7 ⟨rfl, h1, h2⟩
              have HU7 := Lib.hid (show UAt w7 ub (urow (a.data.toList.take (k + 1))) by rw [HRW.out]; exact h1)
              have HB8 := Lib.hid (HB7.out.trans (h2.below HB7.out.size (by simp; omega)))
              clear h1 h2
              go_wp2
              go_roundw
              case rel => exact ⟨k + 1, by go_num, hlt, HU7.out, HB8.out⟩
              case measure => simp [intOf] <;> omega
            · have hlt' : ¬ (k : Int) < (a.size : Int) := by omega
              have HE3 := Lib.hid (uend_walk ub (urow (a.data.toList.take k)) wr hua)
              generalize urow (a.data.toList.take k) = ru at *
              clear hua hbr
              unfold uendE uendR at HE3
              by_cases h4 : ru.n = 4
              · rw [if_pos h4, if_pos h4] at HE3
                go_wp2_with fail
                (with_reducible refine (HE3.out).mono ?_)
                rintro e w7 ⟨rfl, h1, h2⟩
                have HBX := Lib.hid (HB7.out.trans (h2.below HB7.out.size (by simp; omega)))
                clear h1 h2
                go_wp2_with fail
                (with_reducible refine (HENC.out _).mono ?_)
                rintro e w8 ⟨rfl, hb8⟩
                have HB8 := Lib.hid (HBX.out.trans (hb8.mono HBX.out.size))
                clear hb8
                go_wp2_with fail
                (with_reducible refine (five_walk _).mono ?_)
                rintro e w9 ⟨rfl, hb9⟩
                have HB9 := Lib.hid (HB8.out.trans (hb9.mono HB8.out.size))
                clear hb9
                go_wp2
                go_ret
                exact ⟨rfl, HB9.out⟩
              · rw [if_neg h4, if_neg h4] at HE3
                go_wp2_with fail
                (with_reducible refine (HE3.out).mono ?_)
                rintro e w7 ⟨rfl, h1, h2⟩
                have HU8 := Lib.hid h1
                have HB8 := Lib.hid (HB7.out.trans (h2.below HB7.out.size (by simp; omega)))
                clear h1 h2
                go_wp2_with fail
                obtain ⟨wo3, rfl⟩ : ∃ wo : World, wo = wr := ⟨_, rfl⟩
                clear hlt hlt' hk h4
                go_loopw [82] (fun i wr => ∃ k : Nat, i = .int .i64 k ∧ k ≤ b.size ∧ UAt wr ub (urow (b.data.toList.take k)) ∧ Below w.heap.size w wr) (fun i _ => b.size - (intOf i).toNat)
                case atStart => exact ⟨0, rfl, Nat.zero_le _, HU8.out, HB8.out⟩
                case round =>
                  obtain ⟨k, rfl, hk, hua, hbr⟩ := hrel
                  have HB9 := Lib.hid hbr
                  by_cases hlt : k < b.size
                  · have hlt' : (k : Int) < (b.size : Int) := by omega
                    have htm := take_more (bget b k hlt)
                    have HP := Lib.hid (uput_walk ub (urow (b.data.toList.take k)) b[k] wr hua (urow_bd _))
                    have HRW := Lib.hid (show urow (b.data.toList.take (k + 1)) = (uput (urow (b.data.toList.take k)) b[k]).r by rw [htm]; exact urow_snoc _ _)
                    have HLR := Lib.hid (lastR_succ b k hlt)
                    have hkb : (k : Int) ≤ 60 := by have := HLB.out; omega
                    clear htm hua hbr
                    generalize hup : uput (urow (b.data.toList.take k)) b[k] = up at *
                    obtain ⟨us, uerr, ur⟩ := up
                    simp only at HP HRW
                    clear hup
                    go_wp2_with fail
                    (with_reducible refine (HP.out).mono ?_)
                    rintro e w8 ⟨rfl, h1, h2⟩
                    have HU9 := Lib.hid (show UAt w8 ub (urow (b.data.toList.take (k + 1))) by rw [HRW.out]; exact h1)
                    have HBA := Lib.hid (HB9.out.trans (h2.below HB9.out.size (by simp; omega)))
                    have HV := Lib.hid (newUnpacker_walk w8)
                    have huv : ub < w8.heap.size := Has.lt h1
                    clear h1 h2
                    generalize hv0 : w8.heap.size = vb at *
                    go_wp2_with fail
                    (with_reducible refine (HV.out).mono ?_)
                    rintro e w9 ⟨rfl, h1, h2⟩
                    have HV9 := Lib.hid h1
                    have HU10 := Lib.hid (show UAt w9 ub (urow (b.data.toList.take (k + 1))) from Has.below HU9.out (hv0 ▸ h2) (by omega))
                    have HBB := Lib.hid (HBA.out.trans (h2.mono (by omega)))
                    clear h1 h2 hv0
                    go_wp2_with fail
                    obtain ⟨wo4, rfl⟩ : ∃ wo : World, wo = wr := ⟨_, rfl⟩
                    go_loopw [96, 15, 16] (fun i t f wr => ∃ j : Nat, i = .int .i64 j ∧ j ≤ k + 1 ∧ t = .string (Fr.bs (lastR b.data.toList j).s) ∧ f = .int .i64 (lastR b.data.toList j).err ∧ UAt wr vb (urow (b.data.toList.take j)) ∧ UAt wr ub (urow (b.data.toList.take (k + 1))) ∧ Below w.heap.size w wr) (fun i _ _ _ => k + 1 - (intOf i).toNat)
                    case atStart => exact ⟨0, rfl, Nat.zero_le _, rfl, rfl, HV9.out, HU10.out, HBB.out⟩
                    case round =>
                      obtain ⟨j, rfl, hj, rfl, rfl, hva, hua, hbr⟩ := hrel
                      have HBC := Lib.hid hbr
                      have HUA := Lib.hid hua
                      by_cases hjl : j < k + 1
                      · have hjl' : (j : Int) < (k : Int) + 1 := by omega
                        have hjb : j < b.size := by omega
                        have hjb' : (j : Int) < (b.size : Int) := by omega
                        have htm := take_more (bget b j hjb)
                        have HP2 := Lib.hid (uput_walk vb (urow (b.data.toList.take j)) b[j] wr hva (urow_bd _))
                        have HRW2 := Lib.hid (show urow (b.data.toList.take (j + 1)) = (uput (urow (b.data.toList.take j)) b[j]).r by rw [htm]; exact urow_snoc _ _)
                        have HLR2 := Lib.hid (lastR_succ b j hjb)
                        rw [← HLR2.out] at HP2 HRW2
                        clear htm hva hua hbr
                        go_wp2_with fail
                        (with_reducible refine (HP2.out).mono ?_)
                        rintro e wa ⟨rfl, h1, h2⟩
                        have HV2 := Lib.hid (show UAt wa vb (urow (b.data.toList.take (j + 1))) by rw [HRW2.out]; exact h1)
                        have HU2 := Lib.hid (show UAt wa ub (urow (b.data.toList.take (k + 1))) from Has.chg HUA.out h2 (by simp; omega))
                        have HBD := Lib.hid (HBC.out.trans (h2.below HBC.out.size (by simp; omega)))
                        clear h1 h2
                        go_wp2
                        go_roundw
                        case rel => exact ⟨j + 1, by go_num, hjl, rfl, rfl, HV2.out, HU2.out, HBD.out⟩
                        case measure => simp [intOf] <;> omega
                      · have hjl' : ¬ (j : Int) < (k : Int) + 1 := by omega
                        obtain rfl : j = k + 1 := by omega
                        rw [HLR.out]
                        clear hva hua hbr
                        by_cases he : uerr = 0
                        · subst he
                          go_wp2
                          go_roundw
                          case rel => exact ⟨k + 1, by go_num, hlt, HUA.out, HBC.out⟩
                          case measure => simp [intOf] <;> omega
                        · have he' : (uerr == 0) = false := by simpa using he
                          have HBX := Lib.hid HBC.out
                          go_wp2_with fail
                          (with_reducible refine (HENC.out _).mono ?_)
                          rintro e w8 ⟨rfl, hb8⟩
                          have HB8 := Lib.hid (HBX.out.trans (hb8.mono HBX.out.size))
                          clear hb8
                          go_wp2_with fail
                          (with_reducible refine (five_walk _).mono ?_)
                          rintro e w9 ⟨rfl, hb9⟩
                          have HB9 := Lib.hid (HB8.out.trans (hb9.mono HB8.out.size))
                          clear hb9
                          go_wp2
                          go_ret
                          exact ⟨rfl, HB9.out⟩
                  · have hlt' : ¬ (k : Int) < (b.size : Int) := by omega
                    have HBX := Lib.hid hbr
                    clear hua hbr
                    go_wp2_with fail
                    (with_reducible refine (HENC.out _).mono ?_)
                    rintro e w8 ⟨rfl, hb8⟩
                    have HB8 := Lib.hid (HBX.out.trans (hb8.mono HBX.out.size))
                    clear hb8
                    go_wp2_with fail
                    (with_reducible refine (five_walk _).mono ?_)
                    rintro e w9 ⟨rfl, hb9⟩
                    have HB9 := Lib.hid (HB8.out.trans (hb9.mono HB8.out.size))
                    clear hb9
                    go_wp2
                    go_ret
                    exact ⟨rfl, HB9.out⟩

set_option maxRecDepth 100000 in
set_option maxHeartbeats 800000 in
theorem feedAnew_walk (a b : ByteArray) (w : World) (_ : a.size ≤ maxLen) (_ : b.size ≤ maxLen) :
    Calls Try.prog 6 #[.string a, .string b] w fun e w' => e = .returned (.bool true) ∧ Below w.heap.size w w' := by
  by_cases hla : 60 < a.size
  · have h1 : decide ((60 : Int) < (a.size : Int)) = true := by simp; omega
    clear hla
    go_enter Try.func6, Try.ntmps6
    go_wp2_with fail
    (with_reducible refine (five_walk _).mono ?_)
    rintro e w1 ⟨rfl, hb1⟩
    go_wp2
    go_ret
    exact ⟨rfl, hb1⟩
  · by_cases hlb : 60 < b.size
    · have h1 : decide ((60 : Int) < (a.size : Int)) = false := by simp; omega
      have h2 : decide ((60 : Int) < (b.size : Int)) = true := by simp; omega
      clear hla hlb
      go_enter Try.func6, Try.ntmps6
      go_wp2_with fail
      (with_reducible refine (five_walk _).mono ?_)
      rintro e w1 ⟨rfl, hb1⟩
      go_wp2
      go_ret
      exact ⟨rfl, hb1⟩
    · exact feedAnew_in a b w hla hlb
end Go.Proofs.Ytohdifhleeonpaa

