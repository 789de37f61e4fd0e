/- The laws' small case; nil packers. -/
import Derived.Test.YtohdifhleeonpaaFeedWalk2
namespace Go.Proofs.Ytohdifhleeonpaa
open Go.RowKit
set_option linter.unusedVariables false
set_option linter.unusedSimpArgs false

theorem take_more {l : List UInt8} {k : Nat} {c : UInt8} (h : l[k]? = some c) : l.take (k + 1) = l.take k ++ [c] := by
  rw [List.take_add_one, h]; rfl
def five_a : List UInt8 := [97, 97, 97, 97, 97, 98]
def five_b : List UInt8 := [97, 97, 97, 97, 1]
theorem five_ia : ∀ (k : Nat), k < 6 → ∃ c : UInt8, five_a[k]? = some c ∧ ∀ w, (Instr.index 9 (.string ⟨#[97, 97, 97, 97, 97, 98]⟩) (.int .i64 (k : Int))).run Try.prog w = .ok (.int .u8 (c.toNat : Int)) w
  | 0, _ => ⟨97, rfl, fun w => by kernel_rfl⟩
  | 1, _ => ⟨97, rfl, fun w => by kernel_rfl⟩
  | 2, _ => ⟨97, rfl, fun w => by kernel_rfl⟩
  | 3, _ => ⟨97, rfl, fun w => by kernel_rfl⟩
  | 4, _ => ⟨97, rfl, fun w => by kernel_rfl⟩
  | 5, _ => ⟨98, rfl, fun w => by kernel_rfl⟩
  | n + 6, h => by omega
theorem five_ib : ∀ (k : Nat), k < 5 → ∃ c : UInt8, five_b[k]? = some c ∧ (∃ v, Rl.ust (five_b.take (k + 1)) = some v) ∧ ∀ w, (Instr.index 9 (.string ⟨#[97, 97, 97, 97, 1]⟩) (.int .i64 (k : Int))).run Try.prog w = .ok (.int .u8 (c.toNat : Int)) w
  | 0, _ => ⟨97, rfl, ⟨_, rfl⟩, fun w => by kernel_rfl⟩
  | 1, _ => ⟨97, rfl, ⟨_, rfl⟩, fun w => by kernel_rfl⟩
  | 2, _ => ⟨97, rfl, ⟨_, rfl⟩, fun w => by kernel_rfl⟩
  | 3, _ => ⟨97, rfl, ⟨_, rfl⟩, fun w => by kernel_rfl⟩
  | 4, _ => ⟨1, rfl, ⟨_, rfl⟩, fun w => by kernel_rfl⟩
  | n + 5, h => by omega
theorem five_1 : Fr.bs (Rl.sureB five_a) = ⟨#[97, 97, 97, 97, 1]⟩ ∧ Fr.bs (Rl.endB (Rl.rowOf five_a)) = ⟨#[98]⟩ := ⟨by kernel_rfl, by kernel_rfl⟩
theorem five_2 : ∃ u, Rl.ust five_b = some u ∧ Fr.bs u.out = ⟨#[97, 97, 97, 97, 97]⟩ ∧ u.r = Rl.row0 := ⟨_, rfl, by kernel_rfl, by kernel_rfl⟩
/-- a step of an unpacker that has no fault -/
theorem ust_yes {l : List UInt8} {c : UInt8} {u v : Rl.Un} (h : Rl.ust l = some u) (hv : Rl.ust (l ++ [c]) = some v) : (uput u.r c).err = 0 ∧ v = ⟨(uput u.r c).r, u.out ++ (uput u.r c).s⟩ := by
  rw [Rl.ust_snoc l c u h, uput_step] at hv
  split at hv
  · exact ⟨‹_›, (Option.some.inj hv).symm⟩
  · cases hv
theorem sure_len (l : List UInt8) : (Rl.sureB l).length ≤ 5 * l.length := by
  have h1 := Rl.sureB_end l
  have h2 := Rl.enc_small l
  have h3 : (Rl.sureB l).length ≤ (Rl.enc l).length := by rw [← h1, List.length_append]; omega
  omega
theorem putB_len (r : Rl.Pc) (c : UInt8) : (Rl.putB r c).length ≤ 5 := by
  unfold Rl.putB Rl.pput
  split
  · simpa using Rl.text_le r
  · split
    · simpa using Rl.text_le ⟨c, 255⟩
    · exact Nat.zero_le _
theorem usteps_len : ∀ (l : List UInt8) (u v : Rl.Un), Rl.usteps u l = some v → v.out.length ≤ u.out.length + 255 * l.length
  | [], u, v, h => by cases h; simp
  | c :: l, u, v, h => by
    rw [Rl.usteps_cons] at h
    cases hs : Rl.ustep u c with
    | none => rw [hs] at h; cases h
    | some x =>
      rw [hs] at h
      have h1 := usteps_len l x v h
      rw [uput_step] at hs
      split at hs
      · have := Option.some.inj hs
        subst this
        have hc := c.toNat_lt
        have h2 : (uput u.r c).s.length ≤ 255 := by
          unfold uput
          split
          · split
            · simp
            · rw [List.length_replicate]; omega
          · split <;> simp
        simp only [List.length_append] at h1
        rw [List.length_cons]; omega
      · cases hs
theorem ust_len (l : List UInt8) (v : Rl.Un) (h : Rl.ust l = some v) : v.out.length ≤ 255 * l.length := by have := usteps_len l Rl.un0 v h; simpa [Rl.un0] using this

set_option maxRecDepth 100000 in
set_option maxHeartbeats 1600000 in
theorem five_walk (w : World) : Calls Try.prog 8 #[] w fun e w' => e = .returned (.bool true) ∧ Below w.heap.size w w' := by
  have H0 := Lib.hid (newPacker_walk w)
  go_enter Try.func8, Try.ntmps8
  go_wp2_with fail
  (with_reducible refine (H0.out).mono ?_)
  rintro e w1 ⟨rfl, hk1, hb1⟩
  have HK1 := Lib.hid hk1
  have HB1 := Lib.hid hb1
  clear hk1 hb1
  go_wp2_with fail
  go_loopw [10, 2] (fun i x wr => ∃ k : Nat, i = .int .i64 k ∧ k ≤ 6 ∧ x = .string (Fr.bs (Rl.sureB (five_a.take k))) ∧ KAt wr w.heap.size (Rl.rowOf (five_a.take k)) ∧ Below w.heap.size w wr) (fun i _ _ => 6 - (intOf i).toNat)
  case atStart => exact ⟨0, rfl, by decide, rfl, HK1.out, HB1.out⟩
  case round =>
    obtain ⟨k, rfl, hk, rfl, hka, hbr⟩ := hrel
    have HB := Lib.hid hbr
    have hlt0 : w.heap.size < wr.heap.size := Has.lt hka
    by_cases hlt : k < 6
    · have hlt' : (k : Int) < 6 := by omega
      obtain ⟨c, hc, hidx⟩ := five_ia k hlt
      have htk := take_more hc
      have hsl := sure_len (five_a.take k)
      have htl : (five_a.take k).length ≤ k := List.length_take_le _ _
      have HP := Lib.hid (put_walk w.heap.size (Rl.rowOf (five_a.take k)) c wr hka (Rl.rowOf_bd _).1)
      have hpl := putB_len (Rl.rowOf (five_a.take k)) c
      have HR := Lib.hid (show Rl.rowOf (five_a.take (k + 1)) = (Rl.pput (Rl.rowOf (five_a.take k)) c).2 by rw [htk]; exact (Rl.put_row _ c).2)
      have HS := Lib.hid (show Fr.bs (Rl.sureB (five_a.take (k + 1))) = Fr.bs (Rl.sureB (five_a.take k)) ++ Fr.bs (Rl.putB (Rl.rowOf (five_a.take k)) c) by rw [htk, Rl.sureB_put, bs_app])
      have hz1 := bs_size (Rl.sureB (five_a.take k))
      have hz2 := bs_size (Rl.putB (Rl.rowOf (five_a.take k)) c)
      generalize Fr.bs (Rl.sureB (five_a.take k)) = S at *
      generalize Fr.bs (Rl.putB (Rl.rowOf (five_a.take k)) c) = T at *
      have hcat : S.size + T.size ≤ 1000 := by omega
      clear htk hc hz1 hz2 hsl hpl hka hbr
      go_wp2_with fail
      (with_reducible refine (HP.out).mono ?_)
      rintro e w2 ⟨rfl, h1, h2⟩
      have H1 := Lib.hid h1
      have H2 := Lib.hid (HB.out.trans (h2.below HB.out.size (by simp)))
      clear h1 h2
      go_wp2
      go_roundw
      case rel => exact ⟨k + 1, by go_num, hlt, by rw [HS.out], by rw [HR.out]; exact H1.out, H2.out⟩
      case measure => simp [intOf]; omega
    · have hlt' : ¬ (k : Int) < 6 := by omega
      obtain rfl : k = 6 := by omega
      have HE := Lib.hid (fun w' h => pend_walk w.heap.size (Rl.rowOf five_a) w' h (by have := (Rl.rowOf_bd five_a).1; omega))
      rw [five_1.2] at HE
      rw [show five_a.take 6 = five_a from rfl] at hka ⊢
      rw [five_1.1]
      have HKA := Lib.hid hka
      have HU := Lib.hid (newUnpacker_walk wr)
      clear hka hbr
      go_wp2_with fail
      (with_reducible refine (HU.out).mono ?_)
      rintro e w2 ⟨rfl, hu2, hb2⟩
      have HU2 := Lib.hid hu2
      have HK2 := Lib.hid (show KAt w2 w.heap.size (Rl.rowOf five_a) from Has.below HKA.out hb2 (Has.lt HKA.out))
      have HB2 := Lib.hid (HB.out.trans (hb2.mono HB.out.size))
      clear hu2 hb2
      go_wp2_with fail
      obtain ⟨wo, rfl⟩ : ∃ wo : World, wo = wr := ⟨_, rfl⟩
      generalize hub : wo.heap.size = ub at *
      have hne : w.heap.size < ub := by omega
      clear hub
      go_loopw [21, 5] (fun i x wr => ∃ (k : Nat) (u : Rl.Un), i = .int .i64 k ∧ k ≤ 5 ∧ Rl.ust (five_b.take k) = some u ∧ x = .string (Fr.bs u.out) ∧ UAt wr ub u.r ∧ KAt wr w.heap.size (Rl.rowOf five_a) ∧ Below w.heap.size w wr) (fun i _ _ => 5 - (intOf i).toNat)
      case atStart => exact ⟨0, Rl.un0, rfl, by decide, rfl, rfl, HU2.out, HK2.out, HB2.out⟩
      case round =>
        obtain ⟨k, u, rfl, hk, hu, rfl, hua, hka, hbr⟩ := hrel
        have HBR := Lib.hid hbr
        have HKA3 := Lib.hid hka
        by_cases hlt : k < 5
        · have hlt' : (k : Int) < 5 := by omega
          obtain ⟨c, hc, ⟨v, hv⟩, hidx⟩ := five_ib k hlt
          have hv0 := hv
          rw [take_more hc] at hv
          obtain ⟨he, hvv⟩ := ust_yes hu hv
          have hrow := Rl.ust_row _ _ hu
          have HP := Lib.hid (uput_walk ub u.r c wr hua hrow)
          rw [he] at HP
          have hl1 := ust_len _ _ hv0
          have htl : (five_b.take (k + 1)).length ≤ k + 1 := List.length_take_le _ _
          rw [hvv] at hl1
          simp only [List.length_append] at hl1
          have HS := Lib.hid (show Fr.bs v.out = Fr.bs u.out ++ Fr.bs (uput u.r c).s by rw [hvv, bs_app])
          have HVR := Lib.hid (show (uput u.r c).r = v.r by rw [hvv])
          have HV := Lib.hid hv0
          have hz1 := bs_size u.out
          have hz2 := bs_size (uput u.r c).s
          generalize Fr.bs u.out = S at *
          generalize Fr.bs (uput u.r c).s = T at *
          have hcat : S.size + T.size ≤ 10000 := by omega
          clear hz1 hz2 hl1 hc hv hv0 hvv hua hka hbr he hu
          go_wp2_with fail
          (with_reducible refine (HP.out).mono ?_)
          rintro e w3 ⟨rfl, h1, h2⟩
          rw [HVR.out] at h1
          have H1 := Lib.hid h1
          have H2 := Lib.hid (HBR.out.trans (h2.below HBR.out.size (by simp; omega)))
          have H3 := Lib.hid (show KAt w3 w.heap.size (Rl.rowOf five_a) from Has.chg HKA3.out h2 (by simp; omega))
          clear h1 h2
          go_wp2
          go_roundw
          case rel => exact ⟨k + 1, v, by go_num, hlt, HV.out, by rw [HS.out], H1.out, H3.out, H2.out⟩
          case measure => simp [intOf]; omega
        · have hlt' : ¬ (k : Int) < 5 := by omega
          obtain rfl : k = 5 := by omega
          obtain ⟨u2, h1, h2, h3⟩ := five_2
          rw [show five_b.take 5 = five_b from rfl, h1] at hu
          obtain rfl := Option.some.inj hu
          rw [h2]
          have HW := Lib.hid (fun w h => uwants_walk ub u2.r w h)
          rw [h3] at HW hua
          have HUA := Lib.hid hua
          clear hua hka hbr hu h1 h2 h3
          go_wp2_with fail
          (with_reducible refine (HE.out _ HKA3.out).mono ?_)
          rintro e w3 ⟨rfl, h1, h2⟩
          have H2 := Lib.hid (HBR.out.trans (h2.below HBR.out.size (by simp)))
          have H3 := Lib.hid (show UAt w3 ub Rl.row0 from Has.chg HUA.out h2 (by simp; omega))
          clear h1 h2
          go_wp2_with fail
          (with_reducible refine (HW.out _ H3.out).mono ?_)
          rintro e w4 ⟨rfl, rfl⟩
          go_wp2
          go_ret
          exact ⟨rfl, H2.out⟩

set_option maxRecDepth 100000 in
set_option maxHeartbeats 800000 in
theorem feedNil_walk (c : Int) (w : World) (_ : (Lit.int .u8 c).wf = true) :
    Calls Try.prog 7 #[.int .u8 c] w fun e w' => e = .returned (.bool true) ∧ Below w.heap.size w w' := by
  go_enter Try.func7, Try.ntmps7
  go_wp2_with fail
  (with_reducible refine (uput_nil c _).mono ?_)
  rintro e w1 ⟨rfl, rfl⟩
  go_wp2_with fail
  (with_reducible refine (put_nil c _).mono ?_)
  rintro e w1 ⟨rfl, rfl⟩
  go_wp2_with fail
  (with_reducible refine (pend_nil _).mono ?_)
  rintro e w1 ⟨rfl, rfl⟩
  go_wp2_with fail
  (with_reducible refine (prow_nil _).mono ?_)
  rintro e w2 ⟨rfl, hb2⟩
  have K2 := Lib.hid hb2
  clear hb2
  go_wp2_with fail
  (with_reducible refine (uend_nil _).mono ?_)
  rintro e w1 ⟨rfl, rfl⟩
  go_wp2_with fail
  (with_reducible refine (uwants_nil _).mono ?_)
  rintro e w1 ⟨rfl, rfl⟩
  go_wp2_with fail
  (with_reducible refine (five_walk _).mono ?_)
  rintro e w3 ⟨rfl, hb3⟩
  have K3 := Lib.hid (K2.out.trans (hb3.mono K2.out.size))
  clear hb3
  go_wp2
  go_ret
  exact ⟨rfl, K3.out⟩
end Go.Proofs.Ytohdifhleeonpaa
