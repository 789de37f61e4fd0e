/- The law of back and forth. (Printed by gen_feedback.py.) -/
import Derived.Test.YtohdifhleeonpaaFeedLaw2
namespace Go.Proofs.Ytohdifhleeonpaa
open Go.RowKit
set_option linter.unusedVariables false
set_option linter.unusedSimpArgs false

theorem ust_pre {a b : List UInt8} {v : Rl.Un} (h : Rl.ust (a ++ b) = some v) : ∃ u, Rl.ust a = some u := by
  cases ha : Rl.ust a with
  | none => rw [Rl.ust_none a b ha] at h; cases h
  | some u => exact ⟨u, rfl⟩
/-- what was told ahead of byte k, and then all; the row then -/
def told_k (l : List UInt8) (k : Nat) : List UInt8 := if k ≤ l.length then Rl.sureB (l.take k) else Rl.enc l
def row_k (l : List UInt8) (k : Nat) : Rl.Pc := if k ≤ l.length then Rl.rowOf (l.take k) else Rl.row0
theorem told_0 (l : List UInt8) : told_k l 0 = [] ∧ row_k l 0 = Rl.row0 := by
  unfold told_k row_k
  rw [if_pos (Nat.zero_le _), if_pos (Nat.zero_le _)]
  exact ⟨rfl, rfl⟩
theorem told_put (l : List UInt8) (k : Nat) (c : UInt8) (h : l[k]? = some c) : told_k l (k + 1) = told_k l k ++ Rl.putB (row_k l k) c ∧ row_k l (k + 1) = (Rl.pput (row_k l k) c).2 := by
  have hk : k < l.length := (List.getElem?_eq_some_iff.1 h).1
  unfold told_k row_k
  simp only [if_pos (show k + 1 ≤ l.length from hk), if_pos (Nat.le_of_lt hk)]
  rw [take_more h]
  exact ⟨Rl.sureB_put _ _, (Rl.put_row _ _).2⟩
theorem told_end (l : List UInt8) : told_k l (l.length + 1) = told_k l l.length ++ Rl.endB (row_k l l.length) ∧ row_k l (l.length + 1) = Rl.row0 := by
  unfold told_k row_k
  simp only [if_neg (show ¬ l.length + 1 ≤ l.length by omega), if_pos (Nat.le_refl l.length), List.take_length]
  exact ⟨(Rl.sureB_end l).symm, trivial⟩
theorem sure_pre (l : List UInt8) : ∀ (m : List UInt8), ∃ r, Rl.sureB (l ++ m) = Rl.sureB l ++ r := by
  intro m
  induction m generalizing l with
  | nil => exact ⟨[], by simp⟩
  | cons c m ih =>
    obtain ⟨r, hr⟩ := ih (l ++ [c])
    rw [List.append_assoc] at hr
    exact ⟨Rl.putB (Rl.rowOf l) c ++ r, by rw [show l ++ c :: m = l ++ ([c] ++ m) from rfl, hr, Rl.sureB_put, List.append_assoc]⟩
theorem enc_pre (l : List UInt8) (k : Nat) : ∃ r, Rl.enc l = told_k l k ++ r := by
  unfold told_k
  split
  · obtain ⟨r, hr⟩ := sure_pre (l.take k) (l.drop k)
    rw [List.take_append_drop] at hr
    exact ⟨r ++ Rl.endB (Rl.rowOf l), by rw [← Rl.sureB_end l, hr, List.append_assoc]⟩
  · exact ⟨[], by simp⟩
theorem enc_ust (l : List UInt8) : ∃ u, Rl.ust (Rl.enc l) = some u ∧ u.out = l ∧ u.r.n ≠ 4 := by
  have h := Rl.dec_enc l
  rw [Rl.dec_ust] at h
  cases hu : Rl.ust (Rl.enc l) with
  | none => rw [hu] at h; exact absurd (show (25 : Int) = 0 from congrArg Prod.snd h) (by decide)
  | some u =>
    rw [hu, Rl.ufin_some] at h
    by_cases h4 : u.r.n = 4
    · rw [if_pos h4] at h; exact absurd (show (24 : Int) = 0 from congrArg Prod.snd h) (by decide)
    · rw [if_neg h4] at h; exact ⟨u, rfl, congrArg Prod.fst h, h4⟩
structure BkAt (w wr : World) (ub : Nat) (r : Rl.Pc) (u : Rl.Pc) : Prop where
  kt : KAt wr w.heap.size r
  ut : UAt wr ub u
  bl : Below w.heap.size w wr
  lt : w.heap.size < ub
theorem BkAt.put {w wr w' : World} {ub : Nat} {r u q : Rl.Pc} (h : BkAt w wr ub r u) (hk : KAt w' w.heap.size q) (c : Chg [w.heap.size] wr w') : BkAt w w' ub q u :=
  ⟨hk, Has.chg h.ut c (by have := h.lt; simp; omega), h.bl.trans (c.below h.bl.size (by simp)), h.lt⟩
theorem BkAt.uput {w wr w' : World} {ub : Nat} {r u q : Rl.Pc} (h : BkAt w wr ub r u) (hk : UAt w' ub q) (c : Chg [ub] wr w') : BkAt w w' ub r q :=
  ⟨Has.chg h.kt c (by have := h.lt; simp; omega), hk, h.bl.trans (c.below h.bl.size (by have := h.lt; simp; omega)), h.lt⟩

set_option maxRecDepth 100000 in
set_option maxHeartbeats 4000000 in
theorem feedBack_in (s : ByteArray) (w : World) (hl : ¬ 600 < s.size) :
    Calls Try.prog 5 #[.string s] w fun e w' => e = .returned (.bool true) ∧ Below w.heap.size w w' := by
  have hl' : ¬ (600 : Int) < (s.size : Int) := by omega
  have HL := Lib.hid hl
  have H0 := Lib.hid (newPacker_walk w)
  have HALL := Lib.hid (enc_ust s.data.toList)
  replace HALL := Lib.hid (show ∃ z, Rl.ust (Rl.enc s.data.toList) = some z from by obtain ⟨z, hz, _⟩ := HALL.out; exact ⟨z, hz⟩)
  clear hl
  go_enter Try.func5, Try.ntmps5
  go_wp2_with fail
  (with_reducible refine (H0.out).mono ?_)
  rintro e w1 ⟨rfl, hk1, hb1⟩
  have HU0 := Lib.hid (newUnpacker_walk w1)
  have hub : w.heap.size < w1.heap.size := Has.lt hk1
  have HK1 := Lib.hid hk1
  have HB1 := Lib.hid hb1
  clear hk1 hb1
  generalize hu0 : w1.heap.size = ub at *
  go_wp2_with fail
  (with_reducible refine (HU0.out).mono ?_)
  rintro e w2 ⟨rfl, hu2, hb2⟩
  have HA0 := Lib.hid (show BkAt w w2 ub Rl.row0 Rl.row0 from ⟨Has.below HK1.out (hu0 ▸ hb2) hub, hu2, HB1.out.trans (hb2.mono (by omega)), hub⟩)
  clear hu2 hb2 hu0
  go_wp2_with fail
  go_loopw [20, 5] (fun i x wr => ∃ (k : Nat) (u : Rl.Un), i = .int .i64 k ∧ k ≤ s.size + 1 ∧ Rl.ust (told_k s.data.toList k) = some u ∧ x = .string (Fr.bs u.out) ∧ BkAt w wr ub (row_k s.data.toList k) u.r) (fun i _ _ => s.size + 1 - (intOf i).toNat)
  case atStart => exact ⟨0, Rl.un0, rfl, Nat.zero_le _, by rw [(told_0 _).1]; rfl, rfl, by rw [(told_0 _).2]; exact HA0.out⟩
  case round =>
    obtain ⟨k, u, rfl, hk, hu, rfl, hat⟩ := hrel
    have HA := Lib.hid hat
    have HU := Lib.hid hu
    by_cases hlt : k < s.size + 1
    · have hlt' : (k : Int) < (s.size : Int) + 1 := by omega
      by_cases hks : k < s.size
      · have hks' : (k : Int) < (s.size : Int) := by omega
        obtain ⟨e1, e2⟩ := told_put s.data.toList k s[k] (bget s k hks)
        have HE2 := Lib.hid e1
        have HR2 := Lib.hid e2
        have hr255 : (row_k s.data.toList k).n < 255 := by
          unfold row_k
          split
          · exact (Rl.rowOf_bd _).1
          · decide
        have HP := Lib.hid (put_walk w.heap.size (row_k s.data.toList k) s[k] wr hat.kt hr255)
        generalize hE : told_k s.data.toList k = E at *
        generalize (Rl.pput (row_k s.data.toList k) s[k]).2 = R2 at *
        generalize Rl.putB (row_k s.data.toList k) s[k] = T at *
        have HPRE := Lib.hid (show ∀ j, ∃ x, Rl.ust (E ++ T.take j) = some x from fun j => by
          obtain ⟨z, hz⟩ := HALL.out
          obtain ⟨rest, hrest⟩ := enc_pre s.data.toList (k + 1)
          rw [HE2.out] at hrest
          have h1 : E ++ T.take j ++ (T.drop j ++ rest) = Rl.enc s.data.toList := by rw [hrest, List.append_assoc, List.append_assoc, ← List.append_assoc (T.take j), List.take_append_drop]
          rw [← h1] at hz
          exact ust_pre hz)
        have HEL := Lib.hid (show E.length + T.length ≤ 4000 by
          obtain ⟨rest, hrest⟩ := enc_pre s.data.toList (k + 1)
          have hsm := Rl.enc_small s.data.toList
          rw [llen] at hsm
          have := congrArg List.length hrest
          rw [HE2.out, List.length_append, List.length_append] at this
          have := HL.out
          omega)
        have HTL := Lib.hid (Fr.list_bs T)
        have HTS := Lib.hid (bs_size T)
        generalize Fr.bs T = t at *
        have hkb : (k : Int) ≤ 600 := by omega
        clear e1 e2 hat hE hu
        go_wp2_with fail
        (with_reducible refine (HP.out).mono ?_)
        rintro e w3 ⟨rfl, h1, h2⟩
        have HA2 := Lib.hid (HA.out.put h1 h2)
        clear h1 h2
        go_wp2_with fail
        obtain ⟨wo, rfl⟩ : ∃ wo : World, wo = wr := ⟨_, rfl⟩
        go_loopw [36, 5] (fun j x wr => ∃ (jn : Nat) (v : Rl.Un), j = .int .i64 jn ∧ jn ≤ T.length ∧ Rl.ust (E ++ T.take jn) = some v ∧ x = .string (Fr.bs v.out) ∧ BkAt w wr ub R2 v.r) (fun j _ _ => T.length - (intOf j).toNat)
        case atStart => exact ⟨0, u, rfl, Nat.zero_le _, by rw [List.take_zero, List.append_nil]; exact HU.out, rfl, HA2.out⟩
        case round =>
          obtain ⟨jn, v, rfl, hj, hv, rfl, hat2⟩ := hrel
          have HB2 := Lib.hid hat2
          have hrow2 := Rl.ust_row _ _ hv
          by_cases hjl : jn < T.length
          · have hjl' : (jn : Int) < (t.size : Int) := by rw [HTS.out]; omega
            have hjt : jn < t.size := by rw [HTS.out]; exact hjl
            have hc : T[jn]? = some t[jn] := by rw [← HTL.out]; exact bget t jn hjt
            have htm := take_more hc
            obtain ⟨x, hx⟩ := HPRE.out (jn + 1)
            have hx2 := hx
            rw [htm, ← List.append_assoc] at hx2
            obtain ⟨he, hvv⟩ := ust_yes hv hx2
            have HP := Lib.hid (uput_walk ub v.r t[jn] wr hat2.ut hrow2)
            rw [he] at HP
            have hol := ust_len _ _ hx
            rw [List.length_append] at hol
            have htk : (T.take (jn + 1)).length ≤ T.length := by rw [List.length_take]; omega
            rw [hvv] at hol
            simp only [List.length_append] at hol
            have HS := Lib.hid (show Fr.bs x.out = Fr.bs v.out ++ Fr.bs (uput v.r t[jn]).s by rw [hvv, bs_app])
            have HVR := Lib.hid (show (uput v.r t[jn]).r = x.r by rw [hvv])
            have HX := Lib.hid hx
            have hz1 := bs_size v.out
            have hz2 := bs_size (uput v.r t[jn]).s
            have hEl := HEL.out
            generalize Fr.bs v.out = S at *
            generalize Fr.bs (uput v.r t[jn]).s = T2 at *
            have hcat : S.size + T2.size ≤ 10000000 := by omega
            have hjb : (jn : Int) ≤ 100000 := by omega
            clear hz1 hz2 hol hc htm hx hx2 hvv hat2 he hv htk hEl
            go_wp2_with fail
            (with_reducible refine (HP.out).mono ?_)
            rintro e w3 ⟨rfl, h1, h2⟩
            rw [HVR.out] at h1
            have H3 := Lib.hid (HB2.out.uput h1 h2)
            clear h1 h2
            go_wp2
            go_roundw
            case rel => exact ⟨jn + 1, x, by go_num, hjl, HX.out, by rw [HS.out], H3.out⟩
            case measure => simp [intOf] <;> omega
          · have hjl' : ¬ (jn : Int) < (t.size : Int) := by rw [HTS.out]; omega
            rw [List.take_of_length_le (by omega)] at hv
            have HV := Lib.hid hv
            clear hv hat2
            go_wp2
            go_roundw
            case rel => exact ⟨k + 1, v, by go_num, by omega, by rw [HE2.out]; exact HV.out, rfl, by rw [HR2.out]; exact HB2.out⟩
            case measure => simp [intOf] <;> omega
      · have hks' : ¬ (k : Int) < (s.size : Int) := by omega
        obtain rfl : k = s.size := by omega
        obtain ⟨e1, e2⟩ := told_end s.data.toList
        rw [llen] at e1 e2
        have HE2 := Lib.hid e1
        have HR2 := Lib.hid e2
        have hr255 : (row_k s.data.toList s.size).n ≤ 255 := by
          unfold row_k
          split
          · have := (Rl.rowOf_bd (s.data.toList.take s.size)).1; omega
          · decide
        have HP := Lib.hid (pend_walk w.heap.size (row_k s.data.toList s.size) wr hat.kt hr255)
        obtain ⟨k, hk9⟩ : ∃ k, k = s.size := ⟨_, rfl⟩
        generalize hE : told_k s.data.toList s.size = E at *
        generalize Rl.endB (row_k s.data.toList s.size) = T at *
        obtain ⟨R2, hR2⟩ : ∃ R2, R2 = Rl.row0 := ⟨_, rfl⟩
        rw [← hR2] at HR2 HP
        have HPRE := Lib.hid (show ∀ j, ∃ x, Rl.ust (E ++ T.take j) = some x from fun j => by
          obtain ⟨z, hz⟩ := HALL.out
          obtain ⟨rest, hrest⟩ := enc_pre s.data.toList (s.size + 1)
          rw [HE2.out] at hrest
          have h1 : E ++ T.take j ++ (T.drop j ++ rest) = Rl.enc s.data.toList := by rw [hrest, List.append_assoc, List.append_assoc, ← List.append_assoc (T.take j), List.take_append_drop]
          rw [← h1] at hz
          exact ust_pre hz)
        have HEL := Lib.hid (show E.length + T.length ≤ 4000 by
          obtain ⟨rest, hrest⟩ := enc_pre s.data.toList (s.size + 1)
          have hsm := Rl.enc_small s.data.toList
          rw [llen] at hsm
          have := congrArg List.length hrest
          rw [HE2.out, List.length_append, List.length_append] at this
          have := HL.out
          omega)
        have HTL := Lib.hid (Fr.list_bs T)
        have HTS := Lib.hid (bs_size T)
        generalize Fr.bs T = t at *
        have hkb : (s.size : Int) ≤ 600 := by omega
        clear e1 e2 hat hE hu hR2 hk9
        go_wp2_with fail
        (with_reducible refine (HP.out).mono ?_)
        rintro e w3 ⟨rfl, h1, h2⟩
        have HA2 := Lib.hid (HA.out.put h1 h2)
        clear h1 h2
        go_wp2_with fail
        obtain ⟨wo, rfl⟩ : ∃ wo : World, wo = wr := ⟨_, rfl⟩
        go_loopw [36, 5] (fun j x wr => ∃ (jn : Nat) (v : Rl.Un), j = .int .i64 jn ∧ jn ≤ T.length ∧ Rl.ust (E ++ T.take jn) = some v ∧ x = .string (Fr.bs v.out) ∧ BkAt w wr ub R2 v.r) (fun j _ _ => T.length - (intOf j).toNat)
        case atStart => exact ⟨0, u, rfl, Nat.zero_le _, by rw [List.take_zero, List.append_nil]; exact HU.out, rfl, HA2.out⟩
        case round =>
          obtain ⟨jn, v, rfl, hj, hv, rfl, hat2⟩ := hrel
          have HB2 := Lib.hid hat2
          have hrow2 := Rl.ust_row _ _ hv
          by_cases hjl : jn < T.length
          · have hjl' : (jn : Int) < (t.size : Int) := by rw [HTS.out]; omega
            have hjt : jn < t.size := by rw [HTS.out]; exact hjl
            have hc : T[jn]? = some t[jn] := by rw [← HTL.out]; exact bget t jn hjt
            have htm := take_more hc
            obtain ⟨x, hx⟩ := HPRE.out (jn + 1)
            have hx2 := hx
            rw [htm, ← List.append_assoc] at hx2
            obtain ⟨he, hvv⟩ := ust_yes hv hx2
            have HP := Lib.hid (uput_walk ub v.r t[jn] wr hat2.ut hrow2)
            rw [he] at HP
            have hol := ust_len _ _ hx
            rw [List.length_append] at hol
            have htk : (T.take (jn + 1)).length ≤ T.length := by rw [List.length_take]; omega
            rw [hvv] at hol
            simp only [List.length_append] at hol
            have HS := Lib.hid (show Fr.bs x.out = Fr.bs v.out ++ Fr.bs (uput v.r t[jn]).s by rw [hvv, bs_app])
            have HVR := Lib.hid (show (uput v.r t[jn]).r = x.r by rw [hvv])
            have HX := Lib.hid hx
            have hz1 := bs_size v.out
            have hz2 := bs_size (uput v.r t[jn]).s
            have hEl := HEL.out
            generalize Fr.bs v.out = S at *
            generalize Fr.bs (uput v.r t[jn]).s = T2 at *
            have hcat : S.size + T2.size ≤ 10000000 := by omega
            have hjb : (jn : Int) ≤ 100000 := by omega
            clear hz1 hz2 hol hc htm hx hx2 hvv hat2 he hv htk hEl
            go_wp2_with fail
            (with_reducible refine (HP.out).mono ?_)
            rintro e w3 ⟨rfl, h1, h2⟩
            rw [HVR.out] at h1
            have H3 := Lib.hid (HB2.out.uput h1 h2)
            clear h1 h2
            go_wp2
            go_roundw
            case rel => exact ⟨jn + 1, x, by go_num, hjl, HX.out, by rw [HS.out], H3.out⟩
            case measure => simp [intOf] <;> omega
          · have hjl' : ¬ (jn : Int) < (t.size : Int) := by rw [HTS.out]; omega
            rw [List.take_of_length_le (by omega)] at hv
            have HV := Lib.hid hv
            clear hv hat2
            go_wp2
            go_roundw
            case rel => exact ⟨s.size + 1, v, by go_num, by omega, by rw [HE2.out]; exact HV.out, rfl, by rw [HR2.out]; exact HB2.out⟩
            case measure => simp [intOf] <;> omega
    · have hlt' : ¬ (k : Int) < (s.size : Int) + 1 := by omega
      obtain rfl : k = s.size + 1 := by omega
      have hto : told_k s.data.toList (s.size + 1) = Rl.enc s.data.toList := by unfold told_k; rw [llen, if_neg (by omega)]
      obtain ⟨z, hz1, hz2, hz4⟩ := enc_ust s.data.toList
      rw [hto, hz1] at hu
      obtain rfl := Option.some.inj hu
      have HX := Lib.hid (show Fr.bs z.out = s by rw [hz2]; exact Fr.bs_list s)
      have HE := Lib.hid (fun b w h => uend_walk b z.r w h)
      have hue : uendE z.r = 0 := by unfold uendE; rw [if_neg hz4]
      rw [hue] at HE
      rw [HX.out]
      clear hu hz1 hz2 hz4 hto hue hat HU
      go_wp2_with fail
      (with_reducible refine (HE.out _ _ HA.out.ut).mono ?_)
      rintro e w3 ⟨rfl, h1, h2⟩
      have H3 := Lib.hid (HA.out.uput h1 h2)
      clear h1 h2
      go_wp2_with fail
      (with_reducible refine (five_walk _).mono ?_)
      rintro e w4 ⟨rfl, hb4⟩
      have HB4 := Lib.hid (H3.out.bl.trans (hb4.mono H3.out.bl.size))
      clear hb4
      go_wp2
      go_ret
      exact ⟨rfl, HB4.out⟩
set_option maxRecDepth 100000 in
set_option maxHeartbeats 800000 in
theorem feedBack_walk (s : ByteArray) (w : World) (_ : s.size ≤ maxLen) :
    Calls Try.prog 5 #[.string s] w fun e w' => e = .returned (.bool true) ∧ Below w.heap.size w w' := by
  by_cases hl : 600 < s.size
  · have hl' : (600 : Int) < (s.size : Int) := by omega
    clear hl
    go_enter Try.func5, Try.ntmps5
    go_wp2_with fail
    (with_reducible refine (five_walk _).mono ?_)
    rintro e w1 ⟨rfl, hb1⟩
    go_wp2
    go_ret
    exact ⟨rfl, hb1⟩
  · exact feedBack_in s w hl
end Go.Proofs.Ytohdifhleeonpaa

