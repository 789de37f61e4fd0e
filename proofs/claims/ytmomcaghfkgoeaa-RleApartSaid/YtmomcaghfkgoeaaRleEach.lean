/- 'each' hands out a text's pieces, to each of its three closures. (Printed by gen_rleeach.py.) -/
import Derived.Test.YtmomcaghfkgoeaaRleText
namespace Go.Proofs.Ytmomcaghfkgoeaa
open Go.RowKit
set_option linter.unusedVariables false
set_option linter.unusedSimpArgs false


set_option maxRecDepth 100000 in
set_option maxHeartbeats 1600000 in
theorem each_pieces (s : ByteArray) (c : Addr) (w : World) (hs : s.size ≤ 100000) (I : List Rl.Pc → World → Prop) (hD : ∀ ps w n, I ps w → I ps (w.drewN n))
    (hS : ∀ ps (p : Rl.Pc) w, 1 ≤ p.n → p.n ≤ 255 → ps.length < 100000 → I ps w → Calls Try.prog 24 #[.agg #[.int .u8 (p.b.toNat : Int), .int .i64 (p.n : Int)], .pointer (some c)] w fun e w' => e = .returned (.tuple #[]) ∧ I (ps ++ [p]) w') (h0 : I [] w) :
    Calls Try.prog 19 #[.string s, .func (.func 24) #[] #[.pointer (some c)]] w fun e w' => e = .returned (.tuple #[]) ∧ I (Rl.pcs s.data.toList) w' := by
  have hlen := Rl.pcs_length s.data.toList
  rw [llen] at hlen
  generalize hR : Rl.pcs s.data.toList = R at *
  have HR := Lib.hid hR
  have HD := Lib.hid hD
  have HS := Lib.hid hS
  have HI := Lib.hid h0
  clear hR hD hS h0
  go_enter Try.func19, Try.ntmps19
  go_wp2_with fail
  go_loopw [4] (fun i wr => ∃ (p : Nat) (ps : List Rl.Pc), i = .int .i64 p ∧ p ≤ s.size ∧ ps ++ Rl.pcs (s.data.toList.drop p) = R ∧ I ps wr) (fun i _ => s.size - (intOf i).toNat)
  case atStart => exact ⟨0, [], rfl, Nat.zero_le _, by rw [List.drop_zero]; exact HR.out, HI.out⟩
  case round =>
    obtain ⟨p, ps, rfl, hp, hps, hI⟩ := hrel
    have HI1 := Lib.hid hI
    clear hI
    by_cases hlt : p < s.size
    · have hlt' : (p : Int) < (s.size : Int) := by omega
      obtain ⟨hat, hr1, hr2, hr3⟩ := Rl.pcs_at s.data.toList p (by rw [llen]; exact hlt)
      have hrl := Rl.rl_at s.data.toList p (by rw [llen]; exact hlt)
      rw [llen] at hr3
      rw [lget s p hlt] at hat hrl
      rw [hat] at hps
      have hpl : ps.length < 100000 := by have := congrArg List.length hps; rw [List.length_append, List.length_cons] at this; omega
      have HP2 := Lib.hid (show ps ++ ([⟨s[p], Rl.rl (s.data.toList.drop p)⟩] ++ Rl.pcs (s.data.toList.drop (p + Rl.rl (s.data.toList.drop p)))) = R from hps)
      have hfirst := Rl.rowN_yes s[p] 254 s.data.toList p (by rw [llen]; exact hlt) (lget s p hlt)
      have HRL := Lib.hid (show Rl.rowN s[p] (255 - (p + 1 - p)) (s.data.toList.drop (p + 1)) + (p + 1 - p) = Rl.rl (s.data.toList.drop p) by rw [hrl, hfirst, show p + 1 - p = 1 by omega]; show Rl.rowN s[p] 254 _ + 1 = _; omega)
      clear hat hrl hps hfirst
      generalize Rl.rl (s.data.toList.drop p) = RL at *
      go_wp2_with fail
      obtain ⟨wo, rfl⟩ : ∃ wo : World, wo = wr := ⟨_, rfl⟩
      go_loopw [5] (fun x wr => ∃ e : Nat, x = .int .i64 e ∧ p + 1 ≤ e ∧ e ≤ s.size ∧ e ≤ p + 255 ∧ Rl.rowN s[p] (255 - (e - p)) (s.data.toList.drop e) + (e - p) = RL ∧ I ps wr) (fun x _ => s.size - (intOf x).toNat)
      case atStart => exact ⟨p + 1, by go_num, Nat.le_refl _, hlt, by omega, HRL.out, HI1.out⟩
      case round =>
        obtain ⟨e, rfl, he1, he2, he3, hrow, hI⟩ := hrel
        have HI2 := Lib.hid hI
        have HROW := Lib.hid hrow
        clear hI hrow
        have hww : wrap64 ((e : Int) - (p : Int)) = (e : Int) - (p : Int) := by unfold wrap64; omega
        have hwb : 0 ≤ (e : Int) - (p : Int) ∧ (e : Int) - (p : Int) ≤ 255 := by omega
        by_cases hle : e < s.size
        · have c1 : decide ((e : Int) < (s.size : Int)) = true := by simpa using hle
          have c1' : (e : Int) < (s.size : Int) := by omega
          by_cases h255 : e - p < 255
          · have c2 : decide ((e : Int) - (p : Int) < 255) = true := by simp; omega
            by_cases hb : s[e] = s[p]
            · have c3 := u8_eq _ _ hb
              have hst := Rl.rowN_yes s[p] (254 - (e - p)) s.data.toList e (by rw [llen]; exact hle) (by rw [lget s e hle]; exact hb)
              rw [show 254 - (e - p) + 1 = 255 - (e - p) by omega] at hst
              have HN := Lib.hid (show Rl.rowN s[p] (255 - (e + 1 - p)) (s.data.toList.drop (e + 1)) + (e + 1 - p) = RL by have := HROW.out; rw [show 255 - (e + 1 - p) = 254 - (e - p) by omega]; omega)
              clear hst
              go_wp2_with fail
              go_quiet (fail)
              go_wp2
              go_roundw
              case rel => exact ⟨e + 1, by go_num, by omega, hle, by omega, HN.out, HD.out _ _ _ HI2.out⟩
              case measure => simp [intOf]; omega
            · have c3 := u8_ne _ _ hb
              have HZ := Lib.hid (Rl.rowN_no s[p] (255 - (e - p)) s.data.toList e (fun hk => by rw [lget s e hle]; exact hb))
              go_wp2_with fail
              have HN := Lib.hid (show (e : Int) - (p : Int) = (RL : Int) by have := HROW.out; rw [HZ.out] at this; omega)
              go_quiet (fail)
              have hsub := HN.out
              go_wp2_with fail
              (with_reducible refine (HS.out ps ⟨s[p], RL⟩ _ hr1 hr2 hpl (HD.out ps _ _ HI2.out)).mono ?_)
              rintro e2 w3 ⟨rfl, hI3⟩
              have HI3 := Lib.hid hI3
              clear hI3 hsub
              have HE := Lib.hid (show e = p + RL by have := HN.out; omega)
              have HP3 := Lib.hid (show (ps ++ [⟨s[p], RL⟩]) ++ Rl.pcs (s.data.toList.drop e) = R by rw [HE.out, List.append_assoc]; exact HP2.out)
              go_wp2
              go_roundw
              case rel => exact ⟨e, ps ++ [⟨s[p], RL⟩], by go_num, he2, HP3.out, HI3.out⟩
              case measure => simp [intOf]; omega
          · have c2 : decide ((e : Int) - (p : Int) < 255) = false := by simp; omega
            go_wp2_with fail
            have HN := Lib.hid (show (e : Int) - (p : Int) = (RL : Int) by have := HROW.out; rw [show 255 - (e - p) = 0 by omega] at this; simp [Rl.rowN] at this; omega)
            go_quiet (fail)
            have hsub := HN.out
            go_wp2_with fail
            (with_reducible refine (HS.out ps ⟨s[p], RL⟩ _ hr1 hr2 hpl (HD.out ps _ _ HI2.out)).mono ?_)
            rintro e2 w3 ⟨rfl, hI3⟩
            have HI3 := Lib.hid hI3
            clear hI3 hsub
            have HE := Lib.hid (show e = p + RL by have := HN.out; omega)
            have HP3 := Lib.hid (show (ps ++ [⟨s[p], RL⟩]) ++ Rl.pcs (s.data.toList.drop e) = R by rw [HE.out, List.append_assoc]; exact HP2.out)
            go_wp2
            go_roundw
            case rel => exact ⟨e, ps ++ [⟨s[p], RL⟩], by go_num, he2, HP3.out, HI3.out⟩
            case measure => simp [intOf]; omega
        · have c1 : decide ((e : Int) < (s.size : Int)) = false := by simpa using hle
          have HZ := Lib.hid (Rl.rowN_no s[p] (255 - (e - p)) s.data.toList e (fun hk => by rw [llen] at hk; omega))
          go_wp2_with fail
          have HN := Lib.hid (show (e : Int) - (p : Int) = (RL : Int) by have := HROW.out; rw [HZ.out] at this; omega)
          go_quiet (fail)
          have hsub := HN.out
          go_wp2_with fail
          (with_reducible refine (HS.out ps ⟨s[p], RL⟩ _ hr1 hr2 hpl (HD.out ps _ _ HI2.out)).mono ?_)
          rintro e2 w3 ⟨rfl, hI3⟩
          have HI3 := Lib.hid hI3
          clear hI3 hsub
          have HE := Lib.hid (show e = p + RL by have := HN.out; omega)
          have HP3 := Lib.hid (show (ps ++ [⟨s[p], RL⟩]) ++ Rl.pcs (s.data.toList.drop e) = R by rw [HE.out, List.append_assoc]; exact HP2.out)
          go_wp2
          go_roundw
          case rel => exact ⟨e, ps ++ [⟨s[p], RL⟩], by go_num, he2, HP3.out, HI3.out⟩
          case measure => simp [intOf]; omega
    · have hlt' : ¬ (p : Int) < (s.size : Int) := by omega
      rw [Rl.pcs_end _ _ (by rw [llen]; omega), List.append_nil] at hps
      subst hps
      go_wp2
      refine bodyPost_end (v := .tuple #[]) (by simp [results, Try.results19, go_sem]) rfl ⟨rfl, HI1.out⟩

set_option maxRecDepth 100000 in
set_option maxHeartbeats 1600000 in
theorem each_encode (s : ByteArray) (c : Addr) (w : World) (hs : s.size ≤ 100000) (I : List Rl.Pc → World → Prop) (hD : ∀ ps w n, I ps w → I ps (w.drewN n))
    (hS : ∀ ps (p : Rl.Pc) w, 1 ≤ p.n → p.n ≤ 255 → ps.length < 100000 → I ps w → Calls Try.prog 20 #[.agg #[.int .u8 (p.b.toNat : Int), .int .i64 (p.n : Int)], .pointer (some c)] w fun e w' => e = .returned (.tuple #[]) ∧ I (ps ++ [p]) w') (h0 : I [] w) :
    Calls Try.prog 19 #[.string s, .func (.func 20) #[] #[.pointer (some c)]] w fun e w' => e = .returned (.tuple #[]) ∧ I (Rl.pcs s.data.toList) w' := by
  have hlen := Rl.pcs_length s.data.toList
  rw [llen] at hlen
  generalize hR : Rl.pcs s.data.toList = R at *
  have HR := Lib.hid hR
  have HD := Lib.hid hD
  have HS := Lib.hid hS
  have HI := Lib.hid h0
  clear hR hD hS h0
  go_enter Try.func19, Try.ntmps19
  go_wp2_with fail
  go_loopw [4] (fun i wr => ∃ (p : Nat) (ps : List Rl.Pc), i = .int .i64 p ∧ p ≤ s.size ∧ ps ++ Rl.pcs (s.data.toList.drop p) = R ∧ I ps wr) (fun i _ => s.size - (intOf i).toNat)
  case atStart => exact ⟨0, [], rfl, Nat.zero_le _, by rw [List.drop_zero]; exact HR.out, HI.out⟩
  case round =>
    obtain ⟨p, ps, rfl, hp, hps, hI⟩ := hrel
    have HI1 := Lib.hid hI
    clear hI
    by_cases hlt : p < s.size
    · have hlt' : (p : Int) < (s.size : Int) := by omega
      obtain ⟨hat, hr1, hr2, hr3⟩ := Rl.pcs_at s.data.toList p (by rw [llen]; exact hlt)
      have hrl := Rl.rl_at s.data.toList p (by rw [llen]; exact hlt)
      rw [llen] at hr3
      rw [lget s p hlt] at hat hrl
      rw [hat] at hps
      have hpl : ps.length < 100000 := by have := congrArg List.length hps; rw [List.length_append, List.length_cons] at this; omega
      have HP2 := Lib.hid (show ps ++ ([⟨s[p], Rl.rl (s.data.toList.drop p)⟩] ++ Rl.pcs (s.data.toList.drop (p + Rl.rl (s.data.toList.drop p)))) = R from hps)
      have hfirst := Rl.rowN_yes s[p] 254 s.data.toList p (by rw [llen]; exact hlt) (lget s p hlt)
      have HRL := Lib.hid (show Rl.rowN s[p] (255 - (p + 1 - p)) (s.data.toList.drop (p + 1)) + (p + 1 - p) = Rl.rl (s.data.toList.drop p) by rw [hrl, hfirst, show p + 1 - p = 1 by omega]; show Rl.rowN s[p] 254 _ + 1 = _; omega)
      clear hat hrl hps hfirst
      generalize Rl.rl (s.data.toList.drop p) = RL at *
      go_wp2_with fail
      obtain ⟨wo, rfl⟩ : ∃ wo : World, wo = wr := ⟨_, rfl⟩
      go_loopw [5] (fun x wr => ∃ e : Nat, x = .int .i64 e ∧ p + 1 ≤ e ∧ e ≤ s.size ∧ e ≤ p + 255 ∧ Rl.rowN s[p] (255 - (e - p)) (s.data.toList.drop e) + (e - p) = RL ∧ I ps wr) (fun x _ => s.size - (intOf x).toNat)
      case atStart => exact ⟨p + 1, by go_num, Nat.le_refl _, hlt, by omega, HRL.out, HI1.out⟩
      case round =>
        obtain ⟨e, rfl, he1, he2, he3, hrow, hI⟩ := hrel
        have HI2 := Lib.hid hI
        have HROW := Lib.hid hrow
        clear hI hrow
        have hww : wrap64 ((e : Int) - (p : Int)) = (e : Int) - (p : Int) := by unfold wrap64; omega
        have hwb : 0 ≤ (e : Int) - (p : Int) ∧ (e : Int) - (p : Int) ≤ 255 := by omega
        by_cases hle : e < s.size
        · have c1 : decide ((e : Int) < (s.size : Int)) = true := by simpa using hle
          have c1' : (e : Int) < (s.size : Int) := by omega
          by_cases h255 : e - p < 255
          · have c2 : decide ((e : Int) - (p : Int) < 255) = true := by simp; omega
            by_cases hb : s[e] = s[p]
            · have c3 := u8_eq _ _ hb
              have hst := Rl.rowN_yes s[p] (254 - (e - p)) s.data.toList e (by rw [llen]; exact hle) (by rw [lget s e hle]; exact hb)
              rw [show 254 - (e - p) + 1 = 255 - (e - p) by omega] at hst
              have HN := Lib.hid (show Rl.rowN s[p] (255 - (e + 1 - p)) (s.data.toList.drop (e + 1)) + (e + 1 - p) = RL by have := HROW.out; rw [show 255 - (e + 1 - p) = 254 - (e - p) by omega]; omega)
              clear hst
              go_wp2_with fail
              go_quiet (fail)
              go_wp2
              go_roundw
              case rel => exact ⟨e + 1, by go_num, by omega, hle, by omega, HN.out, HD.out _ _ _ HI2.out⟩
              case measure => simp [intOf]; omega
            · have c3 := u8_ne _ _ hb
              have HZ := Lib.hid (Rl.rowN_no s[p] (255 - (e - p)) s.data.toList e (fun hk => by rw [lget s e hle]; exact hb))
              go_wp2_with fail
              have HN := Lib.hid (show (e : Int) - (p : Int) = (RL : Int) by have := HROW.out; rw [HZ.out] at this; omega)
              go_quiet (fail)
              have hsub := HN.out
              go_wp2_with fail
              (with_reducible refine (HS.out ps ⟨s[p], RL⟩ _ hr1 hr2 hpl (HD.out ps _ _ HI2.out)).mono ?_)
              rintro e2 w3 ⟨rfl, hI3⟩
              have HI3 := Lib.hid hI3
              clear hI3 hsub
              have HE := Lib.hid (show e = p + RL by have := HN.out; omega)
              have HP3 := Lib.hid (show (ps ++ [⟨s[p], RL⟩]) ++ Rl.pcs (s.data.toList.drop e) = R by rw [HE.out, List.append_assoc]; exact HP2.out)
              go_wp2
              go_roundw
              case rel => exact ⟨e, ps ++ [⟨s[p], RL⟩], by go_num, he2, HP3.out, HI3.out⟩
              case measure => simp [intOf]; omega
          · have c2 : decide ((e : Int) - (p : Int) < 255) = false := by simp; omega
            go_wp2_with fail
            have HN := Lib.hid (show (e : Int) - (p : Int) = (RL : Int) by have := HROW.out; rw [show 255 - (e - p) = 0 by omega] at this; simp [Rl.rowN] at this; omega)
            go_quiet (fail)
            have hsub := HN.out
            go_wp2_with fail
            (with_reducible refine (HS.out ps ⟨s[p], RL⟩ _ hr1 hr2 hpl (HD.out ps _ _ HI2.out)).mono ?_)
            rintro e2 w3 ⟨rfl, hI3⟩
            have HI3 := Lib.hid hI3
            clear hI3 hsub
            have HE := Lib.hid (show e = p + RL by have := HN.out; omega)
            have HP3 := Lib.hid (show (ps ++ [⟨s[p], RL⟩]) ++ Rl.pcs (s.data.toList.drop e) = R by rw [HE.out, List.append_assoc]; exact HP2.out)
            go_wp2
            go_roundw
            case rel => exact ⟨e, ps ++ [⟨s[p], RL⟩], by go_num, he2, HP3.out, HI3.out⟩
            case measure => simp [intOf]; omega
        · have c1 : decide ((e : Int) < (s.size : Int)) = false := by simpa using hle
          have HZ := Lib.hid (Rl.rowN_no s[p] (255 - (e - p)) s.data.toList e (fun hk => by rw [llen] at hk; omega))
          go_wp2_with fail
          have HN := Lib.hid (show (e : Int) - (p : Int) = (RL : Int) by have := HROW.out; rw [HZ.out] at this; omega)
          go_quiet (fail)
          have hsub := HN.out
          go_wp2_with fail
          (with_reducible refine (HS.out ps ⟨s[p], RL⟩ _ hr1 hr2 hpl (HD.out ps _ _ HI2.out)).mono ?_)
          rintro e2 w3 ⟨rfl, hI3⟩
          have HI3 := Lib.hid hI3
          clear hI3 hsub
          have HE := Lib.hid (show e = p + RL by have := HN.out; omega)
          have HP3 := Lib.hid (show (ps ++ [⟨s[p], RL⟩]) ++ Rl.pcs (s.data.toList.drop e) = R by rw [HE.out, List.append_assoc]; exact HP2.out)
          go_wp2
          go_roundw
          case rel => exact ⟨e, ps ++ [⟨s[p], RL⟩], by go_num, he2, HP3.out, HI3.out⟩
          case measure => simp [intOf]; omega
    · have hlt' : ¬ (p : Int) < (s.size : Int) := by omega
      rw [Rl.pcs_end _ _ (by rw [llen]; omega), List.append_nil] at hps
      subst hps
      go_wp2
      refine bodyPost_end (v := .tuple #[]) (by simp [results, Try.results19, go_sem]) rfl ⟨rfl, HI1.out⟩

set_option maxRecDepth 100000 in
set_option maxHeartbeats 1600000 in
theorem each_size (s : ByteArray) (c : Addr) (w : World) (hs : s.size ≤ 100000) (I : List Rl.Pc → World → Prop) (hD : ∀ ps w n, I ps w → I ps (w.drewN n))
    (hS : ∀ ps (p : Rl.Pc) w, 1 ≤ p.n → p.n ≤ 255 → ps.length < 100000 → I ps w → Calls Try.prog 30 #[.agg #[.int .u8 (p.b.toNat : Int), .int .i64 (p.n : Int)], .pointer (some c)] w fun e w' => e = .returned (.tuple #[]) ∧ I (ps ++ [p]) w') (h0 : I [] w) :
    Calls Try.prog 19 #[.string s, .func (.func 30) #[] #[.pointer (some c)]] w fun e w' => e = .returned (.tuple #[]) ∧ I (Rl.pcs s.data.toList) w' := by
  have hlen := Rl.pcs_length s.data.toList
  rw [llen] at hlen
  generalize hR : Rl.pcs s.data.toList = R at *
  have HR := Lib.hid hR
  have HD := Lib.hid hD
  have HS := Lib.hid hS
  have HI := Lib.hid h0
  clear hR hD hS h0
  go_enter Try.func19, Try.ntmps19
  go_wp2_with fail
  go_loopw [4] (fun i wr => ∃ (p : Nat) (ps : List Rl.Pc), i = .int .i64 p ∧ p ≤ s.size ∧ ps ++ Rl.pcs (s.data.toList.drop p) = R ∧ I ps wr) (fun i _ => s.size - (intOf i).toNat)
  case atStart => exact ⟨0, [], rfl, Nat.zero_le _, by rw [List.drop_zero]; exact HR.out, HI.out⟩
  case round =>
    obtain ⟨p, ps, rfl, hp, hps, hI⟩ := hrel
    have HI1 := Lib.hid hI
    clear hI
    by_cases hlt : p < s.size
    · have hlt' : (p : Int) < (s.size : Int) := by omega
      obtain ⟨hat, hr1, hr2, hr3⟩ := Rl.pcs_at s.data.toList p (by rw [llen]; exact hlt)
      have hrl := Rl.rl_at s.data.toList p (by rw [llen]; exact hlt)
      rw [llen] at hr3
      rw [lget s p hlt] at hat hrl
      rw [hat] at hps
      have hpl : ps.length < 100000 := by have := congrArg List.length hps; rw [List.length_append, List.length_cons] at this; omega
      have HP2 := Lib.hid (show ps ++ ([⟨s[p], Rl.rl (s.data.toList.drop p)⟩] ++ Rl.pcs (s.data.toList.drop (p + Rl.rl (s.data.toList.drop p)))) = R from hps)
      have hfirst := Rl.rowN_yes s[p] 254 s.data.toList p (by rw [llen]; exact hlt) (lget s p hlt)
      have HRL := Lib.hid (show Rl.rowN s[p] (255 - (p + 1 - p)) (s.data.toList.drop (p + 1)) + (p + 1 - p) = Rl.rl (s.data.toList.drop p) by rw [hrl, hfirst, show p + 1 - p = 1 by omega]; show Rl.rowN s[p] 254 _ + 1 = _; omega)
      clear hat hrl hps hfirst
      generalize Rl.rl (s.data.toList.drop p) = RL at *
      go_wp2_with fail
      obtain ⟨wo, rfl⟩ : ∃ wo : World, wo = wr := ⟨_, rfl⟩
      go_loopw [5] (fun x wr => ∃ e : Nat, x = .int .i64 e ∧ p + 1 ≤ e ∧ e ≤ s.size ∧ e ≤ p + 255 ∧ Rl.rowN s[p] (255 - (e - p)) (s.data.toList.drop e) + (e - p) = RL ∧ I ps wr) (fun x _ => s.size - (intOf x).toNat)
      case atStart => exact ⟨p + 1, by go_num, Nat.le_refl _, hlt, by omega, HRL.out, HI1.out⟩
      case round =>
        obtain ⟨e, rfl, he1, he2, he3, hrow, hI⟩ := hrel
        have HI2 := Lib.hid hI
        have HROW := Lib.hid hrow
        clear hI hrow
        have hww : wrap64 ((e : Int) - (p : Int)) = (e : Int) - (p : Int) := by unfold wrap64; omega
        have hwb : 0 ≤ (e : Int) - (p : Int) ∧ (e : Int) - (p : Int) ≤ 255 := by omega
        by_cases hle : e < s.size
        · have c1 : decide ((e : Int) < (s.size : Int)) = true := by simpa using hle
          have c1' : (e : Int) < (s.size : Int) := by omega
          by_cases h255 : e - p < 255
          · have c2 : decide ((e : Int) - (p : Int) < 255) = true := by simp; omega
            by_cases hb : s[e] = s[p]
            · have c3 := u8_eq _ _ hb
              have hst := Rl.rowN_yes s[p] (254 - (e - p)) s.data.toList e (by rw [llen]; exact hle) (by rw [lget s e hle]; exact hb)
              rw [show 254 - (e - p) + 1 = 255 - (e - p) by omega] at hst
              have HN := Lib.hid (show Rl.rowN s[p] (255 - (e + 1 - p)) (s.data.toList.drop (e + 1)) + (e + 1 - p) = RL by have := HROW.out; rw [show 255 - (e + 1 - p) = 254 - (e - p) by omega]; omega)
              clear hst
              go_wp2_with fail
              go_quiet (fail)
              go_wp2
              go_roundw
              case rel => exact ⟨e + 1, by go_num, by omega, hle, by omega, HN.out, HD.out _ _ _ HI2.out⟩
              case measure => simp [intOf]; omega
            · have c3 := u8_ne _ _ hb
              have HZ := Lib.hid (Rl.rowN_no s[p] (255 - (e - p)) s.data.toList e (fun hk => by rw [lget s e hle]; exact hb))
              go_wp2_with fail
              have HN := Lib.hid (show (e : Int) - (p : Int) = (RL : Int) by have := HROW.out; rw [HZ.out] at this; omega)
              go_quiet (fail)
              have hsub := HN.out
              go_wp2_with fail
              (with_reducible refine (HS.out ps ⟨s[p], RL⟩ _ hr1 hr2 hpl (HD.out ps _ _ HI2.out)).mono ?_)
              rintro e2 w3 ⟨rfl, hI3⟩
              have HI3 := Lib.hid hI3
              clear hI3 hsub
              have HE := Lib.hid (show e = p + RL by have := HN.out; omega)
              have HP3 := Lib.hid (show (ps ++ [⟨s[p], RL⟩]) ++ Rl.pcs (s.data.toList.drop e) = R by rw [HE.out, List.append_assoc]; exact HP2.out)
              go_wp2
              go_roundw
              case rel => exact ⟨e, ps ++ [⟨s[p], RL⟩], by go_num, he2, HP3.out, HI3.out⟩
              case measure => simp [intOf]; omega
          · have c2 : decide ((e : Int) - (p : Int) < 255) = false := by simp; omega
            go_wp2_with fail
            have HN := Lib.hid (show (e : Int) - (p : Int) = (RL : Int) by have := HROW.out; rw [show 255 - (e - p) = 0 by omega] at this; simp [Rl.rowN] at this; omega)
            go_quiet (fail)
            have hsub := HN.out
            go_wp2_with fail
            (with_reducible refine (HS.out ps ⟨s[p], RL⟩ _ hr1 hr2 hpl (HD.out ps _ _ HI2.out)).mono ?_)
            rintro e2 w3 ⟨rfl, hI3⟩
            have HI3 := Lib.hid hI3
            clear hI3 hsub
            have HE := Lib.hid (show e = p + RL by have := HN.out; omega)
            have HP3 := Lib.hid (show (ps ++ [⟨s[p], RL⟩]) ++ Rl.pcs (s.data.toList.drop e) = R by rw [HE.out, List.append_assoc]; exact HP2.out)
            go_wp2
            go_roundw
            case rel => exact ⟨e, ps ++ [⟨s[p], RL⟩], by go_num, he2, HP3.out, HI3.out⟩
            case measure => simp [intOf]; omega
        · have c1 : decide ((e : Int) < (s.size : Int)) = false := by simpa using hle
          have HZ := Lib.hid (Rl.rowN_no s[p] (255 - (e - p)) s.data.toList e (fun hk => by rw [llen] at hk; omega))
          go_wp2_with fail
          have HN := Lib.hid (show (e : Int) - (p : Int) = (RL : Int) by have := HROW.out; rw [HZ.out] at this; omega)
          go_quiet (fail)
          have hsub := HN.out
          go_wp2_with fail
          (with_reducible refine (HS.out ps ⟨s[p], RL⟩ _ hr1 hr2 hpl (HD.out ps _ _ HI2.out)).mono ?_)
          rintro e2 w3 ⟨rfl, hI3⟩
          have HI3 := Lib.hid hI3
          clear hI3 hsub
          have HE := Lib.hid (show e = p + RL by have := HN.out; omega)
          have HP3 := Lib.hid (show (ps ++ [⟨s[p], RL⟩]) ++ Rl.pcs (s.data.toList.drop e) = R by rw [HE.out, List.append_assoc]; exact HP2.out)
          go_wp2
          go_roundw
          case rel => exact ⟨e, ps ++ [⟨s[p], RL⟩], by go_num, he2, HP3.out, HI3.out⟩
          case measure => simp [intOf]; omega
    · have hlt' : ¬ (p : Int) < (s.size : Int) := by omega
      rw [Rl.pcs_end _ _ (by rw [llen]; omega), List.append_nil] at hps
      subst hps
      go_wp2
      refine bodyPost_end (v := .tuple #[]) (by simp [results, Try.results19, go_sem]) rfl ⟨rfl, HI1.out⟩
end Go.Proofs.Ytmomcaghfkgoeaa

