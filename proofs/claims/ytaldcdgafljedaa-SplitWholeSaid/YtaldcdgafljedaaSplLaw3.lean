/- No body has more bytes than the room; a block's first piece would not have fitted in the one ahead. -/
import Derived.Test.YtaldcdgafljedaaSplLaw2
namespace Go.Proofs.Ytaldcdgafljedaa
open Go.RowKit
set_option linter.unusedVariables false
set_option linter.unusedSimpArgs false

namespace Rl
/-- how many bytes a text's first piece has -/
def firstN (l : List UInt8) : Nat := if 5 ≤ l.length ∧ four l = true then 5 else match l with
  | [] => 0
  | b :: _ => rowN b l.length l
theorem apart_parts : ∀ (a b : List Pc), Apart (a ++ b) → Apart a ∧ Apart b
  | [], b, h => ⟨trivial, h⟩
  | p :: a, b, h => by
    obtain ⟨h1, h2, h3⟩ := apart_tail h
    obtain ⟨i1, i2⟩ := apart_parts a b h1
    refine ⟨?_, i2⟩
    cases a with
    | nil => exact ⟨h2, h3⟩
    | cons q a => exact ⟨h2, h3, h.2.2.1, i1⟩
theorem apart_flat : ∀ (L : List (List Pc)), Apart L.flatten → ∀ b ∈ L, Apart b
  | [], _, b, h => (by cases h)
  | a :: L, h, b, hb => by
    rw [List.flatten_cons] at h
    obtain ⟨i1, i2⟩ := apart_parts a L.flatten h
    rcases List.mem_cons.1 hb with rfl | hb
    · exact i1
    · exact apart_flat L i2 b hb
theorem text_head {p : Pc} (h : 1 ≤ p.n) : (text p).head? = some p.b := by
  unfold text
  split
  · obtain ⟨k, hk⟩ : ∃ k, p.n = k + 1 := ⟨p.n - 1, by omega⟩
    rw [hk, List.replicate_succ]; rfl
  · rfl
theorem body_head {p : Pc} {ps : List Pc} (h : 1 ≤ p.n) : (Sp.body (p :: ps)).head? = some p.b := by
  show (text p ++ Sp.body ps).head? = _
  have := text_head h
  cases ht : text p with
  | nil => rw [ht] at this; cases this
  | cons c l => rw [ht] at this; exact this
theorem four_rep (b : UInt8) (n : Nat) (t : List UInt8) (h4 : n < 4) (hn : 1 ≤ n) (ht : t.head? ≠ some b) : four (List.replicate n b ++ t) = false := by
  unfold four
  apply decide_eq_false
  rintro ⟨h0, h1, h2, h3⟩
  have hc : n = 1 ∨ n = 2 ∨ n = 3 := by omega
  cases t with
  | nil => simp at h0; omega
  | cons c t =>
    have hcb : c ≠ b := fun e => ht (by rw [e]; rfl)
    rcases hc with rfl | rfl | rfl
    · simp at h1; exact hcb h1.symm
    · simp at h2; exact hcb h2.symm
    · simp at h3; exact hcb h3.symm
theorem firstN_body (p : Pc) (ps : List Pc) (h : Apart (p :: ps)) : firstN (Sp.body (p :: ps)) = (text p).length := by
  obtain ⟨ht, h1, h2⟩ := apart_tail h
  rw [text_len]
  have hb : Sp.body (p :: ps) = text p ++ Sp.body ps := rfl
  obtain ⟨b, n⟩ := p
  simp only at h1 h2 ⊢
  by_cases h4 : n < 4
  · rw [if_pos h4]
    have hne : (Sp.body ps).head? ≠ some b := by
      cases ps with
      | nil => intro e; cases e
      | cons q l =>
        have h5 := h.2.2.1
        simp only at h5
        rw [body_head (apart_tail ht).2.1]
        intro e
        rcases h5 with h5 | h5
        · exact h5 (Option.some.inj e).symm
        · omega
    have hx : text ⟨b, n⟩ = List.replicate n b := by unfold text; rw [if_pos h4]
    rw [hb, hx]
    have hf := four_rep b n (Sp.body ps) h4 h1 hne
    unfold firstN
    rw [hf, if_neg (by simp)]
    obtain ⟨k, rfl⟩ : ∃ k, n = k + 1 := ⟨n - 1, by omega⟩
    rw [List.replicate_succ, List.cons_append]
    show rowN b _ _ = _
    rw [← List.cons_append, ← List.replicate_succ]
    refine rowN_rep_app b (k + 1) _ _ (by simp) (.inr hne)
  · rw [if_neg h4]
    have hx : text ⟨b, n⟩ = [b, b, b, b, UInt8.ofNat (n - 4)] := by unfold text; rw [if_neg h4]
    rw [hb, hx]
    unfold firstN
    rw [if_pos]
    refine ⟨by simp, ?_⟩
    unfold four
    simp
end Rl
/-- each block has bytes, and room; its first piece did not fit in the one ahead -/
theorem blks_good_in (room : Nat) (L : List (List Rl.Pc)) (S : Sp.St) (ha : ∀ b ∈ L, Rl.Apart b) (hok : Sp.Ok room S) (hb : L = Sp.fin S) (k : Nat) (h : k < L.length) :
    (0 < (Sp.body L[k]).length ∧ (Sp.body L[k]).length ≤ room) ∧ ∀ m (hm : k = m + 1) (hm2 : m < L.length), room < (Sp.body L[m]).length + Rl.firstN (Sp.body L[k]) := by
  have hL : L = [] ∨ (S.now ≠ [] ∧ L = S.done ++ [S.now]) := by
    rw [hb]
    unfold Sp.fin
    by_cases hn : S.now = []
    · rw [if_pos hn]; exact .inl (hok.begun hn)
    · rw [if_neg hn]; exact .inr ⟨hn, rfl⟩
  clear hb
  rcases hL with rfl | ⟨hn, rfl⟩
  · exact absurd h (by simp)
  · have hmem := List.getElem_mem h
    have hap := ha _ hmem
    have hgood : (S.done ++ [S.now])[k] ≠ [] ∧ (Sp.body (S.done ++ [S.now])[k]).length ≤ room := by
      rcases List.mem_append.1 hmem with hd | hd
      · exact hok.done _ hd
      · rw [List.mem_singleton.1 hd]; exact ⟨hn, hok.now⟩
    obtain ⟨p, ps, hps⟩ := List.exists_cons_of_ne_nil hgood.1
    have h1 : 1 ≤ p.n := by rw [hps] at hap; exact (Rl.apart_tail hap).2.1
    refine ⟨⟨?_, hgood.2⟩, fun m hm hm2 => ?_⟩
    · rw [hps]
      have := Sp.text_pos p h1
      show 0 < (Rl.text p ++ Sp.body ps).length
      rw [List.length_append]; omega
    · have := hok.adj m _ _ (List.getElem?_eq_getElem hm2) (by rw [← hm]; exact List.getElem?_eq_getElem h) p (by rw [hps]; rfl)
      rw [hps] at hap ⊢
      rw [Rl.firstN_body p ps hap]
      exact this
theorem blks_apart (room : Nat) (l : List UInt8) : ∀ b ∈ Sp.blks room l, Rl.Apart b := Rl.apart_flat _ (by rw [Sp.blks_flat]; exact Rl.pcs_apart l)
theorem blks_good (room : Nat) (h5 : 5 ≤ room) (l : List UInt8) (k : Nat) (h : k < (Sp.blks room l).length) :
    (0 < (Sp.body (Sp.blks room l)[k]).length ∧ (Sp.body (Sp.blks room l)[k]).length ≤ room) ∧ ∀ m (hm : k = m + 1) (hm2 : m < (Sp.blks room l).length), room < (Sp.body (Sp.blks room l)[m]).length + Rl.firstN (Sp.body (Sp.blks room l)[k]) :=
  blks_good_in room _ _ (blks_apart room l) (Sp.ok_text room h5 l) rfl k h
theorem firstN_cons (s : ByteArray) (h0 : 0 < s.size) : Rl.firstN s.data.toList = if 5 ≤ s.size ∧ Rl.four s.data.toList = true then 5 else Rl.rowN s[0] s.size s.data.toList := by
  have hc : s.data.toList = s[0] :: s.data.toList.drop 1 := by
    have := List.drop_eq_getElem_cons (l := s.data.toList) (i := 0) (by rw [llen]; exact h0)
    rw [List.drop_zero, lget s 0 h0] at this
    exact this
  have hl := llen s
  unfold Rl.firstN
  rw [hl]
  by_cases h : 5 ≤ s.size ∧ Rl.four s.data.toList = true
  · rw [if_pos h, if_pos h]
  · rw [if_neg h, if_neg h]
    generalize s.data.toList = L at *
    cases L with
    | nil => cases hc
    | cons c t => cases (List.cons.inj hc).1; rfl
theorem Rl.firstN_le (l : List UInt8) : Rl.firstN l ≤ l.length := by
  unfold Rl.firstN
  split
  · rename_i h; exact h.1
  · split
    · exact Nat.le_refl _
    · rename_i b t _
      exact (Rl.rowN_le b (b :: t).length (b :: t)).2
theorem ext_len (s : ByteArray) (n : Nat) (h : n ≤ s.size) : (s.extract 0 n).size = n := by rw [ByteArray.size_extract]; omega

set_option maxRecDepth 100000 in
set_option maxHeartbeats 800000 in
theorem first_short (s : ByteArray) (w : World) (h0 : 0 < s.size) (hs : s.size ≤ 1000000) (hn : ¬ 5 ≤ s.size) :
    Calls Try.prog 17 #[.string s] w fun e w' => e = .returned (.string (s.extract 0 (Rl.firstN s.data.toList))) ∧ Below w.heap.size w w' := by
  have hf := firstN_cons s h0
  rw [if_neg (fun h => hn h.1)] at hf
  generalize Rl.firstN s.data.toList = R at *
  have HR := Lib.hid hf
  have l0 : (0 : Int) < (s.size : Int) := by omega
  have c0 : decide ((5 : Int) ≤ (s.size : Int)) = false := by simp; omega
  clear hf hn
  go_enter Try.func17, Try.ntmps17
  go_wp2_with fail
  go_quiet (fail)
  go_wp2_with fail
  go_loopw [3] (fun i wr => ∃ k : Nat, i = .int .i64 k ∧ k ≤ s.size ∧ Rl.rowN s[0] (s.size - k) (s.data.toList.drop k) + k = R ∧ Below w.heap.size w wr) (fun i _ => s.size - (intOf i).toNat)
  case atStart => exact ⟨0, rfl, Nat.zero_le _, by rw [HR.out]; rfl, below_drewN (Below.refl _ _) _⟩
  case round =>
    obtain ⟨k, rfl, hk, hR, hbr⟩ := hrel
    have HB := Lib.hid hbr
    have HRR := Lib.hid hR
    clear hbr hR
    by_cases hlt : k < s.size
    · have k1 : decide ((k : Int) < (s.size : Int)) = true := by simpa using hlt
      have k1' : (k : Int) < (s.size : Int) := by omega
      have k2 : (k : Int) ≤ 1000000 := by omega
      by_cases hb : s[k] = s[0]
      · have k3 := u8_eq _ _ hb
        have hst := Rl.rowN_yes s[0] (s.size - (k + 1)) s.data.toList k (by rw [llen]; exact hlt) (by rw [lget s k hlt]; exact hb)
        rw [show s.size - (k + 1) + 1 = s.size - k by omega] at hst
        have HN := Lib.hid (show Rl.rowN s[0] (s.size - (k + 1)) (s.data.toList.drop (k + 1)) + (k + 1) = R by have := HRR.out; omega)
        clear hst hb
        go_wp2_with fail
        go_quiet (fail)
        go_wp2
        go_roundw
        case rel => exact ⟨k + 1, by go_num, hlt, HN.out, below_drewN HB.out _⟩
        case measure => simp [intOf]; omega
      · have k3 := u8_ne _ _ hb
        have HN := Lib.hid (show k = R by have := HRR.out; rw [Rl.rowN_no _ _ _ _ (fun hk => by rw [lget s k hlt]; exact hb)] at this; omega)
        have hs := run_slice_to Try.underlying9 s k (k : Int) rfl (by omega)
        obtain ⟨T, hT⟩ : ∃ T, T = s.extract 0 k := ⟨_, rfl⟩
        rw [← hT] at hs
        have HT := Lib.hid hT
        clear hT
        clear hb
        go_wp2_with fail
        go_quiet (fail)
        go_wp2
        go_ret
        exact ⟨ret_str (show T = s.extract 0 R by rw [HT.out, HN.out]), below_drewN HB.out _⟩
    · have k1 : decide ((k : Int) < (s.size : Int)) = false := by simpa using hlt
      have HN := Lib.hid (show k = R by have := HRR.out; rw [Rl.rowN_no _ _ _ _ (fun hk => by rw [llen] at hk; omega)] at this; omega)
      have hs := run_slice_to Try.underlying9 s k (k : Int) rfl (by omega)
      obtain ⟨T, hT⟩ : ∃ T, T = s.extract 0 k := ⟨_, rfl⟩
      rw [← hT] at hs
      have HT := Lib.hid hT
      clear hT
      go_wp2_with fail
      go_quiet (fail)
      go_wp2
      go_ret
      exact ⟨ret_str (show T = s.extract 0 R by rw [HT.out, HN.out]), below_drewN HB.out _⟩
set_option maxRecDepth 100000 in
set_option maxHeartbeats 1600000 in
theorem first_long (s : ByteArray) (w : World) (h5 : 5 ≤ s.size) (hs : s.size ≤ 1000000) :
    Calls Try.prog 17 #[.string s] w fun e w' => e = .returned (.string (s.extract 0 (Rl.firstN s.data.toList))) ∧ Below w.heap.size w w' := by
  have hf := firstN_cons s (by omega)
  have e : Rl.four s.data.toList = (decide (s[0] = s[1]) && (decide (s[1] = s[2]) && decide (s[2] = s[3]))) := by
    unfold Rl.four
    rw [Bool.eq_iff_iff]
    simp only [decide_eq_true_eq, Bool.and_eq_true, llen, opt_eq s 0 1 (by omega) (by omega), opt_eq s 1 2 (by omega) (by omega), opt_eq s 2 3 (by omega) (by omega)]
    exact ⟨fun h => h.2, fun h => ⟨by omega, h⟩⟩
  rw [e] at hf
  have c0 : decide ((5 : Int) ≤ (s.size : Int)) = true := by simp; omega
  have l0 : (0 : Int) < (s.size : Int) := by omega
  have l1 : (1 : Int) < (s.size : Int) := by omega
  have l2 : (2 : Int) < (s.size : Int) := by omega
  have l3 : (3 : Int) < (s.size : Int) := by omega
  have n0 : 0 < s.size := by omega
  have n1 : 1 < s.size := by omega
  have n2 : 2 < s.size := by omega
  have n3 : 3 < s.size := by omega
  generalize Rl.firstN s.data.toList = R at *
  clear e
  by_cases h01 : s[0] = s[1]
  · have c1 := u8_eq _ _ h01
    rw [decide_eq_true h01] at hf
    by_cases h12 : s[1] = s[2]
    · have c2 := u8_eq _ _ h12
      rw [decide_eq_true h12] at hf
      by_cases h23 : s[2] = s[3]
      · have c3 := u8_eq _ _ h23
        rw [decide_eq_true h23, if_pos ⟨h5, rfl⟩] at hf
        have HR := Lib.hid hf
        have hs := run_slice_to Try.underlying9 s 5 (5 : Int) rfl h5
        obtain ⟨T, hT⟩ : ∃ T, T = s.extract 0 5 := ⟨_, rfl⟩
        rw [← hT] at hs
        have HT := Lib.hid hT
        clear hT
        clear h01 h12 h23 hf
        go_enter Try.func17, Try.ntmps17
        go_wp2_with fail
        go_quiet (fail)
        go_wp2
        go_ret
        exact ⟨ret_str (show T = s.extract 0 R by rw [HT.out, HR.out]), below_drewN (Below.refl _ _) _⟩
      · have c3 := u8_ne _ _ h23
        rw [decide_eq_false h23, if_neg (by simp)] at hf
        have HR := Lib.hid hf
        clear h01 h12 h23 hf
        go_enter Try.func17, Try.ntmps17
        go_wp2_with fail
        go_quiet (fail)
        go_wp2_with fail
        go_loopw [3] (fun i wr => ∃ k : Nat, i = .int .i64 k ∧ k ≤ s.size ∧ Rl.rowN s[0] (s.size - k) (s.data.toList.drop k) + k = R ∧ Below w.heap.size w wr) (fun i _ => s.size - (intOf i).toNat)
        case atStart => exact ⟨0, rfl, Nat.zero_le _, by rw [HR.out]; rfl, below_drewN (Below.refl _ _) _⟩
        case round =>
          obtain ⟨k, rfl, hk, hR, hbr⟩ := hrel
          have HB := Lib.hid hbr
          have HRR := Lib.hid hR
          clear hbr hR
          by_cases hlt : k < s.size
          · have k1 : decide ((k : Int) < (s.size : Int)) = true := by simpa using hlt
            have k1' : (k : Int) < (s.size : Int) := by omega
            have k2 : (k : Int) ≤ 1000000 := by omega
            by_cases hb : s[k] = s[0]
            · have k3 := u8_eq _ _ hb
              have hst := Rl.rowN_yes s[0] (s.size - (k + 1)) s.data.toList k (by rw [llen]; exact hlt) (by rw [lget s k hlt]; exact hb)
              rw [show s.size - (k + 1) + 1 = s.size - k by omega] at hst
              have HN := Lib.hid (show Rl.rowN s[0] (s.size - (k + 1)) (s.data.toList.drop (k + 1)) + (k + 1) = R by have := HRR.out; omega)
              clear hst hb
              go_wp2_with fail
              go_quiet (fail)
              go_wp2
              go_roundw
              case rel => exact ⟨k + 1, by go_num, hlt, HN.out, below_drewN HB.out _⟩
              case measure => simp [intOf]; omega
            · have k3 := u8_ne _ _ hb
              have HN := Lib.hid (show k = R by have := HRR.out; rw [Rl.rowN_no _ _ _ _ (fun hk => by rw [lget s k hlt]; exact hb)] at this; omega)
              have hs := run_slice_to Try.underlying9 s k (k : Int) rfl (by omega)
              obtain ⟨T, hT⟩ : ∃ T, T = s.extract 0 k := ⟨_, rfl⟩
              rw [← hT] at hs
              have HT := Lib.hid hT
              clear hT
              clear hb
              go_wp2_with fail
              go_quiet (fail)
              go_wp2
              go_ret
              exact ⟨ret_str (show T = s.extract 0 R by rw [HT.out, HN.out]), below_drewN HB.out _⟩
          · have k1 : decide ((k : Int) < (s.size : Int)) = false := by simpa using hlt
            have HN := Lib.hid (show k = R by have := HRR.out; rw [Rl.rowN_no _ _ _ _ (fun hk => by rw [llen] at hk; omega)] at this; omega)
            have hs := run_slice_to Try.underlying9 s k (k : Int) rfl (by omega)
            obtain ⟨T, hT⟩ : ∃ T, T = s.extract 0 k := ⟨_, rfl⟩
            rw [← hT] at hs
            have HT := Lib.hid hT
            clear hT
            go_wp2_with fail
            go_quiet (fail)
            go_wp2
            go_ret
            exact ⟨ret_str (show T = s.extract 0 R by rw [HT.out, HN.out]), below_drewN HB.out _⟩
    · have c2 := u8_ne _ _ h12
      rw [decide_eq_false h12, if_neg (by simp)] at hf
      have HR := Lib.hid hf
      clear h01 h12 hf
      go_enter Try.func17, Try.ntmps17
      go_wp2_with fail
      go_quiet (fail)
      go_wp2_with fail
      go_loopw [3] (fun i wr => ∃ k : Nat, i = .int .i64 k ∧ k ≤ s.size ∧ Rl.rowN s[0] (s.size - k) (s.data.toList.drop k) + k = R ∧ Below w.heap.size w wr) (fun i _ => s.size - (intOf i).toNat)
      case atStart => exact ⟨0, rfl, Nat.zero_le _, by rw [HR.out]; rfl, below_drewN (Below.refl _ _) _⟩
      case round =>
        obtain ⟨k, rfl, hk, hR, hbr⟩ := hrel
        have HB := Lib.hid hbr
        have HRR := Lib.hid hR
        clear hbr hR
        by_cases hlt : k < s.size
        · have k1 : decide ((k : Int) < (s.size : Int)) = true := by simpa using hlt
          have k1' : (k : Int) < (s.size : Int) := by omega
          have k2 : (k : Int) ≤ 1000000 := by omega
          by_cases hb : s[k] = s[0]
          · have k3 := u8_eq _ _ hb
            have hst := Rl.rowN_yes s[0] (s.size - (k + 1)) s.data.toList k (by rw [llen]; exact hlt) (by rw [lget s k hlt]; exact hb)
            rw [show s.size - (k + 1) + 1 = s.size - k by omega] at hst
            have HN := Lib.hid (show Rl.rowN s[0] (s.size - (k + 1)) (s.data.toList.drop (k + 1)) + (k + 1) = R by have := HRR.out; omega)
            clear hst hb
            go_wp2_with fail
            go_quiet (fail)
            go_wp2
            go_roundw
            case rel => exact ⟨k + 1, by go_num, hlt, HN.out, below_drewN HB.out _⟩
            case measure => simp [intOf]; omega
          · have k3 := u8_ne _ _ hb
            have HN := Lib.hid (show k = R by have := HRR.out; rw [Rl.rowN_no _ _ _ _ (fun hk => by rw [lget s k hlt]; exact hb)] at this; omega)
            have hs := run_slice_to Try.underlying9 s k (k : Int) rfl (by omega)
            obtain ⟨T, hT⟩ : ∃ T, T = s.extract 0 k := ⟨_, rfl⟩
            rw [← hT] at hs
            have HT := Lib.hid hT
            clear hT
            clear hb
            go_wp2_with fail
            go_quiet (fail)
            go_wp2
            go_ret
            exact ⟨ret_str (show T = s.extract 0 R by rw [HT.out, HN.out]), below_drewN HB.out _⟩
        · have k1 : decide ((k : Int) < (s.size : Int)) = false := by simpa using hlt
          have HN := Lib.hid (show k = R by have := HRR.out; rw [Rl.rowN_no _ _ _ _ (fun hk => by rw [llen] at hk; omega)] at this; omega)
          have hs := run_slice_to Try.underlying9 s k (k : Int) rfl (by omega)
          obtain ⟨T, hT⟩ : ∃ T, T = s.extract 0 k := ⟨_, rfl⟩
          rw [← hT] at hs
          have HT := Lib.hid hT
          clear hT
          go_wp2_with fail
          go_quiet (fail)
          go_wp2
          go_ret
          exact ⟨ret_str (show T = s.extract 0 R by rw [HT.out, HN.out]), below_drewN HB.out _⟩
  · have c1 := u8_ne _ _ h01
    rw [decide_eq_false h01, if_neg (by simp)] at hf
    have HR := Lib.hid hf
    clear h01 hf
    go_enter Try.func17, Try.ntmps17
    go_wp2_with fail
    go_quiet (fail)
    go_wp2_with fail
    go_loopw [3] (fun i wr => ∃ k : Nat, i = .int .i64 k ∧ k ≤ s.size ∧ Rl.rowN s[0] (s.size - k) (s.data.toList.drop k) + k = R ∧ Below w.heap.size w wr) (fun i _ => s.size - (intOf i).toNat)
    case atStart => exact ⟨0, rfl, Nat.zero_le _, by rw [HR.out]; rfl, below_drewN (Below.refl _ _) _⟩
    case round =>
      obtain ⟨k, rfl, hk, hR, hbr⟩ := hrel
      have HB := Lib.hid hbr
      have HRR := Lib.hid hR
      clear hbr hR
      by_cases hlt : k < s.size
      · have k1 : decide ((k : Int) < (s.size : Int)) = true := by simpa using hlt
        have k1' : (k : Int) < (s.size : Int) := by omega
        have k2 : (k : Int) ≤ 1000000 := by omega
        by_cases hb : s[k] = s[0]
        · have k3 := u8_eq _ _ hb
          have hst := Rl.rowN_yes s[0] (s.size - (k + 1)) s.data.toList k (by rw [llen]; exact hlt) (by rw [lget s k hlt]; exact hb)
          rw [show s.size - (k + 1) + 1 = s.size - k by omega] at hst
          have HN := Lib.hid (show Rl.rowN s[0] (s.size - (k + 1)) (s.data.toList.drop (k + 1)) + (k + 1) = R by have := HRR.out; omega)
          clear hst hb
          go_wp2_with fail
          go_quiet (fail)
          go_wp2
          go_roundw
          case rel => exact ⟨k + 1, by go_num, hlt, HN.out, below_drewN HB.out _⟩
          case measure => simp [intOf]; omega
        · have k3 := u8_ne _ _ hb
          have HN := Lib.hid (show k = R by have := HRR.out; rw [Rl.rowN_no _ _ _ _ (fun hk => by rw [lget s k hlt]; exact hb)] at this; omega)
          have hs := run_slice_to Try.underlying9 s k (k : Int) rfl (by omega)
          obtain ⟨T, hT⟩ : ∃ T, T = s.extract 0 k := ⟨_, rfl⟩
          rw [← hT] at hs
          have HT := Lib.hid hT
          clear hT
          clear hb
          go_wp2_with fail
          go_quiet (fail)
          go_wp2
          go_ret
          exact ⟨ret_str (show T = s.extract 0 R by rw [HT.out, HN.out]), below_drewN HB.out _⟩
      · have k1 : decide ((k : Int) < (s.size : Int)) = false := by simpa using hlt
        have HN := Lib.hid (show k = R by have := HRR.out; rw [Rl.rowN_no _ _ _ _ (fun hk => by rw [llen] at hk; omega)] at this; omega)
        have hs := run_slice_to Try.underlying9 s k (k : Int) rfl (by omega)
        obtain ⟨T, hT⟩ : ∃ T, T = s.extract 0 k := ⟨_, rfl⟩
        rw [← hT] at hs
        have HT := Lib.hid hT
        clear hT
        go_wp2_with fail
        go_quiet (fail)
        go_wp2
        go_ret
        exact ⟨ret_str (show T = s.extract 0 R by rw [HT.out, HN.out]), below_drewN HB.out _⟩
theorem first_walk (s : ByteArray) (w : World) (h0 : 0 < s.size) (hs : s.size ≤ 1000000) :
    Calls Try.prog 17 #[.string s] w fun e w' => e = .returned (.string (s.extract 0 (Rl.firstN s.data.toList))) ∧ Below w.heap.size w w' := by
  by_cases h5 : 5 ≤ s.size
  · exact first_long s w h5 hs
  · exact first_short s w h0 hs h5
end Go.Proofs.Ytaldcdgafljedaa
