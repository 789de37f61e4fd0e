/- Decode of the reference. -/
import Derived.Test.YtaldcdgafljedaaRleRef2
namespace Go.Proofs.Ytaldcdgafljedaa
open Go.RowKit
set_option linter.unusedVariables false
set_option linter.unusedSimpArgs false

theorem Rl.mach_fault : ∀ (l : List UInt8) (r : Nat) (b : UInt8) (out : List UInt8), (Rl.mach r b out l).2 = 0 ∨ ((Rl.mach r b out l).1 = [] ∧ ((Rl.mach r b out l).2 = 24 ∨ (Rl.mach r b out l).2 = 25))
  | [], r, b, out => by
    rw [Rl.mach_nil]
    split
    · exact .inr ⟨rfl, .inl rfl⟩
    · exact .inl rfl
  | c :: l, r, b, out => by
    rw [Rl.mach_cons]
    split
    · split
      · exact .inr ⟨rfl, .inr rfl⟩
      · exact Rl.mach_fault l _ _ _
    · split
      · exact Rl.mach_fault l _ _ _
      · exact Rl.mach_fault l _ _ _
theorem Rl.dec_fault (l : List UInt8) : (Rl.dec l).2 = 0 ∨ ((Rl.dec l).1 = [] ∧ ((Rl.dec l).2 = 24 ∨ (Rl.dec l).2 = 25)) := Rl.mach_fault l 0 0 []
theorem Rl.mach_len : ∀ (l : List UInt8) (r : Nat) (b : UInt8) (out : List UInt8), (Rl.mach r b out l).1.length ≤ out.length + 255 * l.length
  | [], r, b, out => by
    rw [Rl.mach_nil]
    split
    · simp
    · simp
  | c :: l, r, b, out => by
    have hc := c.toNat_lt
    rw [Rl.mach_cons, List.length_cons]
    split
    · split
      · simp
      · have := Rl.mach_len l 0 c (out ++ List.replicate c.toNat b)
        rw [List.length_append, List.length_replicate] at this
        omega
    · split
      · have := Rl.mach_len l (r + 1) c (out ++ [c])
        rw [List.length_append, List.length_singleton] at this
        omega
      · have := Rl.mach_len l 1 c (out ++ [c])
        rw [List.length_append, List.length_singleton] at this
        omega
theorem Rl.dec_len (l : List UInt8) : (Rl.dec l).1.length ≤ 255 * l.length := by have h := Rl.mach_len l 0 0 []; rw [List.length_nil, Nat.zero_add] at h; exact h
theorem Rl.rdec_at (n : Nat) (acc : List UInt8) (t : ByteArray) (h : 0 < t.size) : Rl.rdec (n + 1) acc t.data.toList = if Rl.four t.data.toList = false then Rl.rdec n (acc ++ [t[0]]) (t.extract 1 t.size).data.toList else if t.size = 4 then ([], 24)
    else if 251 < (t.data.toList.getD 4 0).toNat then ([], 25) else Rl.rdec n (acc ++ List.replicate (4 + (t.data.toList.getD 4 0).toNat) t[0]) (t.extract 5 t.size).data.toList := by
  have e : t.data.toList = t[0] :: t.data.toList.drop 1 := by
    have := List.drop_eq_getElem_cons (l := t.data.toList) (i := 0) (by rw [llen]; exact h)
    rw [List.drop_zero, lget t 0 h] at this
    exact this
  have hl : (t[0] :: t.data.toList.drop 1).length = t.size := by rw [← e, llen]
  rw [list_from, list_from]
  conv => lhs; rw [e]
  rw [Rl.rdec_cons, hl, ← e]
theorem ext01 (t : ByteArray) (h : 0 < t.size) : t.extract 0 1 = Fr.bs [t[0]] := by
  apply Fr.bs_inj
  rw [Fr.list_bs]
  simp only [ByteArray.data_extract, Array.toList_extract, List.extract_eq_take_drop, List.drop_zero]
  have := List.drop_eq_getElem_cons (l := t.data.toList) (i := 0) (by rw [llen]; exact h)
  rw [List.drop_zero, lget t 0 h] at this
  rw [this]; rfl
theorem four_len (t : ByteArray) (h : Rl.four t.data.toList = true) : 4 ≤ t.size := by
  unfold Rl.four at h
  have := of_decide_eq_true h
  rw [llen] at this
  exact this.1

set_option maxRecDepth 100000 in
set_option maxHeartbeats 1600000 in
theorem refdecode_walk (s : ByteArray) (w : World) (hs : s.size ≤ 10100) :
    Calls Try.prog 15 #[.string s] w fun e w' => e = .returned (.tuple #[.string (Fr.bs (Rl.dec s.data.toList).1), .int .i64 (Rl.dec s.data.toList).2]) ∧ Below w.heap.size w w' := by
  have hR := Rl.dec_rdec s.data.toList
  rw [llen] at hR
  generalize Rl.dec s.data.toList = R at *
  have HR := Lib.hid hR
  clear hR
  go_enter Try.func15, Try.ntmps15
  go_wp2_with fail
  go_loopw [0, 4] (fun x y wr => ∃ (t : ByteArray) (acc : List UInt8) (n : Nat), x = .string t ∧ y = .string (Fr.bs acc) ∧ Rl.rdec n acc t.data.toList = R ∧ t.size ≤ n ∧ acc.length + 256 * t.size ≤ 256 * s.size ∧ Below w.heap.size w wr) (fun x _ _ => strLen x)
  case atStart => exact ⟨s, [], s.size, rfl, rfl, HR.out.symm, Nat.le_refl _, by simp, Below.refl _ _⟩
  case round =>
    obtain ⟨t, acc, n, rfl, rfl, hr, htn, hal, hbr⟩ := hrel
    have HB := Lib.hid hbr
    clear hbr
    have hza := bs_size acc
    by_cases h0 : 0 < t.size
    · have h0' : (0 : Int) < (t.size : Int) := by omega
      obtain ⟨n, rfl⟩ : ∃ m, n = m + 1 := ⟨n - 1, by omega⟩
      rw [Rl.rdec_at n acc t h0] at hr
      have HF := Lib.hid (fun w => four_walk t w)
      have hx1 := ext01 t h0
      have hs1 := run_slice_to Try.underlying9 t 1 1 rfl h0
      rw [hx1] at hs1
      have h4l := four_len t
      generalize Rl.four t.data.toList = f4 at *
      cases f4 with
      | false =>
        rw [if_pos rfl] at hr
        have HRR := Lib.hid hr
        have HC := Lib.hid (bs_app acc [t[0]])
        have hs2 := run_slice_from Try.underlying9 t 1 1 rfl h0
        have hsz : (t.extract 1 t.size).size = t.size - 1 := by rw [ByteArray.size_extract]; omega
        have hz1 : (Fr.bs [t[0]]).size = 1 := rfl
        generalize t.extract 1 t.size = u at *
        generalize Fr.bs acc = S at *
        generalize Fr.bs [t[0]] = S1 at *
        have hcat : S.size + S1.size ≤ 10000000 := by omega
        clear hr hx1 h4l
        go_wp2_with fail
        (with_reducible refine (HF.out _).mono ?_)
        rintro e w1 ⟨rfl, hb1⟩
        have HB1 := Lib.hid (HB.out.trans (hb1.mono HB.out.size))
        clear hb1
        go_wp2
        go_roundw
        case rel => exact ⟨u, acc ++ [t[0]], n, rfl, by rw [HC.out], HRR.out, by omega, by rw [List.length_append]; simp; omega, HB1.out⟩
        case measure => simp [strLen]; omega
      | true =>
        have h4 : 4 ≤ t.size := h4l rfl
        rw [if_neg (by decide)] at hr
        by_cases he : t.size = 4
        · rw [if_pos he] at hr
          have he' : ((t.size : Int) == 4) = true := by simpa using (show (t.size : Int) = 4 by omega)
          subst hr
          clear h4l hx1
          go_wp2_with fail
          (with_reducible refine (HF.out _).mono ?_)
          rintro e w1 ⟨rfl, hb1⟩
          have HB1 := Lib.hid (HB.out.trans (hb1.mono HB.out.size))
          clear hb1
          go_wp2
          go_ret2
          exact ⟨rfl, HB1.out⟩
        · rw [if_neg he] at hr
          have he' : ((t.size : Int) == 4) = false := by simpa using (show ¬ (t.size : Int) = 4 by omega)
          have h5 : 4 < t.size := by omega
          have h5' : (4 : Int) < (t.size : Int) := by omega
          rw [getD_idx t 4 h5] at hr
          have hc := t[4].toNat_lt
          by_cases hbig : 251 < t[4].toNat
          · rw [if_pos hbig] at hr
            have hbig' : (251 : Int) < (t[4].toNat : Int) := by omega
            subst hr
            clear h4l hx1
            go_wp2_with fail
            (with_reducible refine (HF.out _).mono ?_)
            rintro e w1 ⟨rfl, hb1⟩
            have HB1 := Lib.hid (HB.out.trans (hb1.mono HB.out.size))
            clear hb1
            go_wp2
            go_ret2
            exact ⟨rfl, HB1.out⟩
          · rw [if_neg hbig] at hr
            have hbig' : ¬ (251 : Int) < (t[4].toNat : Int) := by omega
            have HRR := Lib.hid hr
            have hs2 := run_slice_from Try.underlying9 t 5 5 rfl (by omega)
            have hsz : (t.extract 5 t.size).size = t.size - 5 := by rw [ByteArray.size_extract]; omega
            have hz1 : (Fr.bs [t[0]]).size = 1 := rfl
            generalize t.extract 5 t.size = u at *
            generalize hS1 : Fr.bs [t[0]] = S1 at *
            have HS1 := Lib.hid hS1
            clear hr h4l hx1 hS1
            generalize hc4 : t[4].toNat = c4 at *
            have hc4' : (t[4].toNat : Int) = (c4 : Int) := by omega
            clear hc4
            go_wp2_with fail
            (with_reducible refine (HF.out _).mono ?_)
            rintro e w1 ⟨rfl, hb1⟩
            have HB1 := Lib.hid (HB.out.trans (hb1.mono HB.out.size))
            clear hb1
            go_wp2_with fail
            obtain ⟨wo, rfl⟩ : ∃ wo : World, wo = wr := ⟨_, rfl⟩
            go_loopw [27, 4] (fun i y wr => ∃ j : Nat, i = .int .i64 j ∧ j ≤ 4 + c4 ∧ y = .string (Fr.bs (acc ++ List.replicate j t[0])) ∧ wr = w1) (fun i _ _ => 4 + c4 - (intOf i).toNat)
            case atStart => exact ⟨0, rfl, Nat.zero_le _, by rw [List.replicate_zero, List.append_nil], rfl⟩
            case round =>
              obtain ⟨j, rfl, hj, rfl, rfl⟩ := hrel
              have hzj := bs_size (acc ++ List.replicate j t[0])
              rw [List.length_append, List.length_replicate] at hzj
              by_cases hjl : j < 4 + c4
              · have hjl' : (j : Int) < 4 + (c4 : Int) := by omega
                have HC := Lib.hid ((bs_app (acc ++ List.replicate j t[0]) [t[0]]).trans (by rw [List.append_assoc, ← List.replicate_succ']))
                rw [HS1.out] at HC
                generalize Fr.bs (acc ++ List.replicate j t[0]) = S at *
                have hcat : S.size + S1.size ≤ 10000000 := by omega
                go_wp2
                go_roundw
                case rel => exact ⟨j + 1, by go_num, hjl, by rw [HC.out], trivial⟩
                case measure => simp [intOf]; omega
              · have hjl' : ¬ (j : Int) < 4 + (c4 : Int) := by omega
                obtain rfl : j = 4 + c4 := by omega
                go_wp2
                go_roundw
                case rel => exact ⟨u, acc ++ List.replicate (4 + c4) t[0], n, rfl, by first | rfl | trivial, HRR.out, by omega, by rw [List.length_append, List.length_replicate]; omega, HB1.out⟩
                case measure => simp [strLen]; omega
    · have h0' : ¬ (0 : Int) < (t.size : Int) := by omega
      have hnil : t.data.toList = [] := List.length_eq_zero_iff.1 (by rw [llen]; omega)
      rw [hnil] at hr
      have hR : R = (acc, 0) := by rw [← hr]; cases n <;> rfl
      subst hR
      go_wp2
      go_ret2
      exact ⟨rfl, HB.out⟩
end Go.Proofs.Ytaldcdgafljedaa
