/- Texts rune by rune: Cut, Masked, Same, balerplain.Ints, the small case. -/
import Derived.Test.YtdbcdacekejjjaaDoorTokWalk3
namespace Go.Proofs.YtdbcdacekejjjaaDoor
open Go.RowKit
set_option linter.unusedVariables false
set_option linter.unusedSimpArgs false

/-- how many bytes the first n runes have -/
def cutN : List (Int × Nat) → Int → Nat
  | [], _ => 0
  | q :: R, n => if n < 1 then 0 else q.2 + cutN R (n - 1)
theorem cutN_le : ∀ (m : Nat) (l : List UInt8) (n : Int), l.length ≤ m → cutN (Tk.runes l) n ≤ l.length
  | _, [], _, _ => Nat.le_refl _
  | 0, b :: l, _, h => by simp at h
  | m + 1, b :: l, n, h => by
    have hb := Tk.d_bd (b :: l) (by simp)
    rw [Tk.runes_cons _ (by simp)]
    unfold cutN
    split
    · exact Nat.zero_le _
    · have := cutN_le m ((b :: l).drop (Tk.d (b :: l)).2) (n - 1) (by rw [List.length_drop]; simp at h ⊢; omega)
      rw [List.length_drop] at this
      simp only
      omega
theorem ext_all (s : ByteArray) : s.extract 0 s.size = s := by
  apply ByteArray.ext
  simp
set_option maxRecDepth 100000 in
set_option maxHeartbeats 1600000 in
theorem cut_walk (s : ByteArray) (n : Int) (w : World) (hs : s.size ≤ 1000000) (hn : n ≤ 9223372036854775807) : Calls Tryd.prog 17 #[.string s, .int .i64 n] w fun e w' => e = .returned (.string (s.extract 0 (cutN (Tk.runes s.data.toList) n))) ∧ Below w.heap.size w w' := by
  have HAT := Lib.hid (Tk.runes_at s.data.toList)
  have HD := Lib.hid (Tk.d_at s.data.toList)
  have HEND := Lib.hid (Tk.runes_end s.data.toList)
  have H0 := Lib.hid (show 0 + cutN (Tk.runes (s.data.toList.drop 0)) n = cutN (Tk.runes s.data.toList) n by rw [List.drop_zero, Nat.zero_add])
  have HXA := Lib.hid (ext_all s)
  generalize cutN (Tk.runes s.data.toList) n = C at *
  go_enter Tryd.func17, Tryd.ntmps17
  go_wp2_with fail
  go_loopw [1] (fun x wr => ∃ (p : Nat) (m : Int), x = .int .i64 m ∧ m ≤ 9223372036854775807 ∧ p + cutN (Tk.runes (s.data.toList.drop p)) m = C ∧ p ≤ s.size ∧ ItAt w wr s p) (fun _ w' => s.size - w'.iterPos w.heap.size)
  case atStart => exact ⟨0, n, rfl, hn, H0.out, Nat.zero_le _, ItAt.start w s⟩
  case round =>
    obtain ⟨p, m, rfl, hm, hr, hps, hit⟩ := hrel
    have HI := Lib.hid hit
    by_cases hp : p < s.size
    · have hd := HD.out p (by rw [llen]; exact hp)
      have hnx : ∀ ty, (Instr.next (.pointer (some ⟨w.heap.size, 0, none⟩)) true ty).run Tryd.prog wr = _ := fun ty => Lib.run_next_any_at wr w.heap.size s p ty hit.it hp
      rw [Tk.decode_d] at hnx
      rw [HAT.out p (by rw [llen]; exact hp)] at hr
      have HN := Lib.hid (hit.next (p + (Tk.d (s.data.toList.drop p)).2))
      rw [llen] at hd
      unfold cutN at hr
      simp only at hr
      clear hit
      generalize (Tk.d (s.data.toList.drop p)).1 = c at *
      generalize (Tk.d (s.data.toList.drop p)).2 = k at *
      obtain ⟨hd1, hd2, -⟩ := hd
      generalize hwn : wr.iterAt w.heap.size s (p + k) = w3 at *
      clear hwn
      by_cases hm1 : m < 1
      · rw [if_pos hm1, Nat.add_zero] at hr
        have HR := Lib.hid hr
        have hsl := run_slice_to Tryd.underlying9 s p (p : Int) rfl (by omega)
        obtain ⟨T, hTT⟩ : ∃ T, T = s.extract 0 p := ⟨_, rfl⟩
        rw [← hTT] at hsl
        have HTT := Lib.hid hTT
        clear hr hTT
        go_wp2
        go_ret
        exact ⟨ret_str (show T = s.extract 0 C by rw [HTT.out, HR.out]), HN.out.below⟩
      · rw [if_neg hm1] at hr
        have HR := Lib.hid (show (p + k) + cutN (Tk.runes (s.data.toList.drop (p + k))) (m - 1) = C by omega)
        have hmw : 0 ≤ m - 1 := by omega
        have hmx : m - 1 ≤ 9223372036854775807 := by omega
        clear hr
        go_wp2
        go_roundw
        case rel => exact ⟨p + k, m - 1, rfl, hmx, HR.out, by omega, HN.out⟩
        case measure => rw [HN.out.pos, HI.out.pos]; omega
    · have hnx : ∀ ty, (Instr.next (.pointer (some ⟨w.heap.size, 0, none⟩)) true ty).run Tryd.prog wr = _ := fun ty => Lib.run_next_end_at wr w.heap.size s p ty hit.it hp
      rw [HEND.out p (by rw [llen]; omega)] at hr
      have HR := Lib.hid (show s.size = C by unfold cutN at hr; omega)
      clear hit hr
      go_wp2
      go_ret
      exact ⟨ret_str (show s = s.extract 0 C by rw [← HR.out, HXA.out]), HI.out.below⟩
/-- a text's first rune, and stars -/
def maskB (s : ByteArray) : ByteArray := s.extract 0 (cutN (Tk.runes s.data.toList) 1) ++ ⟨(Lib.repeatL (⟨#[42]⟩ : ByteArray).data.toList (Tk.runes (s.data.toList.drop (cutN (Tk.runes s.data.toList) 1))).length).toArray⟩
theorem repeat_size (l : List UInt8) (c : Nat) : (⟨(Lib.repeatL l c).toArray⟩ : ByteArray).size = c * l.length := by
  rw [← Fr.size_list]
  exact Lib.repeatL_length l c
set_option maxRecDepth 100000 in
set_option maxHeartbeats 1600000 in
theorem masked_walk (s : ByteArray) (w : World) (hs : s.size ≤ 1000000) : Calls Tryd.prog 18 #[.string s] w fun e w' => e = .returned (.string (maskB s)) ∧ Below w.heap.size w w' := by
  have HC := Lib.hid (fun w => cut_walk s 1 w hs (by decide))
  have hcl := cutN_le s.size s.data.toList 1 (by rw [llen]; exact Nat.le_refl _)
  rw [llen] at hcl
  have HMB := Lib.hid (show maskB s = s.extract 0 (cutN (Tk.runes s.data.toList) 1) ++ ⟨(Lib.repeatL (⟨#[42]⟩ : ByteArray).data.toList (Tk.runes (s.data.toList.drop (cutN (Tk.runes s.data.toList) 1))).length).toArray⟩ from rfl)
  generalize maskB s = M at *
  generalize cutN (Tk.runes s.data.toList) 1 = C at *
  have HL := Lib.hid (fun w => len_walk (s.extract C s.size) w (by rw [ByteArray.size_extract]; omega))
  rw [list_from] at HL
  have hrl := Tk.runes_le (s.data.toList.drop C)
  rw [List.length_drop, llen] at hrl
  generalize (Tk.runes (s.data.toList.drop C)).length = n at *
  have HRP := Lib.hid (fun w => Tryd.strings_Repeat (⟨#[42]⟩ : ByteArray) n w (by omega) (by show 1 * n ≤ _; omega))
  have hrz := repeat_size (⟨#[42]⟩ : ByteArray).data.toList n
  have hsl := run_slice_from Tryd.underlying9 s C (C : Int) rfl hcl
  have hsz : (s.extract 0 C).size = C := by rw [ByteArray.size_extract]; omega
  have hl1 : (⟨#[42]⟩ : ByteArray).data.toList.length = 1 := rfl
  rw [hl1, Nat.mul_one] at hrz
  generalize (⟨(Lib.repeatL (⟨#[42]⟩ : ByteArray).data.toList n).toArray⟩ : ByteArray) = ST at *
  generalize s.extract C s.size = u at *
  generalize s.extract 0 C = T at *
  have hcat : T.size + ST.size ≤ 10000000 := by omega
  have hTs : (T.size : Int) = (C : Int) := by omega
  clear hl1 hrz hsz
  go_enter Tryd.func18, Tryd.ntmps18
  go_wp2_with fail
  (with_reducible refine (HC.out _).mono ?_)
  rintro e w1 ⟨rfl, hb1⟩
  have HB1 := Lib.hid hb1
  go_wp2_with fail
  (with_reducible refine (HL.out _).mono ?_)
  rintro e w2 ⟨rfl, hb2⟩
  have HB2 := Lib.hid (HB1.out.trans (hb2.mono HB1.out.size))
  go_wp2_with fail
  (with_reducible refine (HRP.out _).mono ?_)
  rintro e w3 ⟨rfl, hb3⟩
  have HB3 := Lib.hid (HB2.out.trans (hb3.mono HB2.out.size))
  clear hb1 hb2 hb3
  go_wp2
  go_ret
  exact ⟨ret_str HMB.out.symm, HB3.out⟩
theorem rowAt_lit (w : World) (xs : List Value) (E : TypeId) (h : xs.length ≤ maxLen) : RowAt (w.alloc (.cells xs.toArray E)) (some ⟨w.heap.size, 0, none⟩) xs.length xs.length xs :=
  ⟨Nat.le_refl _, h, rfl, (fun e => nomatch e), fun x hx _ => by
    cases hx
    refine ⟨w.heap.size, 0, rfl, fun i hi => ?_⟩
    rw [(Has.new w _ _).cell, Nat.zero_add, List.getElem?_toArray, List.getD, List.getElem?_eq_getElem hi]; rfl⟩
theorem u8xor_zero (a b : UInt8) : (a.toNat ^^^ b.toNat = 0) ↔ a = b := by
  constructor
  · intro h
    apply UInt8.toNat_inj.1
    have h2 := congrArg (· ^^^ b.toNat) h
    simp only [Nat.xor_assoc, Nat.xor_self, Nat.xor_zero, Nat.zero_xor] at h2
    exact h2
  · rintro rfl; exact Nat.xor_self _
theorem nat_or_zero (x y : Nat) : (x ||| y = 0) ↔ (x = 0 ∧ y = 0) := Nat.or_eq_zero_iff
theorem bytes_eq (a b : ByteArray) (hs : a.size = b.size) (h : ∀ j (h1 : j < a.size) (h2 : j < b.size), a[j] = b[j]) : a = b := ByteArray.ext_getElem hs h
set_option maxRecDepth 100000 in
set_option maxHeartbeats 800000 in
theorem tsame_walk (a b : ByteArray) (w : World) (ha : a.size ≤ 1000000) (hb : b.size ≤ 1000000) : Calls Tryd.prog 19 #[.string a, .string b] w fun e w' => e = .returned (.bool (decide (a = b))) ∧ Below w.heap.size w w' := by
  obtain ⟨m, hm⟩ : ∃ m, m = min a.size b.size := ⟨_, rfl⟩
  have hmin : min (a.size : Int) (b.size : Int) = (m : Int) := by omega
  have hma : m ≤ a.size := by omega
  have hmb : m ≤ b.size := by omega
  have HM := Lib.hid hm
  clear hm
  go_enter Tryd.func19, Tryd.ntmps19
  go_wp2_with fail
  go_loopw [5, 12] (fun x i wr => ∃ k u : Nat, i = .int .i64 (k : Int) ∧ k ≤ m ∧ x = .int .u8 (u : Int) ∧ u < 256 ∧ (u = 0 ↔ ∀ j (h1 : j < a.size) (h2 : j < b.size), j < k → a[j] = b[j]) ∧ Below w.heap.size w wr) (fun _ i _ => m - (intOf i).toNat)
  case atStart => exact ⟨0, 0, rfl, Nat.zero_le _, rfl, by decide, ⟨fun _ j _ _ hj => absurd hj (by omega), fun _ => rfl⟩, Below.refl _ _⟩
  case round =>
    obtain ⟨k, u, rfl, hk, rfl, hu, hiff, hbr⟩ := hrel
    have HI := Lib.hid hiff
    have HB := Lib.hid hbr
    clear hiff hbr
    by_cases hlt : k < m
    · have hlt' : (k : Int) < (m : Int) := by omega
      have ka : k < a.size := by omega
      have kb : k < b.size := by omega
      have ka' : (k : Int) < (a.size : Int) := by omega
      have kb' : (k : Int) < (b.size : Int) := by omega
      have hkb : (k : Int) ≤ 1000000 := by omega
      have hx := u8_xor_nat a[k].toNat b[k].toNat a[k].toNat_lt b[k].toNat_lt
      have hxl : a[k].toNat ^^^ b[k].toNat < 256 := Nat.xor_lt_two_pow (n := 8) a[k].toNat_lt b[k].toNat_lt
      have ho := u8_or_nat u (a[k].toNat ^^^ b[k].toNat) hu hxl
      have hol : u ||| (a[k].toNat ^^^ b[k].toNat) < 256 := Nat.or_lt_two_pow (n := 8) hu hxl
      have HN := Lib.hid (show (u ||| (a[k].toNat ^^^ b[k].toNat) = 0) ↔ ∀ j (h1 : j < a.size) (h2 : j < b.size), j < k + 1 → a[j] = b[j] by
        rw [nat_or_zero, u8xor_zero, HI.out]
        constructor
        · rintro ⟨h1, h2⟩ j j1 j2 hj
          by_cases hjk : j = k
          · subst hjk; exact h2
          · exact h1 j j1 j2 (by omega)
        · intro h
          exact ⟨fun j j1 j2 hj => h j j1 j2 (by omega), h k ka kb (by omega)⟩)
      generalize u ||| (a[k].toNat ^^^ b[k].toNat) = u2 at *
      generalize a[k].toNat ^^^ b[k].toNat = x1 at *
      clear HI
      go_upto_region 5 with (fail)
      refine region_later 9 (by kernel_rfl) (by kernel_rfl) ?_
      simp only [List.take_succ_cons, List.take_zero, List.drop_succ_cons, List.drop_zero]
      repeat (go_big_quiet_step (fail))
      refine wpQuiet_nil ?_
      rintro w' ⟨x, rfl⟩
      have HB2 := Lib.hid (HB.out.trans (x.below.mono HB.out.size))
      clear HB
      generalize x.at = w2 at *
      go_wp2
      go_roundw
      case rel => exact ⟨k + 1, u2, by go_num, hlt, rfl, hol, HN.out, HB2.out⟩
      case measure => simp [intOf]; omega
    · have hlt' : ¬ (k : Int) < (m : Int) := by omega
      have hkm : k = m := by omega
      subst hkm
      by_cases h0 : u = 0
      · subst h0
        by_cases hsz : a.size = b.size
        · have hze : ((a.size : Int) == (b.size : Int)) = true := by rw [hsz]; simp
          have HE := Lib.hid (show a = b from bytes_eq a b hsz (fun j h1 h2 => HI.out.1 rfl j h1 h2 (by have := HM.out; omega)))
          clear hsz
          go_wp2
          go_ret
          exact ⟨ret_bool (decide_eq_true HE.out).symm, HB.out⟩
        · have hze : ((a.size : Int) == (b.size : Int)) = false := by simpa using (by omega : (a.size : Int) ≠ (b.size : Int))
          have HE := Lib.hid (show a ≠ b from fun h => hsz (by rw [h]))
          clear hsz
          go_wp2
          go_ret
          exact ⟨ret_bool (decide_eq_false HE.out).symm, HB.out⟩
      · have h0' : ((u : Int) == 0) = false := by simpa using h0
        have HE := Lib.hid (show a ≠ b from fun h => h0 (HI.out.2 (fun j h1 h2 _ => by subst h; rfl)))
        clear h0
        go_wp2
        go_ret
        exact ⟨ret_bool (decide_eq_false HE.out).symm, HB.out⟩
set_option maxRecDepth 100000 in
set_option maxHeartbeats 800000 in
theorem ints_walk (a b : Option Addr) (n c c2 : Nat) (xs : List Value) (w : World) (h1 : RowAt w a n c xs) (h2 : RowAt w b n c2 xs) (hv : ∀ i, i < n → ∃ z : Int, xs.getD i undef = .int .i64 z) (hn : n ≤ 1000000) :
    Calls Tryd.prog 23 #[.slice a n c, .slice b n c2] w fun e w' => e = .returned (.bool true) ∧ Below w.heap.size w w' := by
  have H1 := Lib.hid h1
  have H2 := Lib.hid h2
  have HV := Lib.hid hv
  clear h1 h2 hv
  have hnb : (n : Int) ≤ 1000000 := by omega
  go_enter Tryd.func23, Tryd.ntmps23
  go_wp2_with fail
  go_loopw [13] (fun i wr => ∃ k : Nat, i = .int .i64 (k : Int) ∧ k ≤ n ∧ Below w.heap.size w wr) (fun i _ => n - (intOf i).toNat)
  case atStart => exact ⟨0, rfl, Nat.zero_le _, Below.refl _ _⟩
  case round =>
    obtain ⟨k, rfl, hk, hbr⟩ := hrel
    have HB := Lib.hid hbr
    by_cases hlt : k < n
    · have hlt' : (k : Int) < (n : Int) := by omega
      obtain ⟨ab, ao, ha, a0⟩ := (H1.out.keep hbr).at k hlt
      subst ha
      obtain ⟨bb, bo, hb, b0⟩ := (H2.out.keep hbr).at k hlt
      subst hb
      obtain ⟨z, hz⟩ := HV.out k hlt
      rw [hz] at a0 b0
      have hkb : (k : Int) ≤ 1000000 := by omega
      clear hz hbr
      go_upto_region 6 with (fail)
      have x0 : ∀ x : Later wr, x.at.cell? ⟨ab, ao + k, none⟩ = some (.int .i64 z) := fun x => x.cell a0
      have y0 : ∀ x : Later wr, x.at.cell? ⟨bb, bo + k, none⟩ = some (.int .i64 z) := fun x => x.cell b0
      clear a0 b0
      refine region_later 9 (by kernel_rfl) (by kernel_rfl) ?_
      simp only [List.take_succ_cons, List.take_zero, List.drop_succ_cons, List.drop_zero]
      repeat (go_big_quiet_step (fail))
      refine wpQuiet_nil ?_
      rintro w' ⟨x, rfl⟩
      have HB2 := Lib.hid (HB.out.trans (x.below.mono HB.out.size))
      clear x0 y0 HB
      generalize x.at = w2 at *
      go_wp2
      go_roundw
      case rel => exact ⟨k + 1, by go_num, hlt, HB2.out⟩
      case measure => simp [intOf]; omega
    · have hlt' : ¬ (k : Int) < (n : Int) := by omega
      go_wp2
      go_ret
      exact ⟨rfl, HB.out⟩
end Go.Proofs.YtdbcdacekejjjaaDoor
