/- Texts rune by rune: Cut, Masked, Same, balerplain.Ints, the small case. -/
import Derived.Lib.Repeat
import Derived.Test.YtajalllecoclcaaDoorTokWalk3
namespace Go.Proofs.YtajalllecoclcaaDoor
open Go.RowKit
set_option linter.unusedVariables false
set_option linter.unusedSimpArgs false

/-- how many bytes the first n runes have -/
def cutN : List (Int × Nat) → Int → Nat
  | [], _ => 0
  | q :: R, n => if n < 1 then 0 else q.2 + cutN R (n - 1)
theorem cutN_le : ∀ (m : Nat) (l : List UInt8) (n : Int), l.length ≤ m → cutN (Tk.runes l) n ≤ l.length
  | _, [], _, _ => Nat.le_refl _
  | 0, b :: l, _, h => by simp at h
  | m + 1, b :: l, n, h => by
    have hb := Tk.d_bd (b :: l) (by simp)
    rw [Tk.runes_cons _ (by simp)]
    unfold cutN
    split
    · exact Nat.zero_le _
    · have := cutN_le m ((b :: l).drop (Tk.d (b :: l)).2) (n - 1) (by rw [List.length_drop]; simp at h ⊢; omega)
      rw [List.length_drop] at this
      simp only
      omega
theorem ext_all (s : ByteArray) : s.extract 0 s.size = s := by
  apply ByteArray.ext
  simp
/-- a text's first rune, and stars -/
def maskB (s : ByteArray) : ByteArray := s.extract 0 (cutN (Tk.runes s.data.toList) 1) ++ ⟨(Lib.repeatL (⟨#[42]⟩ : ByteArray).data.toList (Tk.runes (s.data.toList.drop (cutN (Tk.runes s.data.toList) 1))).length).toArray⟩
theorem repeat_size (l : List UInt8) (c : Nat) : (⟨(Lib.repeatL l c).toArray⟩ : ByteArray).size = c * l.length := by
  rw [← Fr.size_list]
  exact Lib.repeatL_length l c
theorem rowAt_lit (w : World) (xs : List Value) (E : TypeId) (h : xs.length ≤ maxLen) : RowAt (w.alloc (.cells xs.toArray E)) (some ⟨w.heap.size, 0, none⟩) xs.length xs.length xs :=
  ⟨Nat.le_refl _, h, rfl, (fun e => nomatch e), fun x hx _ => by
    cases hx
    refine ⟨w.heap.size, 0, rfl, fun i hi => ?_⟩
    rw [(Has.new w _ _).cell, Nat.zero_add, List.getElem?_toArray, List.getD, List.getElem?_eq_getElem hi]; rfl⟩
theorem u8xor_zero (a b : UInt8) : (a.toNat ^^^ b.toNat = 0) ↔ a = b := by
  constructor
  · intro h
    apply UInt8.toNat_inj.1
    have h2 := congrArg (· ^^^ b.toNat) h
    simp only [Nat.xor_assoc, Nat.xor_self, Nat.xor_zero, Nat.zero_xor] at h2
    exact h2
  · rintro rfl; exact Nat.xor_self _
theorem nat_or_zero (x y : Nat) : (x ||| y = 0) ↔ (x = 0 ∧ y = 0) := Nat.or_eq_zero_iff
theorem bytes_eq (a b : ByteArray) (hs : a.size = b.size) (h : ∀ j (h1 : j < a.size) (h2 : j < b.size), a[j] = b[j]) : a = b := ByteArray.ext_getElem hs h
set_option maxRecDepth 100000 in
set_option maxHeartbeats 800000 in
theorem tsame_walk (a b : ByteArray) (w : World) (ha : a.size ≤ 1000000) (hb : b.size ≤ 1000000) : Calls Tryd.prog 54 #[.string a, .string b] w fun e w' => e = .returned (.bool (decide (a = b))) ∧ Below w.heap.size w w' := by
  obtain ⟨m, hm⟩ : ∃ m, m = min a.size b.size := ⟨_, rfl⟩
  have hmin : min (a.size : Int) (b.size : Int) = (m : Int) := by omega
  have hma : m ≤ a.size := by omega
  have hmb : m ≤ b.size := by omega
  have HM := Lib.hid hm
  clear hm
  go_enter Tryd.func54, Tryd.ntmps54
  go_wp2_with fail
  go_loopw [5, 12] (fun x i wr => ∃ k u : Nat, i = .int .i64 (k : Int) ∧ k ≤ m ∧ x = .int .u8 (u : Int) ∧ u < 256 ∧ (u = 0 ↔ ∀ j (h1 : j < a.size) (h2 : j < b.size), j < k → a[j] = b[j]) ∧ Below w.heap.size w wr) (fun _ i _ => m - (intOf i).toNat)
  case atStart => exact ⟨0, 0, rfl, Nat.zero_le _, rfl, by decide, ⟨fun _ j _ _ hj => absurd hj (by omega), fun _ => rfl⟩, Below.refl _ _⟩
  case round =>
    obtain ⟨k, u, rfl, hk, rfl, hu, hiff, hbr⟩ := hrel
    have HI := Lib.hid hiff
    have HB := Lib.hid hbr
    clear hiff hbr
    by_cases hlt : k < m
    · have hlt' : (k : Int) < (m : Int) := by omega
      have ka : k < a.size := by omega
      have kb : k < b.size := by omega
      have ka' : (k : Int) < (a.size : Int) := by omega
      have kb' : (k : Int) < (b.size : Int) := by omega
      have hkb : (k : Int) ≤ 1000000 := by omega
      have hx := u8_xor_nat a[k].toNat b[k].toNat a[k].toNat_lt b[k].toNat_lt
      have hxl : a[k].toNat ^^^ b[k].toNat < 256 := Nat.xor_lt_two_pow (n := 8) a[k].toNat_lt b[k].toNat_lt
      have ho := u8_or_nat u (a[k].toNat ^^^ b[k].toNat) hu hxl
      have hol : u ||| (a[k].toNat ^^^ b[k].toNat) < 256 := Nat.or_lt_two_pow (n := 8) hu hxl
      have HN := Lib.hid (show (u ||| (a[k].toNat ^^^ b[k].toNat) = 0) ↔ ∀ j (h1 : j < a.size) (h2 : j < b.size), j < k + 1 → a[j] = b[j] by
        rw [nat_or_zero, u8xor_zero, HI.out]
        constructor
        · rintro ⟨h1, h2⟩ j j1 j2 hj
          by_cases hjk : j = k
          · subst hjk; exact h2
          · exact h1 j j1 j2 (by omega)
        · intro h
          exact ⟨fun j j1 j2 hj => h j j1 j2 (by omega), h k ka kb (by omega)⟩)
      generalize u ||| (a[k].toNat ^^^ b[k].toNat) = u2 at *
      generalize a[k].toNat ^^^ b[k].toNat = x1 at *
      clear HI
      go_upto_region 5 with (fail)
      refine region_later 9 (by kernel_rfl) (by kernel_rfl) ?_
      simp only [List.take_succ_cons, List.take_zero, List.drop_succ_cons, List.drop_zero]
      repeat (go_big_quiet_step (fail))
      refine wpQuiet_nil ?_
      rintro w' ⟨x, rfl⟩
      have HB2 := Lib.hid (HB.out.trans (x.below.mono HB.out.size))
      clear HB
      generalize x.at = w2 at *
      go_wp2
      go_roundw
      case rel => exact ⟨k + 1, u2, by go_num, hlt, rfl, hol, HN.out, HB2.out⟩
      case measure => simp [intOf]; omega
    · have hlt' : ¬ (k : Int) < (m : Int) := by omega
      have hkm : k = m := by omega
      subst hkm
      by_cases h0 : u = 0
      · subst h0
        by_cases hsz : a.size = b.size
        · have hze : ((a.size : Int) == (b.size : Int)) = true := by rw [hsz]; simp
          have HE := Lib.hid (show a = b from bytes_eq a b hsz (fun j h1 h2 => HI.out.1 rfl j h1 h2 (by have := HM.out; omega)))
          clear hsz
          go_wp2
          go_ret
          exact ⟨ret_bool (decide_eq_true HE.out).symm, HB.out⟩
        · have hze : ((a.size : Int) == (b.size : Int)) = false := by simpa using (by omega : (a.size : Int) ≠ (b.size : Int))
          have HE := Lib.hid (show a ≠ b from fun h => hsz (by rw [h]))
          clear hsz
          go_wp2
          go_ret
          exact ⟨ret_bool (decide_eq_false HE.out).symm, HB.out⟩
      · have h0' : ((u : Int) == 0) = false := by simpa using h0
        have HE := Lib.hid (show a ≠ b from fun h => h0 (HI.out.2 (fun j h1 h2 _ => by subst h; rfl)))
        clear h0
        go_wp2
        go_ret
        exact ⟨ret_bool (decide_eq_false HE.out).symm, HB.out⟩
end Go.Proofs.YtajalllecoclcaaDoor
