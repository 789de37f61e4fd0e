/- Plain mathematics of runes' bytes: there and back. No program in sight. -/
import Derived.Test.YtajalllecoclcaaDoorTokMath
import Derived.Lib.RuneBytes
namespace Go.Proofs.YtajalllecoclcaaDoor.Tk
open Go

theorem at_cons0 (a : UInt8) (l : List UInt8) : at_ (a :: l) 0 = a.toNat := rfl
theorem at_cons1 (a b : UInt8) (l : List UInt8) : at_ (a :: b :: l) 1 = b.toNat := rfl
theorem at_cons2 (a b c : UInt8) (l : List UInt8) : at_ (a :: b :: c :: l) 2 = c.toNat := rfl
theorem at_cons3 (a b c e : UInt8) (l : List UInt8) : at_ (a :: b :: c :: e :: l) 3 = e.toNat := rfl
/-- may a number be a rune? -/
def isR (n : Int) : Prop := (0 ≤ n ∧ n < 55296) ∨ (57343 < n ∧ n ≤ 1114111)
instance (n : Int) : Decidable (isR n) := by unfold isR; exact inferInstance
/-- a rune's bytes -/
def enc (n : Int) : List UInt8 := Lib.encodeRune n
theorem u8n (x : Int) (h0 : 0 ≤ x) (h1 : x < 256) : (x.toNat.toUInt8).toNat = x.toNat := by
  rw [Nat.toUInt8_eq, UInt8.toNat_ofNat']
  omega
theorem enc1 (n : Int) (h0 : 0 ≤ n) (h1 : n ≤ 127) : enc n = [n.toNat.toUInt8] := by unfold enc Lib.encodeRune; rw [Lib.encodeRuneZ_one h0 h1]; rfl
theorem enc2 (n : Int) (h0 : 128 ≤ n) (h1 : n ≤ 2047) : enc n = [(192 + n / 64).toNat.toUInt8, (128 + n % 64).toNat.toUInt8] := by unfold enc Lib.encodeRune; rw [Lib.encodeRuneZ_two h0 h1]; rfl
theorem enc3 (n : Int) (h : (2048 ≤ n ∧ n < 55296) ∨ (57343 < n ∧ n ≤ 65535)) : enc n = [(224 + n / 4096).toNat.toUInt8, (128 + n / 64 % 64).toNat.toUInt8, (128 + n % 64).toNat.toUInt8] := by unfold enc Lib.encodeRune; rw [Lib.encodeRuneZ_three h]; rfl
theorem enc4 (n : Int) (h0 : 65536 ≤ n) (h1 : n ≤ 1114111) : enc n = [(240 + n / 262144).toNat.toUInt8, (128 + n / 4096 % 64).toNat.toUInt8, (128 + n / 64 % 64).toNat.toUInt8, (128 + n % 64).toNat.toUInt8] := by unfold enc Lib.encodeRune; rw [Lib.encodeRuneZ_four h0 h1]; rfl
theorem isR_cases (n : Int) (h : isR n) : (0 ≤ n ∧ n ≤ 127) ∨ (128 ≤ n ∧ n ≤ 2047) ∨ ((2048 ≤ n ∧ n < 55296) ∨ (57343 < n ∧ n ≤ 65535)) ∨ (65536 ≤ n ∧ n ≤ 1114111) := by unfold isR at h; omega
set_option maxHeartbeats 1000000 in
theorem d_enc (n : Int) (h : isR n) (t : List UInt8) : d (enc n ++ t) = (n.toNat, (enc n).length) := by
  rcases isR_cases n h with ⟨h0, h1⟩ | ⟨h0, h1⟩ | h3 | ⟨h0, h1⟩
  · rw [enc1 n h0 h1]
    unfold d
    rw [List.cons_append, at_cons0, u8n _ h0 (by omega), Lib.decodeN, if_pos (by omega)]; rfl
  · rw [enc2 n h0 h1]
    unfold d
    rw [List.cons_append, List.cons_append, at_cons0, at_cons1, u8n _ (by omega) (by omega), u8n _ (by omega) (by omega), Lib.decodeN, if_neg (by omega), if_pos (by simp; omega), if_pos (by omega)]
    refine Prod.ext ?_ rfl
    show _ = n.toNat
    simp only
    omega
  · rw [enc3 n h3]
    unfold d
    rw [List.cons_append, List.cons_append, List.cons_append, at_cons0, at_cons1, at_cons2, u8n _ (by omega) (by omega), u8n _ (by omega) (by omega), u8n _ (by omega) (by omega), Lib.decodeN, if_neg (by omega), if_neg (by omega), if_pos (by simp; omega), if_pos (by omega)]
    refine Prod.ext ?_ rfl
    show _ = n.toNat
    simp only
    omega
  · rw [enc4 n h0 h1]
    unfold d
    rw [List.cons_append, List.cons_append, List.cons_append, List.cons_append, at_cons0, at_cons1, at_cons2, at_cons3, u8n _ (by omega) (by omega), u8n _ (by omega) (by omega), u8n _ (by omega) (by omega), u8n _ (by omega) (by omega), Lib.decodeN, if_neg (by omega), if_neg (by omega), if_neg (by omega), if_pos (by simp; omega), if_pos (by omega)]
    refine Prod.ext ?_ rfl
    show _ = n.toNat
    simp only
    omega
theorem enc_len (n : Int) : 1 ≤ (enc n).length ∧ (enc n).length ≤ 4 := by
  unfold enc Lib.encodeRune
  rw [List.length_map]
  exact Lib.encodeRuneZ_length n
theorem num_enc (n : Int) (h : isR n) (t : List UInt8) : num (d (enc n ++ t)) = n := by
  rw [d_enc n h]
  have h0 : 0 ≤ n := by unfold isR at h; omega
  unfold num
  simp only
  by_cases hc : n.toNat = 65533
  · have : (enc n).length = 3 := by rw [enc3 n (by omega)]; rfl
    rw [if_neg (by omega)]; omega
  · rw [if_neg (fun x => hc x.1)]; omega
def text (l : List Int) : List UInt8 := l.flatMap enc
/-- the runes of a text made of numbers are the numbers -/
theorem runes_text : ∀ (l : List Int), (∀ n ∈ l, isR n) → (runes (text l)).map (·.1) = l
  | [], _ => rfl
  | n :: l, h => by
    have hn := h n (List.mem_cons_self ..)
    have he : text (n :: l) = enc n ++ text l := by unfold text; rw [List.flatMap_cons]
    have hl := enc_len n
    rw [he, runes_cons _ (by rw [List.length_append]; omega), num_enc n hn, d_enc n hn]
    simp only [List.map_cons, List.drop_left]
    rw [runes_text l (fun x hx => h x (List.mem_cons_of_mem _ hx))]
theorem text_len_le (l : List Int) : (text l).length ≤ 4 * l.length := by
  induction l with
  | nil => exact Nat.le_refl _
  | cons n l ih =>
    have h := enc_len n
    unfold text at ih ⊢
    rw [List.flatMap_cons, List.length_append, List.length_cons]
    omega
theorem toU8 (a : UInt8) (x : Int) (h : x = (a.toNat : Int)) : x.toNat.toUInt8 = a := by
  apply UInt8.toNat_inj.1
  have := a.toNat_lt
  rw [u8n x (by omega) (by omega)]
  omega
theorem len2 (l : List UInt8) (h : 1 < l.length) : ∃ a b t, l = a :: b :: t := by
  cases l with
  | nil => simp at h
  | cons a l =>
    cases l with
    | nil => simp at h
    | cons b t => exact ⟨a, b, t, rfl⟩
theorem len3 (l : List UInt8) (h : 2 < l.length) : ∃ a b c t, l = a :: b :: c :: t := by
  obtain ⟨a, b, t, rfl⟩ := len2 l (by omega)
  cases t with
  | nil => simp at h
  | cons c t => exact ⟨a, b, c, t, rfl⟩
theorem len4 (l : List UInt8) (h : 3 < l.length) : ∃ a b c e t, l = a :: b :: c :: e :: t := by
  obtain ⟨a, b, c, t, rfl⟩ := len3 l (by omega)
  cases t with
  | nil => simp at h
  | cons e t => exact ⟨a, b, c, e, t, rfl⟩
theorem enc_b2 (a b : UInt8) (z : Nat) (ha : a.toNat / 32 = 6) (hb : b.toNat / 64 = 2) (hz : z = a.toNat % 32 * 64 + b.toNat % 64) (hg : z ≥ 128) : isR (z : Int) ∧ enc (z : Int) = [a, b] := by
  have h1 := a.toNat_lt; have h2 := b.toNat_lt
  refine ⟨by unfold isR; omega, ?_⟩
  rw [enc2 _ (by omega) (by omega), toU8 a _ (by omega), toU8 b _ (by omega)]
theorem enc_b3 (a b c : UInt8) (z : Nat) (ha : a.toNat / 16 = 14) (hb : b.toNat / 64 = 2) (hc : c.toNat / 64 = 2) (hz : z = a.toNat % 16 * 4096 + b.toNat % 64 * 64 + c.toNat % 64) (hg : z ≥ 2048 ∧ (z < 55296 ∨ (57344 ≤ z ∧ z ≤ 1114111))) : isR (z : Int) ∧ enc (z : Int) = [a, b, c] := by
  have h1 := a.toNat_lt; have h2 := b.toNat_lt; have h3 := c.toNat_lt
  refine ⟨by unfold isR; omega, ?_⟩
  rw [enc3 _ (by omega), toU8 a _ (by omega), toU8 b _ (by omega), toU8 c _ (by omega)]
theorem enc_b4 (a b c e : UInt8) (z : Nat) (ha : a.toNat / 8 = 30) (hb : b.toNat / 64 = 2) (hc : c.toNat / 64 = 2) (he : e.toNat / 64 = 2) (hz : z = a.toNat % 8 * 262144 + b.toNat % 64 * 4096 + c.toNat % 64 * 64 + e.toNat % 64) (hg : z ≥ 65536 ∧ (z < 55296 ∨ (57344 ≤ z ∧ z ≤ 1114111))) : isR (z : Int) ∧ enc (z : Int) = [a, b, c, e] := by
  have h1 := a.toNat_lt; have h2 := b.toNat_lt; have h3 := c.toNat_lt; have h4 := e.toNat_lt
  refine ⟨by unfold isR; omega, ?_⟩
  rw [enc4 _ (by omega) (by omega), toU8 a _ (by omega), toU8 b _ (by omega), toU8 c _ (by omega), toU8 e _ (by omega)]
/-- how Go reads a rune: five cases -/
theorem d_cases (l : List UInt8) : d l = (65533, 1) ∨ (at_ l 0 < 128 ∧ d l = (at_ l 0, 1)) ∨
    (∃ z, at_ l 0 / 32 = 6 ∧ 1 < l.length ∧ at_ l 1 / 64 = 2 ∧ z = at_ l 0 % 32 * 64 + at_ l 1 % 64 ∧ z ≥ 128 ∧ d l = (z, 2)) ∨
    (∃ z, at_ l 0 / 16 = 14 ∧ 2 < l.length ∧ at_ l 1 / 64 = 2 ∧ at_ l 2 / 64 = 2 ∧ z = at_ l 0 % 16 * 4096 + at_ l 1 % 64 * 64 + at_ l 2 % 64 ∧ (z ≥ 2048 ∧ (z < 55296 ∨ (57344 ≤ z ∧ z ≤ 1114111))) ∧ d l = (z, 3)) ∨
    (∃ z, at_ l 0 / 8 = 30 ∧ 3 < l.length ∧ at_ l 1 / 64 = 2 ∧ at_ l 2 / 64 = 2 ∧ at_ l 3 / 64 = 2 ∧ z = at_ l 0 % 8 * 262144 + at_ l 1 % 64 * 4096 + at_ l 2 % 64 * 64 + at_ l 3 % 64 ∧ (z ≥ 65536 ∧ (z < 55296 ∨ (57344 ≤ z ∧ z ≤ 1114111))) ∧ d l = (z, 4)) := by
  unfold d
  generalize at_ l 0 = b0
  generalize at_ l 1 = b1
  generalize at_ l 2 = b2
  generalize at_ l 3 = b3
  generalize l.length = n
  unfold Lib.decodeN
  by_cases h1 : b0 < 128
  · rw [if_pos h1]; exact .inr (.inl ⟨h1, rfl⟩)
  · rw [if_neg h1]
    by_cases h2 : b0 / 32 = 6 ∧ (1 < n ∧ b1 / 64 = 2)
    · rw [if_pos h2]
      split
      · rename_i hg; exact .inr (.inr (.inl ⟨_, h2.1, h2.2.1, h2.2.2, rfl, hg, rfl⟩))
      · exact .inl rfl
    · rw [if_neg h2]
      by_cases h3 : b0 / 16 = 14 ∧ (1 < n ∧ b1 / 64 = 2) ∧ (2 < n ∧ b2 / 64 = 2)
      · rw [if_pos h3]
        split
        · rename_i hg; exact .inr (.inr (.inr (.inl ⟨_, h3.1, h3.2.2.1, h3.2.1.2, h3.2.2.2, rfl, hg, rfl⟩)))
        · exact .inl rfl
      · rw [if_neg h3]
        by_cases h4 : b0 / 8 = 30 ∧ (1 < n ∧ b1 / 64 = 2) ∧ (2 < n ∧ b2 / 64 = 2) ∧ (3 < n ∧ b3 / 64 = 2)
        · rw [if_pos h4]
          split
          · rename_i hg; exact .inr (.inr (.inr (.inr ⟨_, h4.1, h4.2.2.2.1, h4.2.1.2, h4.2.2.1.2, h4.2.2.2.2, rfl, hg, rfl⟩)))
          · exact .inl rfl
        · rw [if_neg h4]; exact .inl rfl
/-- a rune that is not bad has the bytes that it was read from -/
theorem enc_d (l : List UInt8) (h : 0 < l.length) (hb : ¬ ((d l).1 = 65533 ∧ (d l).2 = 1)) : isR ((d l).1 : Int) ∧ enc ((d l).1 : Int) = l.take (d l).2 := by
  rcases d_cases l with e | ⟨h1, e⟩ | ⟨z, h1, h2, h3, hz, hg, e⟩ | ⟨z, h1, h2, h3, h4, hz, hg, e⟩ | ⟨z, h1, h2, h3, h4, h5, hz, hg, e⟩
  · rw [e] at hb; exact absurd ⟨rfl, rfl⟩ hb
  · rw [e]
    cases l with
    | nil => simp at h
    | cons a t =>
      rw [at_cons0] at h1 ⊢
      refine ⟨by unfold isR; simp only; omega, ?_⟩
      simp only
      rw [enc1 _ (by omega) (by omega), List.take_succ_cons, List.take_zero, toU8 a _ rfl]
  · rw [e]
    obtain ⟨a, b, t, rfl⟩ := len2 l h2
    exact enc_b2 a b z h1 h3 hz hg
  · rw [e]
    obtain ⟨a, b, c, t, rfl⟩ := len3 l h2
    exact enc_b3 a b c z h1 h3 h4 hz hg
  · rw [e]
    obtain ⟨a, b, c, f, t, rfl⟩ := len4 l h2
    exact enc_b4 a b c f z h1 h3 h4 h5 hz hg
theorem num_cases (l : List UInt8) (h : 0 < l.length) : num (d l) = -1 ∨ (0 ≤ num (d l) ∧ isR (num (d l)) ∧ enc (num (d l)) = l.take (d l).2) := by
  by_cases hb : (d l).1 = 65533 ∧ (d l).2 = 1
  · left; unfold num; rw [if_pos hb]
  · right
    have e : num (d l) = ((d l).1 : Int) := by unfold num; rw [if_neg hb]
    rw [e]
    exact ⟨by omega, enc_d l h hb⟩
/-- is a text's rune bad? -/
def someBad (R : List (Int × Nat)) : Bool := R.any fun q => decide (q.1 < 0)
/-- the text of the runes is the text, if none is bad -/
theorem text_runes : ∀ (m : Nat) (l : List UInt8), l.length ≤ m → someBad (runes l) = false → (∀ n ∈ (runes l).map (·.1), isR n) ∧ text ((runes l).map (·.1)) = l
  | _, [], _, _ => ⟨fun n hn => (by cases hn), rfl⟩
  | 0, b :: l, h, _ => by simp at h
  | m + 1, b :: l, h, hs => by
    have hb := d_bd (b :: l) (by simp)
    rw [runes_cons _ (by simp)] at hs ⊢
    unfold someBad at hs
    rw [List.any_cons, Bool.or_eq_false_iff] at hs
    have ih := text_runes m ((b :: l).drop (d (b :: l)).2) (by rw [List.length_drop]; simp at h ⊢; omega) hs.2
    have hn : ¬ num (d (b :: l)) < 0 := of_decide_eq_false hs.1
    rcases num_cases (b :: l) (by simp) with h1 | ⟨_, h2, h3⟩
    · omega
    · refine ⟨fun n hn => ?_, ?_⟩
      · rw [List.map_cons] at hn
        rcases List.mem_cons.1 hn with rfl | hn
        · exact h2
        · exact ih.1 n hn
      · rw [List.map_cons]
        unfold text at ih ⊢
        rw [List.flatMap_cons, ih.2]
        show enc (num (d (b :: l))) ++ _ = _
        rw [h3, List.take_append_drop]
theorem bad_some : ∀ (m : Nat) (l : List UInt8), l.length ≤ m → someBad (runes l) = true → ∃ n ∈ (runes l).map (·.1), ¬ isR n := by
  intro m l _ hs
  unfold someBad at hs
  rw [List.any_eq_true] at hs
  obtain ⟨q, hq, hd⟩ := hs
  refine ⟨q.1, List.mem_map_of_mem hq, ?_⟩
  have := of_decide_eq_true hd
  unfold isR
  omega
end Go.Proofs.YtajalllecoclcaaDoor.Tk
