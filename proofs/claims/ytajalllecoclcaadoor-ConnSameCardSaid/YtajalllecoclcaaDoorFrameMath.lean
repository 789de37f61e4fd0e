/- Plain mathematics of frames: four bytes of a number, a frame's bytes, what bytes begin with. No program in sight. -/
import Derived.Laws.BitsAllLaws
namespace Go.Proofs.YtajalllecoclcaaDoor.Fr
open Go

def bs (l : List UInt8) : ByteArray := ⟨l.toArray⟩
theorem bs_list (s : ByteArray) : bs s.data.toList = s := by cases s; simp [bs]
theorem list_bs (l : List UInt8) : (bs l).data.toList = l := by simp [bs]
theorem bs_inj {a b : ByteArray} (h : a.data.toList = b.data.toList) : a = b := by rw [← bs_list a, ← bs_list b, h]
theorem size_list (s : ByteArray) : s.data.toList.length = s.size := by simp
theorem list_append (a b : ByteArray) : (a ++ b).data.toList = a.data.toList ++ b.data.toList := by simp
def put4 (n : Nat) : List UInt8 := [UInt8.ofNat (n / 16777216), UInt8.ofNat (n / 65536), UInt8.ofNat (n / 256), UInt8.ofNat n]
def num4 (l : List UInt8) : Nat := (((l.getD 0 0).toNat * 256 + (l.getD 1 0).toNat) * 256 + (l.getD 2 0).toNat) * 256 + (l.getD 3 0).toNat
theorem num4_lt (l : List UInt8) : num4 l < 4294967296 := by
  have h0 := (l.getD 0 0).toNat_lt; have h1 := (l.getD 1 0).toNat_lt; have h2 := (l.getD 2 0).toNat_lt; have h3 := (l.getD 3 0).toNat_lt
  unfold num4; omega
theorem num4_put4 (n : Nat) (h : n < 4294967296) (l : List UInt8) : num4 (put4 n ++ l) = n := by
  have e : ∀ m : Nat, (UInt8.ofNat m).toNat = m % 256 := fun m => by simp
  simp only [num4, put4, List.cons_append, List.nil_append, List.getD_cons_zero, List.getD_cons_succ, e]
  omega
theorem put4_num4 (a b c d : UInt8) (l : List UInt8) : put4 (num4 (a :: b :: c :: d :: l)) = [a, b, c, d] := by
  have ha := a.toNat_lt; have hb := b.toNat_lt; have hc := c.toNat_lt; have hd := d.toNat_lt
  have e : ∀ (m : Nat) (x : UInt8), m % 256 = x.toNat → UInt8.ofNat m = x := fun m x h => by
    apply UInt8.toNat_inj.1; rw [UInt8.toNat_ofNat']; exact h
  simp only [num4, put4, List.getD_cons_zero, List.getD_cons_succ]
  rw [e _ a (by omega), e _ b (by omega), e _ c (by omega), e _ d (by omega)]

/-- may a type be? -/
def mayT (t : Int) : Bool := decide (1 ≤ t ∧ t ≤ 7 ∨ 65 ≤ t ∧ t ≤ 70)
structure Frm where
  t : Int
  j : Int
  d : ByteArray
/-- why a frame has no bytes; 0: it has -/
def wrong (f : Frm) : Int := if mayT f.t = false then 35 else if f.j < 0 ∨ 4294967295 < f.j then 1 else if 65536 < f.d.size then 2 else 0
def enc (f : Frm) : ByteArray := bs [UInt8.ofNat f.t.toNat] ++ bs (put4 f.j.toNat) ++ bs (put4 f.d.size) ++ f.d
structure Got where
  f : Frm
  len : Nat
  err : Int
def none_ (e : Int) : Got := ⟨⟨0, 0, bs []⟩, 0, e⟩
def dec (s : ByteArray) : Got :=
  if s.size = 0 then none_ 3 else
  if mayT ((s.data.toList.getD 0 0).toNat : Int) = false then none_ 35 else
  if s.size < 9 then none_ 3 else
  if 65536 < num4 (s.data.toList.drop 5) then none_ 2 else
  if s.size < 9 + num4 (s.data.toList.drop 5) then none_ 3 else
  ⟨⟨((s.data.toList.getD 0 0).toNat : Int), (num4 (s.data.toList.drop 1) : Int), s.extract 9 (9 + num4 (s.data.toList.drop 5))⟩, 9 + num4 (s.data.toList.drop 5), 0⟩

theorem enc_list (f : Frm) : (enc f).data.toList = UInt8.ofNat f.t.toNat :: (put4 f.j.toNat ++ (put4 f.d.size ++ f.d.data.toList)) := by
  unfold enc; simp [bs]
theorem enc_size (f : Frm) : (enc f).size = 9 + f.d.size := by
  rw [← size_list, enc_list]; simp [put4]; omega
theorem mayT_bd {t : Int} (h : mayT t = true) : 1 ≤ t ∧ t ≤ 70 := by unfold mayT at h; simp at h; omega
/-- decode of encode is the frame and its length, whatever stands behind -/
theorem dec_enc (f : Frm) (more : ByteArray) (h : wrong f = 0) : dec (enc f ++ more) = ⟨f, (enc f).size, 0⟩ := by
  unfold wrong at h
  have hm : mayT f.t = true := by
    cases hmt : mayT f.t with
    | true => rfl
    | false => rw [hmt, if_pos rfl] at h; cases h
  rw [hm, if_neg (by decide)] at h
  by_cases hj : f.j < 0 ∨ 4294967295 < f.j
  · rw [if_pos hj] at h; cases h
  rw [if_neg hj] at h
  by_cases hd : 65536 < f.d.size
  · rw [if_pos hd] at h; cases h
  have hb := mayT_bd hm
  have hl : (enc f ++ more).data.toList = UInt8.ofNat f.t.toNat :: (put4 f.j.toNat ++ (put4 f.d.size ++ (f.d.data.toList ++ more.data.toList))) := by
    rw [list_append, enc_list]; simp
  have hs : (enc f ++ more).size = 9 + f.d.size + more.size := by rw [ByteArray.size_append, enc_size]
  have h0 : (((enc f ++ more).data.toList.getD 0 0).toNat : Int) = f.t := by
    rw [hl]
    show ((UInt8.ofNat f.t.toNat).toNat : Int) = f.t
    rw [UInt8.toNat_ofNat']; omega
  have h5 : num4 ((enc f ++ more).data.toList.drop 5) = f.d.size := by
    rw [hl]
    have : (UInt8.ofNat f.t.toNat :: (put4 f.j.toNat ++ (put4 f.d.size ++ (f.d.data.toList ++ more.data.toList)))).drop 5 = put4 f.d.size ++ (f.d.data.toList ++ more.data.toList) := by simp [put4]
    rw [this, num4_put4 _ (by omega)]
  have h1 : (num4 ((enc f ++ more).data.toList.drop 1) : Int) = f.j := by
    rw [hl]
    have : (UInt8.ofNat f.t.toNat :: (put4 f.j.toNat ++ (put4 f.d.size ++ (f.d.data.toList ++ more.data.toList)))).drop 1 = put4 f.j.toNat ++ (put4 f.d.size ++ (f.d.data.toList ++ more.data.toList)) := rfl
    rw [this, num4_put4 _ (by omega)]; omega
  have hx : (enc f ++ more).extract 9 (9 + f.d.size) = f.d := by
    apply bs_inj
    rw [ByteArray.data_extract, Array.toList_extract, hl]
    simp [put4]
  unfold dec
  rw [if_neg (by omega), h0, hm, if_neg (by decide), if_neg (by omega), h5, if_neg hd, if_neg (by omega), h1, hx, enc_size]
theorem getD_drop {α : Type} (l : List α) (a i : Nat) (x : α) : (l.drop a).getD i x = l.getD (a + i) x := by simp [List.getD_eq_getElem?_getD]
/-- encode of decode are the bytes -/
theorem enc_dec (s : ByteArray) (h : (dec s).err = 0) : wrong (dec s).f = 0 ∧ enc (dec s).f = s.extract 0 (dec s).len ∧ (dec s).len ≤ s.size ∧ 9 ≤ (dec s).len := by
  unfold dec at h ⊢
  by_cases c1 : s.size = 0
  · rw [if_pos c1] at h; cases h
  rw [if_neg c1] at h ⊢
  by_cases c2 : mayT ((s.data.toList.getD 0 0).toNat : Int) = false
  · rw [if_pos c2] at h; cases h
  rw [if_neg c2] at h ⊢
  by_cases c3 : s.size < 9
  · rw [if_pos c3] at h; cases h
  rw [if_neg c3] at h ⊢
  by_cases c4 : 65536 < num4 (s.data.toList.drop 5)
  · rw [if_pos c4] at h; cases h
  rw [if_neg c4] at h ⊢
  by_cases c5 : s.size < 9 + num4 (s.data.toList.drop 5)
  · rw [if_pos c5] at h; cases h
  rw [if_neg c5] at h ⊢
  have hsz : (s.extract 9 (9 + num4 (s.data.toList.drop 5))).size = num4 (s.data.toList.drop 5) := by rw [ByteArray.size_extract]; omega
  have hlt := num4_lt (s.data.toList.drop 1)
  refine ⟨?_, ?_, by show 9 + _ ≤ _; omega, by show 9 ≤ 9 + _; omega⟩
  · unfold wrong
    simp only
    rw [if_neg c2, if_neg (by omega), hsz, if_neg (by omega)]
  · apply bs_inj
    rw [enc_list]
    simp only [hsz]
    obtain ⟨a, b1, b2, b3, b4, c1', c2', c3', c4', r, hl⟩ : ∃ a b1 b2 b3 b4 c1 c2 c3 c4 r, s.data.toList = a :: b1 :: b2 :: b3 :: b4 :: c1 :: c2 :: c3 :: c4 :: r := by
      have hlen : 9 ≤ s.data.toList.length := by rw [size_list]; omega
      match hs : s.data.toList, hlen with
      | a :: b1 :: b2 :: b3 :: b4 :: c1 :: c2 :: c3 :: c4 :: r, _ => exact ⟨a, b1, b2, b3, b4, c1, c2, c3, c4, r, rfl⟩
    rw [ByteArray.data_extract, Array.toList_extract, ByteArray.data_extract, Array.toList_extract, hl]
    simp only [List.getD_cons_zero, List.drop_succ_cons, List.drop_zero, Int.toNat_natCast, put4_num4, List.extract_eq_take_drop, List.drop_zero, Nat.sub_zero, Nat.add_sub_cancel_left]
    rw [show UInt8.ofNat a.toNat = a from by simp]
    rw [show 9 + num4 (c1' :: c2' :: c3' :: c4' :: r) = num4 (c1' :: c2' :: c3' :: c4' :: r) + 9 by omega]
    simp
end Go.Proofs.YtajalllecoclcaaDoor.Fr
