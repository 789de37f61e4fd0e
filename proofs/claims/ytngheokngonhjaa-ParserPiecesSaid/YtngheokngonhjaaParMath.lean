/- Plain mathematics of a parser: what it keeps, what Next tells, all frames by a room. No program in sight. -/
import Derived.Test.YtngheokngonhjaaFrameMath
namespace Go.Proofs.Ytngheokngonhjaa
open Go

/-- a parser -/
structure Ps where
  room : Nat
  s : ByteArray
  wrong : Int
/-- more bytes than the room has place for -/
def long (p : Ps) : Bool := decide (9 ≤ p.s.size ∧ p.room < 9 + Fr.num4 (p.s.data.toList.drop 5))
def feedN (p : Ps) (s : ByteArray) : Nat := if p.wrong = 0 then min s.size (p.room - p.s.size) else 0
def feed (p : Ps) (s : ByteArray) : Ps := if p.wrong = 0 then ⟨p.room, p.s ++ s.extract 0 (feedN p s), 0⟩ else p
/-- what the frame with which bytes begin tells, by a room -/
def rnext (s : ByteArray) (room : Nat) : Fr.Got :=
  if (Fr.dec s).err = 35 ∨ (Fr.dec s).err = 2 then Fr.dec s else if 9 ≤ s.size ∧ room < 9 + Fr.num4 (s.data.toList.drop 5) then Fr.none_ 2 else Fr.dec s
theorem Fr.dec_err (s : ByteArray) : (Fr.dec s).err = 0 ∨ Fr.dec s = Fr.none_ 2 ∨ Fr.dec s = Fr.none_ 3 ∨ Fr.dec s = Fr.none_ 35 := by
  unfold Fr.dec
  repeat' split
  all_goals simp [Fr.none_]
theorem rnext_err (s : ByteArray) (room : Nat) : (rnext s room).err = 0 ∨ rnext s room = Fr.none_ 2 ∨ rnext s room = Fr.none_ 3 ∨ rnext s room = Fr.none_ 35 := by
  have h := Fr.dec_err s
  unfold rnext
  split
  · exact h
  · split
    · exact .inr (.inl rfl)
    · exact h
structure Nx where
  f : Fr.Frm
  ok : Bool
  err : Int
def zeroF : Fr.Frm := ⟨0, 0, ⟨#[]⟩⟩
/-- what Next tells -/
def nextV (p : Ps) : Nx :=
  if p.wrong ≠ 0 then ⟨zeroF, false, p.wrong⟩ else if (rnext p.s p.room).err = 0 then ⟨(rnext p.s p.room).f, true, 0⟩ else if (rnext p.s p.room).err = 3 then ⟨zeroF, false, 0⟩ else ⟨zeroF, false, (rnext p.s p.room).err⟩
/-- what Next leaves -/
def nextP (p : Ps) : Ps :=
  if p.wrong ≠ 0 then p else if (rnext p.s p.room).err = 0 then ⟨p.room, p.s.extract (rnext p.s p.room).len p.s.size, 0⟩ else if (rnext p.s p.room).err = 3 then p else ⟨p.room, ⟨#[]⟩, (rnext p.s p.room).err⟩
theorem nn {a : Int} (h : a = 0) : ¬ a ≠ 0 := fun x => x h
theorem next_wrong (p : Ps) (h : p.wrong ≠ 0) : nextV p = ⟨zeroF, false, p.wrong⟩ ∧ nextP p = p := by unfold nextV nextP; rw [if_pos h, if_pos h]; exact ⟨rfl, rfl⟩
theorem next_ok (p : Ps) (h : p.wrong = 0) (he : (Fr.dec p.s).err = 0) (hl : long p = false) : nextV p = ⟨(Fr.dec p.s).f, true, 0⟩ ∧ nextP p = ⟨p.room, p.s.extract (Fr.dec p.s).len p.s.size, 0⟩ := by
  have hr : rnext p.s p.room = Fr.dec p.s := by
    unfold rnext; rw [he, if_neg (by decide), if_neg (by unfold long at hl; simpa using hl)]
  unfold nextV nextP
  rw [if_neg (nn h), if_neg (nn h), hr, if_pos he, if_pos he]
  exact ⟨rfl, rfl⟩
theorem next_bad (p : Ps) (h : p.wrong = 0) (er : Int) (he : Fr.dec p.s = Fr.none_ er) (h2 : er = 35 ∨ er = 2) : nextV p = ⟨zeroF, false, er⟩ ∧ nextP p = ⟨p.room, ⟨#[]⟩, er⟩ := by
  have hr : rnext p.s p.room = Fr.none_ er := by
    have h2' : (Fr.none_ er).err = 35 ∨ (Fr.none_ er).err = 2 := h2
    unfold rnext; rw [he, if_pos h2']
  unfold nextV nextP
  rw [if_neg (nn h), if_neg (nn h), hr]
  rcases h2 with rfl | rfl <;> exact ⟨rfl, rfl⟩
theorem next_long (p : Ps) (h : p.wrong = 0) (he : ¬ ((Fr.dec p.s).err = 35 ∨ (Fr.dec p.s).err = 2)) (hl : long p = true) : nextV p = ⟨zeroF, false, 2⟩ ∧ nextP p = ⟨p.room, ⟨#[]⟩, 2⟩ := by
  have hr : rnext p.s p.room = Fr.none_ 2 := by
    unfold rnext; rw [if_neg he, if_pos (by unfold long at hl; simpa using hl)]
  unfold nextV nextP
  rw [if_neg (nn h), if_neg (nn h), hr]
  exact ⟨rfl, rfl⟩
theorem next_short (p : Ps) (h : p.wrong = 0) (he : Fr.dec p.s = Fr.none_ 3) (hl : long p = false) : nextV p = ⟨zeroF, false, 0⟩ ∧ nextP p = p := by
  have hr : rnext p.s p.room = Fr.none_ 3 := by
    unfold rnext; rw [he, if_neg (by decide), if_neg (by unfold long at hl; simpa using hl)]
  unfold nextV nextP
  rw [if_neg (nn h), if_neg (nn h), hr]
  exact ⟨rfl, rfl⟩

theorem nextP_room (p : Ps) : (nextP p).room = p.room := by
  unfold nextP
  repeat' split
  all_goals rfl
theorem nextP_size (p : Ps) : (nextP p).s.size ≤ p.s.size := by
  unfold nextP
  repeat' split
  · exact Nat.le_refl _
  · show (p.s.extract _ _).size ≤ _; rw [ByteArray.size_extract]; omega
  · exact Nat.le_refl _
  · exact Nat.zero_le _
theorem feed_room (p : Ps) (s : ByteArray) : (feed p s).room = p.room := by unfold feed; split <;> rfl
theorem feed_wrong (p : Ps) (s : ByteArray) : (feed p s).wrong = p.wrong := by unfold feed; split <;> simp_all
theorem feedN_le (p : Ps) (s : ByteArray) : feedN p s ≤ s.size := by unfold feedN; split <;> omega
theorem feed_size (p : Ps) (s : ByteArray) : (feed p s).s.size = p.s.size + feedN p s := by
  have h := feedN_le p s
  unfold feed
  split
  · show (p.s ++ _).size = _; rw [ByteArray.size_append, ByteArray.size_extract]; omega
  · unfold feedN; rw [if_neg ‹_›]; rfl
theorem feed_le (p : Ps) (s : ByteArray) (h : p.s.size ≤ p.room) : (feed p s).s.size ≤ p.room := by
  rw [feed_size]; unfold feedN; split <;> omega

/-- all frames by a room, with fuel n -/
def rrun (s : ByteArray) (room : Nat) : Nat → Nat → List Fr.Frm → List Fr.Frm × Nat × Int
  | 0, p, fs => (fs, p, 0)
  | n + 1, p, fs => if (rnext (s.extract p s.size) room).err = 0 then rrun s room n (p + (rnext (s.extract p s.size) room).len) (fs ++ [(rnext (s.extract p s.size) room).f]) else (fs, p, if (rnext (s.extract p s.size) room).err = 3 then 0 else (rnext (s.extract p s.size) room).err)
theorem rrun_step (s : ByteArray) (room n p : Nat) (fs : List Fr.Frm) (h : (rnext (s.extract p s.size) room).err = 0) : rrun s room (n + 1) p fs = rrun s room n (p + (rnext (s.extract p s.size) room).len) (fs ++ [(rnext (s.extract p s.size) room).f]) := by
  conv => lhs; unfold rrun
  rw [if_pos h]
theorem rrun_stop (s : ByteArray) (room n p : Nat) (fs : List Fr.Frm) (h : (rnext (s.extract p s.size) room).err ≠ 0) : rrun s room (n + 1) p fs = (fs, p, if (rnext (s.extract p s.size) room).err = 3 then 0 else (rnext (s.extract p s.size) room).err) := by
  conv => lhs; unfold rrun
  rw [if_neg h]
theorem rrun_short (s : ByteArray) (room n p : Nat) (fs : List Fr.Frm) (h : (rnext (s.extract p s.size) room).err = 3) : rrun s room n p fs = (fs, p, 0) := by
  cases n with
  | zero => rfl
  | succ n => rw [rrun_stop _ _ _ _ _ (by omega), if_pos h]
theorem rnext_dec (s : ByteArray) (room : Nat) (h : (rnext s room).err = 0) : rnext s room = Fr.dec s ∧ (Fr.dec s).err = 0 := by
  unfold rnext at h ⊢
  split at h
  · rename_i h1; omega
  · split at h
    · cases h
    · rw [if_neg ‹_›, if_neg ‹_›]; exact ⟨rfl, h⟩
theorem rnext_len (s : ByteArray) (room : Nat) (h : (rnext s room).err = 0) : 9 ≤ (rnext s room).len ∧ (rnext s room).len ≤ s.size := by
  obtain ⟨h1, h2⟩ := rnext_dec s room h
  have := Fr.enc_dec s h2
  rw [h1]; omega
/-- a frame that is not whole leaves room -/
theorem rnext_room (s : ByteArray) (room : Nat) (h9 : 9 ≤ room) (h : (rnext s room).err = 3) : s.size < room := by
  unfold rnext at h
  split at h
  · rename_i h1; omega
  · split at h
    · cases h
    · rename_i h2
      by_cases h3 : s.size < 9
      · omega
      · have h4 : ¬ room < 9 + Fr.num4 (s.data.toList.drop 5) := by omega
        unfold Fr.dec at h
        rw [if_neg (by omega)] at h
        split at h
        · cases h
        split at h
        · cases h
        split at h
        · omega
        · cases h
theorem rnext_empty (room : Nat) (s : ByteArray) (h : s.size = 0) : (rnext s room).err = 3 := by
  have hd : Fr.dec s = Fr.none_ 3 := by unfold Fr.dec; rw [if_pos h]
  unfold rnext
  rw [hd, if_neg (by decide), if_neg (by omega)]; rfl
theorem drop_append_num4 (t more : ByteArray) (k : Nat) (h : k + 4 ≤ t.size) : Fr.num4 ((t ++ more).data.toList.drop k) = Fr.num4 (t.data.toList.drop k) := by
  unfold Fr.num4
  simp only [Fr.getD_drop, Fr.list_append]
  have e : ∀ i, i < t.size → (t.data.toList ++ more.data.toList).getD i 0 = t.data.toList.getD i 0 := fun i hi => by
    simp only [List.getD_eq_getElem?_getD]
    rw [List.getElem?_append_left (by rw [Fr.size_list]; exact hi)]
  rw [e _ (by omega), e _ (by omega), e _ (by omega), e _ (by omega)]
/-- what a beginning tells, unless it is not whole, all bytes tell -/
theorem rnext_append (t more : ByteArray) (room : Nat) (h : (rnext t room).err ≠ 3) : rnext (t ++ more) room = rnext t room := by
  have hsz : (t ++ more).size = t.size + more.size := by simp
  by_cases h0 : t.size = 0
  · exact absurd (rnext_empty room t h0) h
  have hg : (t ++ more).data.toList.getD 0 0 = t.data.toList.getD 0 0 := by
    simp only [List.getD_eq_getElem?_getD, Fr.list_append]
    rw [List.getElem?_append_left (by rw [Fr.size_list]; omega)]
  by_cases hm : Fr.mayT ((t.data.toList.getD 0 0).toNat : Int) = false
  · have d1 : Fr.dec t = Fr.none_ 35 := by unfold Fr.dec; rw [if_neg h0, if_pos hm]
    have d2 : Fr.dec (t ++ more) = Fr.none_ 35 := by unfold Fr.dec; rw [if_neg (by omega), hg, if_pos hm]
    unfold rnext
    rw [d1, d2, if_pos (.inl rfl), if_pos (.inl rfl)]
  by_cases h9 : t.size < 9
  · exfalso; apply h
    have d1 : Fr.dec t = Fr.none_ 3 := by unfold Fr.dec; rw [if_neg h0, if_neg hm, if_pos h9]
    unfold rnext
    rw [d1, if_neg (by decide), if_neg (by omega)]; rfl
  have h5 := drop_append_num4 t more 5 (by omega)
  have h1 := drop_append_num4 t more 1 (by omega)
  by_cases hn : 65536 < Fr.num4 (t.data.toList.drop 5)
  · have d1 : Fr.dec t = Fr.none_ 2 := by unfold Fr.dec; rw [if_neg h0, if_neg hm, if_neg h9, if_pos hn]
    have d2 : Fr.dec (t ++ more) = Fr.none_ 2 := by unfold Fr.dec; rw [if_neg (by omega), hg, if_neg hm, if_neg (by omega), h5, if_pos hn]
    unfold rnext
    rw [d1, d2, if_pos (.inr rfl), if_pos (.inr rfl)]
  by_cases hs : t.size < 9 + Fr.num4 (t.data.toList.drop 5)
  · have d1 : Fr.dec t = Fr.none_ 3 := by unfold Fr.dec; rw [if_neg h0, if_neg hm, if_neg h9, if_neg hn, if_pos hs]
    by_cases hr : room < 9 + Fr.num4 (t.data.toList.drop 5)
    · have e2 : ¬ ((Fr.dec (t ++ more)).err = 35 ∨ (Fr.dec (t ++ more)).err = 2) := by
        unfold Fr.dec; rw [if_neg (by omega), hg, if_neg hm, if_neg (by omega), h5, if_neg hn]
        split <;> simp [Fr.none_]
      unfold rnext
      rw [d1, if_neg e2, if_pos ⟨by omega, by rw [h5]; exact hr⟩, if_neg (by decide), if_pos ⟨by omega, hr⟩]
    · exfalso; apply h
      unfold rnext
      rw [d1, if_neg (by decide), if_neg (by omega)]; rfl
  · have hx : (t ++ more).extract 9 (9 + Fr.num4 (t.data.toList.drop 5)) = t.extract 9 (9 + Fr.num4 (t.data.toList.drop 5)) := by
      apply Fr.bs_inj
      simp only [ByteArray.data_extract, Array.toList_extract, Fr.list_append, List.extract_eq_take_drop]
      rw [List.drop_append_of_le_length (by rw [Fr.size_list]; omega), List.take_append_of_le_length (by rw [List.length_drop, Fr.size_list]; omega)]
    have d2 : Fr.dec (t ++ more) = Fr.dec t := by
      unfold Fr.dec
      rw [if_neg (by omega), hg, if_neg hm, if_neg (by omega), h5, if_neg hn, if_neg (by omega), h1, hx, if_neg h0, if_neg hm, if_neg h9, if_neg hn, if_neg hs]
    unfold rnext
    rw [d2, h5]
    have c : (9 ≤ (t ++ more).size ∧ room < 9 + Fr.num4 (t.data.toList.drop 5)) = (9 ≤ t.size ∧ room < 9 + Fr.num4 (t.data.toList.drop 5)) := by
      apply propext; omega
    simp only [c]
theorem ext_split (s : ByteArray) (a b c : Nat) (h1 : a ≤ b) (h2 : b ≤ c) (_ : c ≤ s.size) : s.extract a c = s.extract a b ++ s.extract b c := by
  apply Fr.bs_inj
  simp only [ByteArray.data_extract, Array.toList_extract, Fr.list_append, List.extract_eq_take_drop]
  have : c - a = (b - a) + (c - b) := by omega
  rw [this, List.take_add, List.drop_drop]
  congr 3; omega
theorem ext_ext (s : ByteArray) (a b c d : Nat) (h : a + d ≤ b) : (s.extract a b).extract c d = s.extract (a + c) (a + d) := by
  apply Fr.bs_inj
  simp only [ByteArray.data_extract, Array.toList_extract, List.extract_eq_take_drop]
  rw [List.drop_take, List.take_take, List.drop_drop]
  congr 1; omega

/-- how far the parser is with s, whose frames all are R -/
def Far (s : ByteArray) (R : List Fr.Frm × Nat × Int) (p : Ps) (at_ : Nat) (fs : List Fr.Frm) : Prop :=
  at_ ≤ s.size ∧ if p.wrong = 0 then ∃ pos n, pos ≤ at_ ∧ p.s = s.extract pos at_ ∧ s.size ≤ pos + n ∧ fs.length ≤ pos ∧ rrun s p.room n pos fs = R else p.s = ⟨#[]⟩ ∧ R.1 = fs ∧ R.2.2 = p.wrong ∧ p.wrong ≠ 3 ∧ fs.length ≤ s.size
theorem Far.start (s : ByteArray) (room : Nat) : Far s (rrun s room s.size 0 []) ⟨room, ⟨#[]⟩, 0⟩ 0 [] := by
  refine ⟨Nat.zero_le _, ?_⟩
  rw [if_pos rfl]
  refine ⟨0, s.size, Nat.le_refl _, ?_, by omega, Nat.le_refl _, rfl⟩
  apply Fr.bs_inj; simp
theorem Far.len {s : ByteArray} {R : List Fr.Frm × Nat × Int} {p : Ps} {at_ : Nat} {fs : List Fr.Frm} (h : Far s R p at_ fs) : fs.length ≤ s.size := by
  obtain ⟨h1, h2⟩ := h
  split at h2
  · obtain ⟨pos, n, a, b, c, d, e⟩ := h2; omega
  · exact h2.2.2.2.2
theorem Far.kept {s : ByteArray} {R : List Fr.Frm × Nat × Int} {p : Ps} {at_ : Nat} {fs : List Fr.Frm} (h : Far s R p at_ fs) : p.s.size ≤ s.size := by
  obtain ⟨h1, h2⟩ := h
  split at h2
  · obtain ⟨pos, n, a, b, c, d, e⟩ := h2
    rw [b, ByteArray.size_extract]; omega
  · rw [h2.1]; exact Nat.zero_le _
/-- bytes come -/
theorem Far.feed {s : ByteArray} {R : List Fr.Frm × Nat × Int} {p : Ps} {at_ : Nat} {fs : List Fr.Frm} (h : Far s R p at_ fs) (e : Nat) (he : e ≤ s.size) (hae : at_ ≤ e) : Far s R (feed p (s.extract at_ e)) (at_ + feedN p (s.extract at_ e)) fs := by
  have hn := feedN_le p (s.extract at_ e)
  rw [ByteArray.size_extract] at hn
  obtain ⟨h1, h2⟩ := h
  refine ⟨by omega, ?_⟩
  rw [feed_wrong, feed_room]
  by_cases hw : p.wrong = 0
  · rw [if_pos hw] at h2 ⊢
    obtain ⟨pos, n, a, b, c, d, f⟩ := h2
    refine ⟨pos, n, by omega, ?_, c, d, f⟩
    have hx : (s.extract at_ e).extract 0 (feedN p (s.extract at_ e)) = s.extract at_ (at_ + feedN p (s.extract at_ e)) := by
      rw [ext_ext _ _ _ _ _ (by omega), Nat.add_zero]
    have hf : (Go.Proofs.Ytngheokngonhjaa.feed p (s.extract at_ e)).s = p.s ++ (s.extract at_ e).extract 0 (feedN p (s.extract at_ e)) := by
      unfold Go.Proofs.Ytngheokngonhjaa.feed
      rw [if_pos hw]
    rw [hf, hx, b, ← ext_split s pos at_ _ a (by omega) (by omega)]
  · rw [if_neg hw] at h2 ⊢
    unfold Go.Proofs.Ytngheokngonhjaa.feed
    rw [if_neg hw]
    exact h2
/-- Next -/
theorem Far.next {s : ByteArray} {R : List Fr.Frm × Nat × Int} {p : Ps} {at_ : Nat} {fs : List Fr.Frm} (h : Far s R p at_ fs) :
    Far s R (nextP p) at_ (if (nextV p).ok then fs ++ [(nextV p).f] else fs) := by
  obtain ⟨h1, h2⟩ := h
  by_cases hw : p.wrong = 0
  · rw [if_pos hw] at h2
    obtain ⟨pos, n, a, b, c, d, f⟩ := h2
    have hwhole : s.extract pos s.size = p.s ++ s.extract at_ s.size := by rw [b]; exact ext_split s pos at_ s.size a h1 (Nat.le_refl _)
    have happ : (rnext p.s p.room).err ≠ 3 → rnext (s.extract pos s.size) p.room = rnext p.s p.room := fun h => by rw [hwhole]; exact rnext_append _ _ _ h
    have hsz : p.s.size = at_ - pos := by rw [b, ByteArray.size_extract]; omega
    refine ⟨h1, ?_⟩
    by_cases he : (rnext p.s p.room).err = 0
    · have hl := rnext_len _ _ he
      have hr := happ (by omega)
      unfold nextV nextP
      rw [if_neg (nn hw), if_neg (nn hw), if_pos he, if_pos he, if_pos rfl, if_pos rfl]
      obtain ⟨n, rfl⟩ : ∃ m, n = m + 1 := ⟨n - 1, by omega⟩
      refine ⟨pos + (rnext p.s p.room).len, n, by omega, ?_, by omega, by rw [List.length_append]; show fs.length + 1 ≤ _; omega, ?_⟩
      · show p.s.extract _ p.s.size = _
        have hx := ext_ext s pos at_ (rnext p.s p.room).len (at_ - pos) (by omega)
        rw [← b] at hx
        rw [hsz, hx]
        congr 1; omega
      · show rrun s p.room n _ _ = R
        rw [← f, rrun_step _ _ _ _ _ (by rw [hr]; exact he), hr]
    · by_cases h3 : (rnext p.s p.room).err = 3
      · unfold nextV nextP
        rw [if_neg (nn hw), if_neg (nn hw), if_neg he, if_neg he, if_pos h3, if_pos h3, if_pos hw]
        exact ⟨pos, n, a, b, c, d, f⟩
      · unfold nextV nextP
        rw [if_neg (nn hw), if_neg (nn hw), if_neg he, if_neg he, if_neg h3, if_neg h3, if_neg he]
        have hr := happ h3
        by_cases hn : n = 0
        · exfalso
          have : p.s.size = 0 := by omega
          exact h3 (rnext_empty _ _ this)
        obtain ⟨n, rfl⟩ : ∃ m, n = m + 1 := ⟨n - 1, by omega⟩
        rw [rrun_stop _ _ _ _ _ (by rw [hr]; exact he), hr, if_neg h3] at f
        rw [← f]
        exact ⟨rfl, rfl, rfl, h3, by show fs.length ≤ _; omega⟩
  · obtain ⟨e1, e2⟩ := next_wrong p hw
    rw [e1, e2]
    exact ⟨h1, h2⟩
/-- Next tells no frame: a fault, or bytes that are not whole -/
def Quiet_ (p : Ps) : Prop := p.wrong = 0 → (rnext p.s p.room).err = 3
theorem next_no (p : Ps) (h : (nextV p).ok = false) : Quiet_ (nextP p) ∧ (nextV p).err = (nextP p).wrong := by
  by_cases hw : p.wrong = 0
  · by_cases he : (rnext p.s p.room).err = 0
    · exfalso
      unfold nextV at h
      rw [if_neg (nn hw), if_pos he] at h
      cases h
    · by_cases h3 : (rnext p.s p.room).err = 3
      · unfold nextV nextP
        rw [if_neg (nn hw), if_neg (nn hw), if_neg he, if_neg he, if_pos h3, if_pos h3]
        exact ⟨fun _ => h3, hw.symm⟩
      · unfold nextV nextP
        rw [if_neg (nn hw), if_neg (nn hw), if_neg he, if_neg he, if_neg h3, if_neg h3]
        exact ⟨fun h => absurd h he, rfl⟩
  · obtain ⟨e1, e2⟩ := next_wrong p hw
    rw [e1, e2]
    exact ⟨fun h => absurd h hw, rfl⟩
theorem next_yes (p : Ps) (h : (nextV p).ok = true) : (nextP p).s.size + 9 ≤ p.s.size ∧ (nextV p).err = 0 ∧ p.wrong = 0 ∧ (nextP p).wrong = 0 := by
  by_cases hw : p.wrong = 0
  · by_cases he : (rnext p.s p.room).err = 0
    · have hl := rnext_len _ _ he
      unfold nextV nextP
      rw [if_neg (nn hw), if_neg (nn hw), if_pos he, if_pos he]
      refine ⟨?_, rfl, hw, rfl⟩
      show (p.s.extract _ _).size + 9 ≤ _
      rw [ByteArray.size_extract]; omega
    · exfalso
      unfold nextV at h
      rw [if_neg (nn hw), if_neg he] at h
      split at h <;> cases h
  · exfalso
    rw [(next_wrong p hw).1] at h
    cases h
/-- a round takes a byte, if there is one -/
theorem feed_some (p : Ps) (s : ByteArray) (h9 : 9 ≤ p.room) (hq : Quiet_ p) (hw : p.wrong = 0) (h : 0 < s.size) : 0 < feedN p s := by
  have := rnext_room p.s p.room h9 (hq hw)
  unfold feedN
  rw [if_pos hw]; omega
/-- all has come -/
theorem Far.all {s : ByteArray} {R : List Fr.Frm × Nat × Int} {p : Ps} {fs : List Fr.Frm} {at_ : Nat} (h : Far s R p at_ fs) (hq : Quiet_ p) (ha : p.wrong = 0 → s.size ≤ at_) : R.1 = fs ∧ R.2.2 = p.wrong := by
  obtain ⟨h1, h2⟩ := h
  by_cases hw : p.wrong = 0
  · rw [if_pos hw] at h2
    obtain ⟨pos, n, a, b, c, d, f⟩ := h2
    have e : at_ = s.size := by have := ha hw; omega
    subst e
    have h3 := hq hw
    rw [b] at h3
    rw [rrun_short _ _ _ _ _ h3] at f
    rw [← f]
    exact ⟨rfl, hw.symm⟩
  · rw [if_neg hw] at h2
    exact ⟨h2.2.1, h2.2.2.1⟩
end Go.Proofs.Ytngheokngonhjaa
