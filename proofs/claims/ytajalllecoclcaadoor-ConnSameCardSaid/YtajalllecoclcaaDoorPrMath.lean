/- Plain mathematics of requests and answers. No program in sight. -/
import Derived.Test.YtajalllecoclcaaDoorFrameMath
import Derived.Test.YtajalllecoclcaaDoorTokWalk3
namespace Go.Proofs.YtajalllecoclcaaDoor.Pr
open Go

structure Rq where
  t : Int
  j : Int
  tok : ByteArray
  txt : ByteArray
  k : Int
  lv : Int
  n : Int
  deriving DecidableEq
structure An where
  t : Int
  j : Int
  txt : ByteArray
  err : Int
  deriving DecidableEq
def e0 : ByteArray := ⟨#[]⟩
def whole (f : Fr.Frm) : Bool := decide (0 ≤ f.j ∧ f.j ≤ 4294967295 ∧ f.d.size ≤ 65536)
/-- an Open's kind and level -/
def openK (d : ByteArray) : Int × Int :=
  if d = ⟨#[120]⟩ then (2, 0) else if d = ⟨#[116]⟩ then (3, 0)
  else if d.size = 2 ∧ d.data.toList.getD 0 0 = 99 ∧ 49 ≤ (d.data.toList.getD 1 0).toNat ∧ (d.data.toList.getD 1 0).toNat ≤ 57 then (1, ((d.data.toList.getD 1 0).toNat : Int) - 48)
  else (0, 0)
/-- a frame's request -/
def rd (f : Fr.Frm) : Option Rq :=
  if whole f = false then none
  else if f.t = 1 then (if f.j = 0 ∧ wordB f.d.data.toList = true then some ⟨1, f.j, f.d, e0, 0, 0, 0⟩ else none)
  else if f.t = 2 then (if (openK f.d).1 = 0 then none else some ⟨2, f.j, e0, e0, (openK f.d).1, (openK f.d).2, 0⟩)
  else if f.t = 3 then some ⟨3, f.j, e0, f.d, 0, 0, 0⟩
  else if f.t = 4 then (if f.d.size = 0 then some ⟨4, f.j, e0, e0, 0, 0, 0⟩ else none)
  else if f.t = 5 then (if f.d.size = 0 then some ⟨5, f.j, e0, e0, 0, 0, 0⟩ else none)
  else if f.t = 6 then (if f.d.size = 4 then some ⟨6, f.j, e0, e0, 0, 0, (Fr.num4 f.d.data.toList : Int)⟩ else none)
  else if f.t = 7 then (if f.j = 0 ∧ f.d.size = 0 then some ⟨7, f.j, e0, e0, 0, 0, 0⟩ else none)
  else none
/-- what stands in a request's frame, as the program has it -/
def pd (r : Rq) : ByteArray :=
  if r.t = 1 then r.tok
  else if r.t = 2 then (if r.k = 1 then (if 0 ≤ r.lv ∧ r.lv ≤ 9 then Fr.bs [99, UInt8.ofNat (48 + r.lv.toNat)] else ⟨#[99]⟩) else if r.k = 2 then ⟨#[120]⟩ else if r.k = 3 then ⟨#[116]⟩ else e0)
  else if r.t = 3 then r.txt
  else if r.t = 6 then (if r.n < 0 ∨ 4294967295 < r.n then e0 else Fr.bs (Fr.put4 r.n.toNat))
  else e0
/-- .. and as the document has it -/
def rdt (r : Rq) : ByteArray :=
  if r.t = 1 then r.tok
  else if r.t = 2 ∧ r.k = 1 ∧ 1 ≤ r.lv ∧ r.lv ≤ 9 then Fr.bs [99, UInt8.ofNat (48 + r.lv.toNat)]
  else if r.t = 2 ∧ r.k = 2 then ⟨#[120]⟩ else if r.t = 2 ∧ r.k = 3 then ⟨#[116]⟩
  else if r.t = 3 then r.txt
  else if r.t = 6 ∧ 0 ≤ r.n ∧ r.n ≤ 4294967295 then Fr.bs (Fr.put4 r.n.toNat)
  else e0
theorem size0 {d : ByteArray} (h : d.size = 0) : d = e0 := by
  apply Fr.bs_inj
  have : d.data.toList = [] := List.length_eq_zero_iff.1 (by rw [Fr.size_list]; exact h)
  rw [this]; rfl
theorem two_of {d : ByteArray} (h : d.size = 2) : ∃ a b, d = Fr.bs [a, b] := by
  have hl : d.data.toList.length = 2 := by rw [Fr.size_list]; exact h
  match hd : d.data.toList, hl with
  | [a, b], _ => exact ⟨a, b, by rw [← hd, Fr.bs_list]⟩
theorem four_of {d : ByteArray} (h : d.size = 4) : Fr.bs (Fr.put4 (Fr.num4 d.data.toList)) = d := by
  have hl : d.data.toList.length = 4 := by rw [Fr.size_list]; exact h
  match hd : d.data.toList, hl with
  | [a, b, c, e], _ => rw [Fr.put4_num4, ← hd, Fr.bs_list]
/-- a request's frame has just one way to be -/
theorem rd_data (f : Fr.Frm) (r : Rq) (h : rd f = some r) : r.t = f.t ∧ r.j = f.j ∧ f.d = pd r ∧ f.d = rdt r := by
  unfold rd at h
  split at h
  · cases h
  split at h
  · rename_i ht
    split at h
    · cases h; exact ⟨ht.symm, rfl, rfl, rfl⟩
    · cases h
  split at h
  · rename_i ht
    split at h
    · cases h
    · rename_i hk
      cases h
      refine ⟨ht.symm, rfl, ?_⟩
      unfold openK at hk ⊢
      by_cases h1 : f.d = ⟨#[120]⟩
      · rw [h1]; exact ⟨rfl, rfl⟩
      · rw [if_neg h1] at hk ⊢
        by_cases h2 : f.d = ⟨#[116]⟩
        · rw [h2]; exact ⟨rfl, rfl⟩
        · rw [if_neg h2] at hk ⊢
          by_cases h3 : f.d.size = 2 ∧ f.d.data.toList.getD 0 0 = 99 ∧ 49 ≤ (f.d.data.toList.getD 1 0).toNat ∧ (f.d.data.toList.getD 1 0).toNat ≤ 57
          · rw [if_pos h3]
            obtain ⟨a, b, hd⟩ := two_of h3.1
            rw [hd, Fr.list_bs] at h3 ⊢
            obtain ⟨-, h4, h5, h6⟩ := h3
            simp only [List.getD_cons_zero, List.getD_cons_succ] at h4 h5 h6 ⊢
            have hb : UInt8.ofNat (48 + ((b.toNat : Int) - 48).toNat) = b := by
              apply UInt8.toNat_inj.1
              rw [UInt8.toNat_ofNat']
              have := b.toNat_lt
              omega
            subst h4
            unfold pd rdt
            simp only
            rw [if_neg (by decide), if_pos trivial, if_pos trivial, if_pos (by omega), if_neg (by decide), if_pos ⟨trivial, trivial, by omega, by omega⟩, hb]
            exact ⟨rfl, rfl⟩
          · rw [if_neg h3] at hk; exact absurd rfl hk
  split at h
  · rename_i ht; cases h; exact ⟨ht.symm, rfl, rfl, rfl⟩
  split at h
  · rename_i ht
    split at h
    · rename_i h0; cases h; exact ⟨ht.symm, rfl, size0 h0, size0 h0⟩
    · cases h
  split at h
  · rename_i ht
    split at h
    · rename_i h0; cases h; exact ⟨ht.symm, rfl, size0 h0, size0 h0⟩
    · cases h
  split at h
  · rename_i ht
    split at h
    · rename_i h4
      cases h
      have hn := Fr.num4_lt f.d.data.toList
      have e := four_of h4
      refine ⟨ht.symm, rfl, ?_, ?_⟩
      · unfold pd
        simp only
        rw [if_neg (by decide), if_neg (by decide), if_neg (by decide), if_pos trivial, if_neg (by omega), Int.toNat_natCast, e]
      · unfold rdt
        simp only
        rw [if_neg (by decide), if_neg (by simp), if_neg (by simp), if_neg (by simp), if_neg (by decide), if_pos ⟨trivial, by omega, by omega⟩, Int.toNat_natCast, e]
    · cases h
  split at h
  · rename_i ht
    split at h
    · rename_i h0; cases h; exact ⟨ht.symm, rfl, size0 h0.2, size0 h0.2⟩
    · cases h
  · cases h
/-- a request's frame, if it has one -/
def ask (r : Rq) : Option Fr.Frm := if rd ⟨r.t, r.j, pd r⟩ = some r then some ⟨r.t, r.j, pd r⟩ else none
theorem ask_rd (f : Fr.Frm) (r : Rq) (h : rd f = some r) : ask r = some f := by
  obtain ⟨h1, h2, h3, _⟩ := rd_data f r h
  have e : (⟨r.t, r.j, pd r⟩ : Fr.Frm) = f := by rw [h1, h2, ← h3]
  unfold ask
  rw [e, if_pos h]
theorem ask_ref (r : Rq) : (rd ⟨r.t, r.j, rdt r⟩ = some r ∧ ask r = some ⟨r.t, r.j, rdt r⟩) ∨ (rd ⟨r.t, r.j, rdt r⟩ ≠ some r ∧ ask r = none) := by
  by_cases h : rd ⟨r.t, r.j, rdt r⟩ = some r
  · exact .inl ⟨h, ask_rd _ _ h⟩
  · refine .inr ⟨h, ?_⟩
    unfold ask
    rw [if_neg]
    intro h2
    have e := (rd_data _ r h2).2.2.2
    simp only at e
    rw [← e] at h
    exact h h2
theorem rd_ask (r : Rq) (f : Fr.Frm) (h : ask r = some f) : rd f = some r ∧ f = ⟨r.t, r.j, pd r⟩ := by
  unfold ask at h
  split at h
  · rename_i h2; cases h; exact ⟨h2, rfl⟩
  · cases h

/-- a frame's answer -/
def hear (f : Fr.Frm) : Option An :=
  if whole f = false then none
  else if f.t = 65 ∨ f.t = 70 then (if f.j = 0 then some ⟨f.t, f.j, f.d, 0⟩ else none)
  else if f.t = 66 then some ⟨66, f.j, f.d, 0⟩
  else if f.t = 67 then (if f.d.size = 0 then some ⟨67, f.j, e0, 0⟩ else none)
  else if f.t = 68 ∨ f.t = 69 then (if f.d.size = 1 ∧ 0 < (f.d.data.toList.getD 0 0).toNat then some ⟨f.t, f.j, e0, ((f.d.data.toList.getD 0 0).toNat : Int)⟩ else none)
  else none
def wd (a : An) : ByteArray := a.txt ++ (if 1 ≤ a.err ∧ a.err ≤ 255 then Fr.bs [UInt8.ofNat a.err.toNat] else e0)
def rc (a : An) : ByteArray := if a.t ≠ 68 ∧ a.t ≠ 69 then a.txt else if a.err < 1 ∨ 255 < a.err then e0 else Fr.bs [UInt8.ofNat a.err.toNat]
theorem app_e0 (d : ByteArray) : d ++ e0 = d := by apply Fr.bs_inj; rw [Fr.list_append]; exact List.append_nil _
theorem e0_app (d : ByteArray) : e0 ++ d = d := by apply Fr.bs_inj; rw [Fr.list_append]; rfl
theorem one_of {d : ByteArray} (h : d.size = 1) : ∃ a, d = Fr.bs [a] := by
  have hl : d.data.toList.length = 1 := by rw [Fr.size_list]; exact h
  match hd : d.data.toList, hl with
  | [a], _ => exact ⟨a, by rw [← hd, Fr.bs_list]⟩
theorem hear_data (f : Fr.Frm) (a : An) (h : hear f = some a) : a.t = f.t ∧ a.j = f.j ∧ f.d = wd a ∧ f.d = rc a := by
  unfold hear at h
  split at h
  · cases h
  split at h
  · rename_i ht
    split at h
    · cases h
      refine ⟨rfl, rfl, ?_, ?_⟩
      · unfold wd; simp only; rw [if_neg (by decide), app_e0]
      · unfold rc; simp only; rw [if_pos (by omega)]
    · cases h
  split at h
  · rename_i ht; cases h
    refine ⟨ht.symm, rfl, ?_, rfl⟩
    unfold wd; simp only; rw [if_neg (by decide), app_e0]
  split at h
  · rename_i ht
    split at h
    · rename_i h0; cases h; exact ⟨ht.symm, rfl, size0 h0, size0 h0⟩
    · cases h
  split at h
  · rename_i ht
    split at h
    · rename_i h1
      cases h
      obtain ⟨b, hd⟩ := one_of h1.1
      rw [hd, Fr.list_bs] at h1 ⊢
      have h2 := h1.2
      simp only [List.getD_cons_zero] at h2 ⊢
      have hb : UInt8.ofNat ((b.toNat : Int)).toNat = b := by rw [Int.toNat_natCast]; exact UInt8.ofNat_toNat
      have hlt := b.toNat_lt
      refine ⟨trivial, trivial, ?_, ?_⟩
      · unfold wd; simp only; rw [if_pos (by omega), hb, e0_app]
      · unfold rc; simp only; rw [if_neg (by omega), if_neg (by omega), hb]
    · cases h
  · cases h
/-- an answer's frame, if it has one -/
def wr (a : An) : Option Fr.Frm := if hear ⟨a.t, a.j, wd a⟩ = some a then some ⟨a.t, a.j, wd a⟩ else none
theorem wr_hear (f : Fr.Frm) (a : An) (h : hear f = some a) : wr a = some f := by
  obtain ⟨h1, h2, h3, _⟩ := hear_data f a h
  have e : (⟨a.t, a.j, wd a⟩ : Fr.Frm) = f := by rw [h1, h2, ← h3]
  unfold wr
  rw [e, if_pos h]
theorem wr_ref (a : An) : (hear ⟨a.t, a.j, rc a⟩ = some a ∧ wr a = some ⟨a.t, a.j, rc a⟩) ∨ (hear ⟨a.t, a.j, rc a⟩ ≠ some a ∧ wr a = none) := by
  by_cases h : hear ⟨a.t, a.j, rc a⟩ = some a
  · exact .inl ⟨h, wr_hear _ _ h⟩
  · refine .inr ⟨h, ?_⟩
    unfold wr
    rw [if_neg]
    intro h2
    have e := (hear_data _ a h2).2.2.2
    simp only at e
    rw [← e] at h
    exact h h2
end Go.Proofs.YtajalllecoclcaaDoor.Pr
