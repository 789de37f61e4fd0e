/- Requests as bytes. -/
import Derived.Test.YtckdbkbecelgcaaDoorPrShelf
import Derived.Test.YtckdbkbecelgcaaDoorPrWalk4
import Derived.Test.YtckdbkbecelgcaaDoorFrameWalk4
import Derived.Test.YtckdbkbecelgcaaDoorRowIn
namespace Go.Proofs.YtckdbkbecelgcaaDoor
open Go.RowKit
set_option linter.unusedVariables false

namespace Pr
/-- all requests asked, behind those asked already -/
def texts : List Rq → ByteArray → Option ByteArray
  | [], o => some o
  | r :: rs, o => match ask r with
    | some f => texts rs (o ++ Fr.enc f)
    | none => none
theorem texts_end (l : List Rq) (k : Nat) (o : ByteArray) (h : l.length ≤ k) : texts (l.drop k) o = some o := by
  rw [List.drop_eq_nil_of_le h]; rfl
theorem texts_some (l : List Rq) (k : Nat) (o : ByteArray) (h : k < l.length) (f : Fr.Frm) (ha : ask l[k] = some f) : texts (l.drop k) o = texts (l.drop (k + 1)) (o ++ Fr.enc f) := by
  rw [List.drop_eq_getElem_cons h]
  show (match ask l[k] with | some f => texts (l.drop (k + 1)) (o ++ Fr.enc f) | none => none) = _
  rw [ha]
theorem texts_none (l : List Rq) (k : Nat) (o : ByteArray) (h : k < l.length) (ha : ask l[k] = none) : texts (l.drop k) o = none := by
  rw [List.drop_eq_getElem_cons h]
  show (match ask l[k] with | some f => texts (l.drop (k + 1)) (o ++ Fr.enc f) | none => none) = _
  rw [ha]
theorem rd_wrong (f : Fr.Frm) (r : Rq) (h : rd f = some r) : Fr.wrong f = 0 ∧ f.d.size ≤ 65536 := by
  unfold rd at h
  split at h
  · cases h
  rename_i hw
  have hw2 : 0 ≤ f.j ∧ f.j ≤ 4294967295 ∧ f.d.size ≤ 65536 := by unfold whole at hw; simpa using hw
  have ht : 1 ≤ f.t ∧ f.t ≤ 7 := by
    apply Classical.byContradiction
    intro hn
    rw [if_neg (by omega), if_neg (by omega), if_neg (by omega), if_neg (by omega), if_neg (by omega), if_neg (by omega), if_neg (by omega)] at h
    cases h
  refine ⟨?_, hw2.2.2⟩
  have hm : Fr.mayT f.t = true := by unfold Fr.mayT; exact decide_eq_true (.inl ht)
  unfold Fr.wrong
  rw [if_neg (by rw [hm]; decide), if_neg (by omega), if_neg (by omega)]
theorem ask_wrong (r : Rq) (f : Fr.Frm) (h : ask r = some f) : Fr.wrong f = 0 ∧ f.d.size ≤ 65536 := by
  unfold ask at h
  split at h
  · rename_i hr
    cases h
    exact rd_wrong _ _ hr
  · cases h
theorem enc_size (f : Fr.Frm) (h : f.d.size ≤ 65536) : (Fr.enc f).size ≤ 65545 := by
  unfold Fr.enc
  rw [ByteArray.size_append, ByteArray.size_append, ByteArray.size_append]
  show 1 + 4 + 4 + f.d.size ≤ _
  omega
end Pr
def textsV (o : Option ByteArray) : Value := match o with
  | some s => .tuple #[.string s, .int .i64 0]
  | none => .tuple #[.string ⟨#[]⟩, .int .i64 35]
/-- a request's cells -/
def rcells (r : Pr.Rq) : List Value := [.int .i64 r.t, .int .i64 r.j, .string r.tok, .string r.txt, .int .i64 r.k, .int .i64 r.lv, .int .i64 r.n]
theorem strCells_app (a b : ByteArray) : Lib.byteCells a.data.toList ++ Lib.strCells b = Lib.byteCells (a ++ b).data.toList := by
  rw [Fr.list_append]
  unfold Lib.strCells Lib.byteCells
  rw [List.map_append]
theorem pbuilder_keep {T e : TypeId} {B b : Nat} {bs : List Value} {w w' : World} (h : Lib.IsBuilderF T e B b bs w) (k : Below w.heap.size w w') : Lib.IsBuilderF T e B b bs w' := by
  have one : ∀ p, Lib.BuilderAtF T e B b p bs w → Lib.BuilderAtF T e B b p bs w' := fun p hp => by
    have hlt := hp.lt
    obtain ⟨hB, v, hb, hown, hne⟩ := hp
    exact ⟨hB, v, (k.block b hlt).trans hb, hown.kept (row := some w.heap.size) ⟨k.os, k.tape, k.output, k.size, fun i hi _ => k.block i hi⟩ (Or.inr (fun e => by
      obtain ⟨c, fz, hh⟩ := Lib.ownsRowF_kind hown _ e
      rw [Array.getElem?_eq_none (Nat.le_refl _)] at hh
      cases hh)), hne⟩
  exact h.imp (one _) (one _)
/-- the builder holds o -/
structure TxAt (w0 : World) (o : ByteArray) (w : World) : Prop where
  bd : Lib.IsBuilderF 78 5 w0.heap.size w0.heap.size (Lib.byteCells o.data.toList) w
  bl : Below w0.heap.size w0 w
  lt : w0.heap.size < w.heap.size
theorem TxAt.keep {w0 : World} {o : ByteArray} {w w' : World} (h : TxAt w0 o w) (k : Below w.heap.size w w') : TxAt w0 o w' :=
  ⟨pbuilder_keep h.bd k, h.bl.trans (k.mono (Nat.le_of_lt h.lt)), Nat.lt_of_lt_of_le h.lt k.size⟩

set_option maxRecDepth 100000 in
set_option maxHeartbeats 2000000 in
theorem text_walk (l : List Pr.Rq) (a : Option Addr) (len cap : Nat) (w : World) (ha : RowS w 7 a len cap (l.flatMap rcells)) (hl : l.length = len) (hm : len ≤ 20) (hT : Tabs w) : Calls Tryd.prog 20 #[.slice a len cap] w fun e w' => e = .returned (textsV (Pr.texts l Pr.e0)) ∧ Below w.heap.size w w' := by
  have HT := Lib.hid hT
  have HA := Lib.hid ha
  have HM := Lib.hid hm
  subst hl
  clear hT ha hm
  generalize hTT : Pr.texts l Pr.e0 = T
  have H0 := Lib.hid (show TxAt w Pr.e0 (w.alloc (.cells #[.pointer none, .slice none 0 0] 78)) from
    ⟨.inl ⟨Nat.le_refl _, _, Has.new w _ _, World.ownsRowF_of (World.ownsRow_nil _ _ _ _), by simp [Value.ownBlock]⟩, (Below.refl _ _).alloc (Nat.le_refl _) _, by simp⟩)
  have HTT := Lib.hid hTT
  clear hTT
  go_enter Tryd.func20, Tryd.ntmps20
  go_wp2_with fail
  go_loopw [13] (fun i wr => ∃ (k : Nat) (o : ByteArray), k ≤ l.length ∧ i = .int .i64 k ∧ Pr.texts (l.drop k) o = T ∧ o.size ≤ k * 70000 ∧ TxAt w o wr) (fun i _ => l.length - (intOf i).toNat)
  case atStart => exact ⟨0, Pr.e0, Nat.zero_le _, rfl, HTT.out, Nat.zero_le _, H0.out⟩
  case round =>
    obtain ⟨k, o, hk, rfl, htx, hos, hat⟩ := hrel
    have HAT := Lib.hid hat
    clear hat H0 HTT
    have hm := HM.out
    by_cases hlt : k < l.length
    · obtain ⟨ba, oa, rfl, hba, hca⟩ := (HA.out.keep HAT.out.bl).at k hlt
      have hsome := Pr.texts_some l k o hlt
      have hnone := Pr.texts_none l k o hlt
      rw [htx] at hsome hnone
      have a0 := hca 0 (by decide); have a1 := hca 1 (by decide); have a2 := hca 2 (by decide); have a3 := hca 3 (by decide); have a4 := hca 4 (by decide); have a5 := hca 5 (by decide); have a6 := hca 6 (by decide)
      rw [flat_get rcells 7 (fun _ => rfl) l k _ hlt (by decide)] at a0 a1 a2 a3 a4 a5 a6
      clear hca htx
      generalize l[k] = r at *
      obtain ⟨t, j, tok, txt, kd, lv, n⟩ := r
      simp only [rcells, List.getD_cons_zero, List.getD_cons_succ] at a0 a1 a2 a3 a4 a5 a6
      simp only [← Nat.add_assoc, Nat.add_zero] at a0 a1 a2 a3 a4 a5 a6
      have hk1 : (k : Int) < (l.length : Int) := by omega
      have HASK := Lib.hid (fun w h => ask_walk t j tok txt kd lv n w h)
      have HAT1 := Lib.hid (HAT.out.keep ((Below.refl wr.heap.size wr).alloc (Nat.le_refl _) (.cells #[.int .i64 t, .int .i64 j, .string tok, .string txt, .int .i64 kd, .int .i64 lv, .int .i64 n] 27)))
      cases hak : Pr.ask ⟨t, j, tok, txt, kd, lv, n⟩ with
      | some f =>
        obtain ⟨hw0, hds⟩ := Pr.ask_wrong _ _ hak
        have hes := Pr.enc_size f hds
        have Hsome := Lib.hid (hsome f hak).symm
        have HENC := Lib.hid (fun w => xenc_walk f w)
        rw [hw0, if_pos rfl] at HENC
        rw [hak] at HASK
        generalize hE : Fr.enc f = E at *
        obtain ⟨t', j', d'⟩ := f
        simp only [askF] at HASK
        simp only [fv] at HENC
        clear hak hsome hnone hw0 hds hE HAT
        go_wp2_with fail
        (with_reducible refine (HASK.out _ (HT.out.keep HAT1.out.bl)).mono ?_)
        rintro e w2 ⟨rfl, hb2⟩
        have HAT2 := Lib.hid (HAT1.out.keep hb2)
        have HAT3 := Lib.hid (HAT2.out.keep ((Below.refl w2.heap.size w2).alloc (Nat.le_refl _) (.cells #[.int .i64 t', .int .i64 j', .string d'] 23)))
        clear hb2 HAT1 HAT2 a0 a1 a2 a3 a4 a5 a6
        go_wp2_with fail
        (with_reducible refine (HENC.out _).mono ?_)
        rintro e w3 ⟨rfl, hb3⟩
        have HAT4 := Lib.hid (HAT3.out.keep hb3)
        clear hb3 HAT3
        go_wp2_with fail
        (with_reducible refine (bwrite_walk w.heap.size w.heap.size _ E _ HAT4.out.bd (by rw [Lib.byteCells_length, Fr.size_list]; omega) (Nat.le_of_lt HAT4.out.lt)).mono ?_)
        rintro e w4 ⟨rfl, h1, h2, _⟩
        rw [strCells_app] at h1
        have HAT5 := Lib.hid (show TxAt w (o ++ E) w4 from ⟨h1, HAT4.out.bl.trans h2, Nat.lt_of_lt_of_le HAT4.out.lt h2.size⟩)
        clear h1 h2 HAT4
        go_wp2
        go_roundw
        case rel => exact ⟨k + 1, o ++ E, hlt, by go_num, Hsome.out, by rw [ByteArray.size_append]; omega, HAT5.out⟩
        case measure => simp [intOf]; omega
      | none =>
        have HN := Lib.hid (hnone hak)
        rw [hak] at HASK
        simp only [askF] at HASK
        clear hak hsome hnone HAT
        go_wp2_with fail
        (with_reducible refine (HASK.out _ (HT.out.keep HAT1.out.bl)).mono ?_)
        rintro e w2 ⟨rfl, hb2⟩
        have HAT2 := Lib.hid (HAT1.out.keep hb2)
        have HAT3 := Lib.hid (HAT2.out.keep ((Below.refl w2.heap.size w2).alloc (Nat.le_refl _) (.cells #[.int .i64 0, .int .i64 0, .string ⟨#[]⟩] 23)))
        clear hb2 HAT1 HAT2 a0 a1 a2 a3 a4 a5 a6
        go_wp2
        (try simp only [Exit.inBlock, Exit.then])
        refine bodyPost_ret (results_tmp2 rfl _ _ _) rfl ?_
        rw [HN.out]
        exact ⟨rfl, HAT3.out.bl⟩
    · have hR2 := Lib.hid ((Pr.texts_end l k o (by omega)).symm.trans htx)
      have hlt' : ¬ ((k : Int) < (l.length : Int)) := by omega
      clear htx
      have HS := Lib.hid (Tryd.Builder_String_any_k w.heap.size w.heap.size o.data.toList wr HAT.out.bd (Nat.le_of_lt HAT.out.lt))
      go_wp2_with fail
      refine (HS.out).mono ?_
      rintro e w2 ⟨rfl, _, hb2, _⟩
      have HB2 := Lib.hid (HAT.out.bl.trans hb2)
      clear hb2
      go_wp2
      (try simp only [Exit.inBlock, Exit.then])
      refine bodyPost_ret (results_tmp2 rfl _ _ _) rfl ?_
      rw [← hR2.out]
      exact ⟨rfl, HB2.out⟩
end Go.Proofs.YtckdbkbecelgcaaDoor
