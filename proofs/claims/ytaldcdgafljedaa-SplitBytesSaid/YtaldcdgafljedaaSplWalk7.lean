/- Splitters: the blocks of a text, byte by byte, as plain lists. -/
import Derived.Test.YtaldcdgafljedaaSplWalk6
namespace Go.Proofs.Ytaldcdgafljedaa
open Go.RowKit
set_option linter.unusedVariables false
set_option linter.unusedSimpArgs false

namespace Sp
/-- where a splitter stands behind text l -/
def at_ (room : Nat) (l : List UInt8) : St := run room st0 (Rl.sureOf l)
theorem pput_one (r : Rl.Pc) (c : UInt8) : (Rl.pput r c).1 = [] ∨ ∃ p, (Rl.pput r c).1 = [p] := by
  unfold Rl.pput
  split
  · exact .inr ⟨_, rfl⟩
  · split
    · exact .inr ⟨_, rfl⟩
    · exact .inl rfl
theorem at_snoc (room : Nat) (l : List UInt8) (c : UInt8) : at_ room (l ++ [c]) = run room (at_ room l) (Rl.pput (Rl.rowOf l) c).1 := by
  unfold at_
  rw [(Rl.put_row l c).1, run_app]
theorem at_nil (room : Nat) : at_ room [] = st0 := rfl
theorem at_told (room : Nat) (l : List UInt8) (c : UInt8) :
    putN room (at_ room l).now (Rl.rowOf l) c = (at_ room (l ++ [c])).now ∧
    ((putV room (at_ room l).now (Rl.rowOf l) c = (noBlk, false) ∧ (at_ room (l ++ [c])).done = (at_ room l).done) ∨
     (putV room (at_ room l).now (Rl.rowOf l) c = (blkV (at_ room l).now, true) ∧ (at_ room (l ++ [c])).done = (at_ room l).done ++ [(at_ room l).now])) := by
  rw [at_snoc]
  unfold putN putV
  rcases pput_one (Rl.rowOf l) c with h | ⟨p, h⟩
  · rw [h]; exact ⟨rfl, .inl ⟨rfl, rfl⟩⟩
  · rw [h, run_one]
    unfold pieceN pieceV bst
    simp only
    by_cases hc : room < (body (at_ room l).now).length + (Rl.text p).length
    · rw [if_pos hc, if_pos hc, if_pos hc]; exact ⟨rfl, .inr ⟨rfl, rfl⟩⟩
    · rw [if_neg hc, if_neg hc, if_neg hc]; exact ⟨rfl, .inl ⟨rfl, rfl⟩⟩
theorem sure_pos (l : List UInt8) : ∀ p ∈ Rl.sureOf l, 1 ≤ p.n := by
  intro p hp
  rcases Rl.sure_row l with ⟨_, h2, _⟩ | ⟨h1, _, _⟩
  · rw [h2] at hp; exact (pcs_pos l p hp).1
  · exact (pcs_pos l p (by rw [h1]; exact List.mem_append_left _ hp)).1
theorem at_ok (room : Nat) (h5 : 5 ≤ room) (l : List UInt8) : Ok room (at_ room l) := ok_run room h5 _ _ (ok0 room) (sure_pos l)
theorem join_flat (ss : List (List Rl.Pc)) (t : List Rl.Pc) : (Rl.join t).length ≤ (Rl.join (ss.flatten ++ t)).length := by rw [Rl.join_app, List.length_append]; omega
theorem sure_len (l : List UInt8) : (Rl.join (Rl.sureOf l)).length ≤ l.length := by
  have hj := Rl.join_pcs l
  rcases Rl.sure_row l with ⟨_, h2, _⟩ | ⟨h1, _, _⟩
  · rw [h2, hj]; exact Nat.le_refl _
  · rw [← congrArg List.length hj, h1, Rl.join_app, List.length_append]; omega
theorem at_small (room : Nat) (l : List UInt8) : (Rl.join (at_ room l).now).length ≤ l.length := by
  have h1 := run_flat room (Rl.sureOf l) st0
  have h2 := join_flat (at_ room l).done (at_ room l).now
  have h3 := sure_len l
  change (at_ room l).done.flatten ++ (at_ room l).now = [] ++ Rl.sureOf l at h1
  rw [h1, List.nil_append] at h2
  omega
theorem at_end (room : Nat) (h5 : 5 ≤ room) (l : List UInt8) : blks room l = (at_ room l).done ++ endL room (at_ room l).now (Rl.rowOf l) := by
  have hok := at_ok room h5 l
  have hb := body_nil_iff (at_ room l).now hok.pos
  unfold endL blks
  rcases Rl.sure_row l with ⟨h1, h2, _⟩ | ⟨h1, h2, _⟩
  · rw [h1, if_pos (show Rl.row0.n = 0 from rfl), ← h2]
    show fin (at_ room l) = _
    unfold fin
    by_cases hn : (at_ room l).now = []
    · rw [if_pos hn, if_pos (hb.2 hn), List.append_nil]
    · rw [if_neg hn, if_neg (fun e => hn (hb.1 e))]
  · rw [if_neg (by omega), h1, run_app, run_one]
    show fin (bst room (at_ room l) (Rl.rowOf l)) = _
    unfold bst
    by_cases hc : room < (body (at_ room l).now).length + (Rl.text (Rl.rowOf l)).length
    · rw [if_pos hc, if_pos hc]
      unfold fin
      rw [if_neg (by simp)]
      simp
    · rw [if_neg hc, if_neg hc]
      unfold fin
      rw [if_neg (by simp)]
theorem flat_len (L : List (List Rl.Pc)) (h : ∀ b ∈ L, b ≠ []) : L.length ≤ L.flatten.length := by
  induction L with
  | nil => exact Nat.le_refl _
  | cons b L ih =>
    have h1 := ih (fun x hx => h x (List.mem_cons_of_mem _ hx))
    have h2 : 0 < b.length := List.length_pos_iff.2 (h b (List.mem_cons_self ..))
    rw [List.flatten_cons, List.length_append, List.length_cons]; omega
theorem done_len (room : Nat) (h5 : 5 ≤ room) (l : List UInt8) : (at_ room l).done.length ≤ l.length := by
  have h1 := flat_len _ (fun b hb => ((at_ok room h5 l).done b hb).1)
  have h2 := congrArg List.length (run_flat room (Rl.sureOf l) st0)
  rw [List.length_append, List.length_append, List.length_append] at h2
  have h3 : (Rl.sureOf l).length ≤ (Rl.pcs l).length := by
    rcases Rl.sure_row l with ⟨_, h2, _⟩ | ⟨h1, _, _⟩
    · rw [h2]; exact Nat.le_refl _
    · have := congrArg List.length h1
      rw [List.length_append] at this; omega
  have h4 := Rl.pcs_length l
  change (at_ room l).done.flatten.length + (at_ room l).now.length = 0 + 0 + (Rl.sureOf l).length at h2
  omega
theorem endL_len (room : Nat) (now : List Rl.Pc) (row : Rl.Pc) : (endL room now row).length ≤ 2 := by
  unfold endL
  split
  · split
    · exact Nat.zero_le 2
    · exact Nat.le_succ 1
  · split
    · exact Nat.le_refl 2
    · exact Nat.le_succ 1
end Sp
theorem bcells_len (L : List (List Rl.Pc)) : (L.flatMap bcells).length = L.length * 3 := by
  induction L with
  | nil => rfl
  | cons f fs ih => simp [bcells, ih]; omega
theorem bcells_one (L : List (List Rl.Pc)) : ∀ u ∈ L.flatMap bcells, u.oneCell' = true := by
  intro u hu
  obtain ⟨b, _, hb⟩ := List.mem_flatMap.1 hu
  simp [bcells] at hb
  rcases hb with rfl | rfl | rfl <;> rfl
/-- a splitter behind text l -/
def SpT (w : World) (B b sb pb : Nat) (v : Value) (room : Nat) (l : List UInt8) : Prop := SpAt w B b sb pb v (Sp.at_ room l).now room (Rl.rowOf l)
theorem SpT.nil {w : World} {B b sb pb : Nat} {v : Value} {room : Nat} (h : SpAt w B b sb pb v [] room Rl.row0) : SpT w B b sb pb v room [] := h
theorem rowOf_lt (l : List UInt8) : (Rl.rowOf l).n < 255 := by
  rcases Rl.sure_row l with ⟨h1, _, _⟩ | ⟨_, _, h⟩
  · rw [h1]; decide
  · exact h
theorem tput_walk (w : World) (B b sb pb : Nat) (v : Value) (room : Nat) (l : List UInt8) (c : UInt8) (h : SpT w B b sb pb v room l) (h5 : 5 ≤ room) (hm : room ≤ 900000) (hl : l.length ≤ 1000000) :
    Calls Try.prog 19 #[.pointer (some ⟨b, 0, none⟩), .int .u8 (c.toNat : Int)] w fun e w' => e = .returned (.tuple #[(putV room (Sp.at_ room l).now (Rl.rowOf l) c).1, .bool (putV room (Sp.at_ room l).now (Rl.rowOf l) c).2]) ∧ ∃ v', SpT w' B b sb pb v' room (l ++ [c]) ∧ Chg ([b, sb, pb] ++ v.ownBlock.toList) w w' := by
  have hj := Sp.at_small room l
  have hb := (Sp.at_ok room h5 l).now
  refine (sput_walk w B b sb pb v (Sp.at_ room l).now room (Rl.rowOf l) c h h5 (rowOf_lt l) (by omega) (by omega)).mono ?_
  rintro e w' ⟨rfl, v', h1, h2⟩
  refine ⟨rfl, v', ?_, h2⟩
  unfold SpT
  rw [← (Sp.at_told room l c).1, (Rl.put_row l c).2]
  exact h1
theorem tend_walk (w : World) (B b sb pb : Nat) (v : Value) (room : Nat) (l : List UInt8) (h : SpT w B b sb pb v room l) (h5 : 5 ≤ room) (hm : room ≤ 900000) (hl : l.length ≤ 1000000) :
    Calls Try.prog 22 #[.pointer (some ⟨b, 0, none⟩)] w fun e w' => ∃ out v', e = .returned out ∧ w'.ownsRow w.heap.size 37 3 out (endL room (Sp.at_ room l).now (Rl.rowOf l)).length ((endL room (Sp.at_ room l).now (Rl.rowOf l)).flatMap bcells) ∧ SpT w' B b sb pb v' room [] ∧ Chg ([b, sb, pb] ++ v.ownBlock.toList) w w' := by
  have hj := Sp.at_small room l
  have hok := Sp.at_ok room h5 l
  have hb := hok.now
  have hn := Sp.body_nil_iff _ hok.pos
  unfold endL
  by_cases h0 : (Rl.rowOf l).n = 0
  · rw [if_pos h0]
    by_cases hne : Sp.body (Sp.at_ room l).now = []
    · rw [if_pos hne]
      exact send_none w B b sb pb v _ room _ h h5 (rowOf_lt l) (by omega) (by omega) h0 (hn.1 hne)
    · rw [if_neg hne]
      exact send_one w B b sb pb v _ room _ h h5 (rowOf_lt l) (by omega) (by omega) h0 hne
  · rw [if_neg h0]
    by_cases hc : room < (Sp.body (Sp.at_ room l).now).length + (Rl.text (Rl.rowOf l)).length
    · rw [if_pos hc]
      exact send_two w B b sb pb v _ room _ h h5 (rowOf_lt l) (by omega) (by omega) h0 hc
    · rw [if_neg hc]
      exact send_last w B b sb pb v _ room _ h h5 (rowOf_lt l) (by omega) (by omega) h0 hc
end Go.Proofs.Ytaldcdgafljedaa
