/- Plain mathematics of cutting a text into blocks: a block is a row of pieces. No program in sight. -/
import Derived.Test.YtaldcdgafljedaaFeedMath
namespace Go.Proofs.Ytaldcdgafljedaa.Sp
open Go Rl

/-- a block's bytes, packed -/
def body (ps : List Pc) : List UInt8 := ps.flatMap text
theorem body_app (a b : List Pc) : body (a ++ b) = body a ++ body b := List.flatMap_append
theorem body_one (p : Pc) : body [p] = text p := by unfold body; simp
theorem text_pos (p : Pc) (h : 1 ≤ p.n) : 1 ≤ (text p).length := by rw [text_len]; split <;> omega
theorem body_nil_iff (ps : List Pc) (h : ∀ p ∈ ps, 1 ≤ p.n) : body ps = [] ↔ ps = [] := by
  constructor
  · intro hb
    cases ps with
    | nil => rfl
    | cons p ps =>
      have h1 := text_pos p (h p (List.mem_cons_self ..))
      have h2 : (body (p :: ps)).length = 0 := by rw [hb]; rfl
      rw [show body (p :: ps) = text p ++ body ps from rfl, List.length_append] at h2
      omega
  · rintro rfl; rfl

/-- the blocks that are whole, and the one that was begun last -/
structure St where
  done : List (List Pc)
  now : List Pc
def st0 : St := ⟨[], []⟩
def bst (room : Nat) (s : St) (p : Pc) : St := if room < (body s.now).length + (text p).length then ⟨s.done ++ [s.now], [p]⟩ else ⟨s.done, s.now ++ [p]⟩
def run (room : Nat) (s : St) (ps : List Pc) : St := ps.foldl (bst room) s
theorem run_app (room : Nat) (s : St) (a b : List Pc) : run room s (a ++ b) = run room (run room s a) b := List.foldl_append
theorem run_nil (room : Nat) (s : St) : run room s [] = s := rfl
theorem run_one (room : Nat) (s : St) (p : Pc) : run room s [p] = bst room s p := rfl
def fin (s : St) : List (List Pc) := if s.now = [] then s.done else s.done ++ [s.now]
def blks (room : Nat) (l : List UInt8) : List (List Pc) := fin (run room st0 (pcs l))

theorem bst_flat (room : Nat) (s : St) (p : Pc) : (bst room s p).done.flatten ++ (bst room s p).now = (s.done.flatten ++ s.now) ++ [p] := by
  unfold bst
  split
  · simp
  · simp
theorem run_flat (room : Nat) : ∀ (ps : List Pc) (s : St), (run room s ps).done.flatten ++ (run room s ps).now = (s.done.flatten ++ s.now) ++ ps
  | [], s => by rw [run_nil, List.append_nil]
  | p :: ps, s => by
    rw [show run room s (p :: ps) = run room (bst room s p) ps from rfl, run_flat room ps (bst room s p), bst_flat, List.append_assoc]; rfl
theorem fin_flat (s : St) : (fin s).flatten = s.done.flatten ++ s.now := by
  unfold fin
  split
  · rename_i h; rw [h, List.append_nil]
  · simp
theorem blks_flat (room : Nat) (l : List UInt8) : (blks room l).flatten = pcs l := by
  unfold blks
  rw [fin_flat, run_flat]; rfl

/-- side by side: each has bytes and room, and a block's first piece would not have fitted in the one ahead -/
structure Ok (room : Nat) (s : St) : Prop where
  begun : s.now = [] → s.done = []
  pos : ∀ p ∈ s.now, 1 ≤ p.n
  now : (body s.now).length ≤ room
  done : ∀ b ∈ s.done, b ≠ [] ∧ (body b).length ≤ room
  adj : ∀ i a b, (s.done ++ [s.now])[i]? = some a → (s.done ++ [s.now])[i + 1]? = some b → ∀ p, b.head? = some p → room < (body a).length + (text p).length
theorem ok0 (room : Nat) : Ok room st0 := by
  refine ⟨fun _ => rfl, fun p h => (by cases h), Nat.zero_le _, fun b h => (by cases h), fun i a b h1 h2 => ?_⟩
  simp [st0] at h2
theorem ok_step (room : Nat) (h5 : 5 ≤ room) (s : St) (h : Ok room s) (p : Pc) (hp : 1 ≤ p.n) : Ok room (bst room s p) := by
  have ht := text_le p
  unfold bst
  split
  · rename_i hr
    have hne : s.now ≠ [] := fun e => by rw [e] at hr; simp [body] at hr; omega
    refine ⟨fun e => (by cases e), fun q hq => by cases List.mem_singleton.1 hq; exact hp, by rw [body_one]; omega, fun b hb => ?_, fun i a b h1 h2 q hq => ?_⟩
    · rcases List.mem_append.1 hb with hb | hb
      · exact h.done b hb
      · cases List.mem_singleton.1 hb; exact ⟨hne, h.now⟩
    · change (s.done ++ [s.now] ++ [[p]])[i]? = some a at h1
      change (s.done ++ [s.now] ++ [[p]])[i + 1]? = some b at h2
      by_cases hi : i + 1 < (s.done ++ [s.now]).length
      · rw [List.getElem?_append_left hi] at h2
        rw [List.getElem?_append_left (by omega)] at h1
        exact h.adj i a b h1 h2 q hq
      · have hl : (s.done ++ [s.now]).length ≤ i + 1 := by omega
        have hi2 : i + 1 < (s.done ++ [s.now] ++ [[p]]).length := (List.getElem?_eq_some_iff.1 h2).1
        have hi3 : i + 1 = (s.done ++ [s.now]).length := by rw [List.length_append] at hi2; simp at hi2 hl ⊢; omega
        rw [hi3, List.getElem?_append_right (Nat.le_refl _), Nat.sub_self] at h2
        cases Option.some.inj h2
        cases Option.some.inj hq
        have hi4 : i = s.done.length := by simp at hi3; omega
        rw [List.getElem?_append_left (by simp; omega), hi4, List.getElem?_append_right (Nat.le_refl _), Nat.sub_self] at h1
        cases Option.some.inj h1
        exact hr
  · rename_i hr
    refine ⟨fun e => absurd e (by simp), fun q hq => ?_, by rw [body_app, List.length_append, body_one]; omega, h.done, fun i a b h1 h2 q hq => ?_⟩
    · rcases List.mem_append.1 hq with hq | hq
      · exact h.pos q hq
      · cases List.mem_singleton.1 hq; exact hp
    · change (s.done ++ [s.now ++ [p]])[i]? = some a at h1
      change (s.done ++ [s.now ++ [p]])[i + 1]? = some b at h2
      have hi2 : i + 1 < (s.done ++ [s.now ++ [p]]).length := (List.getElem?_eq_some_iff.1 h2).1
      simp at hi2
      rw [List.getElem?_append_left hi2] at h1
      by_cases hi : i + 1 < s.done.length
      · rw [List.getElem?_append_left hi] at h2
        exact h.adj i a b (by rw [List.getElem?_append_left hi2]; exact h1) (by rw [List.getElem?_append_left hi]; exact h2) q hq
      · have hi3 : i + 1 = s.done.length := by omega
        have e2 : (s.done ++ [s.now])[i + 1]? = some s.now := by rw [hi3, List.getElem?_append_right (Nat.le_refl _), Nat.sub_self]; rfl
        rw [hi3, List.getElem?_append_right (Nat.le_refl _), Nat.sub_self] at h2
        cases Option.some.inj h2
        by_cases hn : s.now = []
        · have hd := h.begun hn
          rw [hd] at hi3
          exact absurd hi3 (by simp)
        · obtain ⟨x, xs, hx⟩ := List.exists_cons_of_ne_nil hn
          rw [hx] at hq
          exact h.adj i a s.now (by rw [List.getElem?_append_left hi2]; exact h1) e2 q (by rw [hx]; exact hq)
theorem ok_run (room : Nat) (h5 : 5 ≤ room) : ∀ (ps : List Pc) (s : St), Ok room s → (∀ p ∈ ps, 1 ≤ p.n) → Ok room (run room s ps)
  | [], _, h, _ => h
  | p :: ps, s, h, hp => ok_run room h5 ps _ (ok_step room h5 s h p (hp p (List.mem_cons_self ..))) (fun q hq => hp q (List.mem_cons_of_mem _ hq))
theorem pcs_pos (l : List UInt8) : ∀ p ∈ pcs l, 1 ≤ p.n ∧ p.n ≤ 255 := by
  have ha := pcs_apart l
  generalize pcs l = ps at ha
  induction ps with
  | nil => intro p hp; cases hp
  | cons q ps ih =>
    obtain ⟨h1, h2, h3⟩ := apart_tail ha
    intro p hp
    rcases List.mem_cons.1 hp with rfl | hp
    · exact ⟨h2, h3⟩
    · exact ih h1 p hp
theorem ok_text (room : Nat) (h5 : 5 ≤ room) (l : List UInt8) : Ok room (run room st0 (pcs l)) := ok_run room h5 _ _ (ok0 room) (fun p hp => (pcs_pos l p hp).1)
end Go.Proofs.Ytaldcdgafljedaa.Sp
