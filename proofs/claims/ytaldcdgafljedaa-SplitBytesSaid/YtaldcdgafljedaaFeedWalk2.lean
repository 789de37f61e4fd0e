/- Unpackers; nil ones. -/
import Derived.Test.YtaldcdgafljedaaFeedWalk1
namespace Go.Proofs.Ytaldcdgafljedaa
open Go.RowKit
set_option linter.unusedVariables false
set_option linter.unusedSimpArgs false

/-- a byte more: what is told, a fault, the row then -/
structure Up where
  s : List UInt8
  err : Int
  r : Rl.Pc
def uput (r : Rl.Pc) (c : UInt8) : Up :=
  if r.n = 4 then (if 251 < c.toNat then ⟨[], 25, r⟩ else ⟨List.replicate c.toNat r.b, 0, Rl.row0⟩) else if 0 < r.n ∧ r.b = c then ⟨[c], 0, ⟨c, r.n + 1⟩⟩ else ⟨[c], 0, ⟨c, 1⟩⟩
theorem uput_step (u : Rl.Un) (c : UInt8) : Rl.ustep u c = if (uput u.r c).err = 0 then some ⟨(uput u.r c).r, u.out ++ (uput u.r c).s⟩ else none := by
  unfold Rl.ustep uput
  by_cases h4 : u.r.n = 4
  · rw [if_pos h4, if_pos h4]
    by_cases hc : 251 < c.toNat
    · rw [if_pos hc, if_pos hc, if_neg (show ¬ (25 : Int) = 0 by decide)]
    · rw [if_neg hc, if_neg hc, if_pos rfl]
  · rw [if_neg h4, if_neg h4]
    by_cases hb : 0 < u.r.n ∧ u.r.b = c
    · rw [if_pos hb, if_pos hb, if_pos rfl]
    · rw [if_neg hb, if_neg hb, if_pos rfl]
theorem uput_bd (r : Rl.Pc) (c : UInt8) (h : r.n ≤ 4) : (uput r c).r.n ≤ 4 ∧ (uput r c).s.length ≤ 255 := by
  have := c.toNat_lt
  unfold uput
  split
  · split
    · exact ⟨h, by simp⟩
    · exact ⟨Nat.zero_le _, by rw [List.length_replicate]; omega⟩
  · split
    · exact ⟨by show r.n + 1 ≤ 4; omega, by simp⟩
    · exact ⟨by show 1 ≤ 4; decide, by simp⟩

def uendE (r : Rl.Pc) : Int := if r.n = 4 then 24 else 0
def uendR (r : Rl.Pc) : Rl.Pc := if r.n = 4 then r else Rl.row0
set_option maxRecDepth 100000 in
set_option maxHeartbeats 800000 in
theorem put_nil (c : Int) (w : World) : Calls Try.prog 30 #[.pointer none, .int .u8 c] w fun e w' => e = .returned (.string ⟨#[]⟩) ∧ w = w' := by
  go_enter Try.func30, Try.ntmps30
  go_wp2
  go_ret
  exact ⟨rfl, rfl⟩
set_option maxRecDepth 100000 in
set_option maxHeartbeats 800000 in
theorem pend_nil (w : World) : Calls Try.prog 32 #[.pointer none] w fun e w' => e = .returned (.string ⟨#[]⟩) ∧ w = w' := by
  go_enter Try.func32, Try.ntmps32
  go_wp2
  go_ret
  exact ⟨rfl, rfl⟩
set_option maxRecDepth 100000 in
set_option maxHeartbeats 800000 in
theorem prow_nil (w : World) : Calls Try.prog 29 #[.pointer none] w fun e w' => e = .returned (.agg #[.int .u8 0, .int .i64 0]) ∧ Below w.heap.size w w' := by
  go_enter Try.func29, Try.ntmps29
  go_wp2
  refine bodyPost_ret (v := .agg #[.int .u8 0, .int .i64 0]) (by rw [results_cell1 rfl]; go_simp) rfl ?_
  exact ⟨rfl, (Below.refl _ _).alloc (Nat.le_refl _) _⟩
end Go.Proofs.Ytaldcdgafljedaa
