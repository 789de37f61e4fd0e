/- A parser's acts. -/
import Derived.Test.YtngheokngonhjaaParLaw1
import Derived.Test.YtngheokngonhjaaParRef1
import Derived.Test.YtngheokngonhjaaRowIn
namespace Go.Proofs.Ytngheokngonhjaa
open Go.RowKit Go.ChangeShapes Go.WideShapes

structure Ac where
  next : Bool
  s : ByteArray
def acells (a : Ac) : List Value := [.bool a.next, .string a.s]
section
variable {H : Type} {enc : TypeId × Value → H} {w : World} {base : Nat} {spare : Nat → Bool} {held : Bool}
theorem acts_in {a : Option Addr} {len cap : Nat} {d : DataW H} {q : List MemPlace} (h0 : DataW.Trod enc Try.prog w base spare held 41 (Value.slice a len cap) d q) :
    ∃ l : List Ac, l.length = len ∧ RowS w 2 a len cap (l.flatMap acells) ∧ ∀ x ∈ l, x.s.size ≤ maxLen := by
  obtain ⟨fuel, h⟩ := h0
  obtain ⟨vs, hr, hg⟩ := rowS_in [FK.b, FK.s] Try.underlying41 Try.underlying43 (by kernel_rfl) (by kernel_rfl) (fun j k hk => by
    match j, hk with
    | 0, hk => cases hk; exact ⟨_, rfl, Try.underlying4⟩
    | 1, hk => cases hk; exact ⟨_, rfl, Try.underlying9⟩) (by decide) h
  have hr' : RowS w 2 a len cap vs := hr
  obtain ⟨l, h1, h2, h3⟩ := rows_of acells (fun x => x.s.size ≤ maxLen) 2 (fun _ => rfl) len vs hr'.length (fun i hi => by
    obtain ⟨b, hb⟩ := hg i hi 0 _ rfl
    obtain ⟨s, hs, hz⟩ := hg i hi 1 _ rfl
    refine ⟨⟨b, s⟩, hz, fun j hj => ?_⟩
    match j, hj with
    | 0, _ => exact hb
    | 1, _ => exact hs)
  subst h2
  exact ⟨l, h1, hr', h3⟩
end
set_option maxRecDepth 100000 in
set_option maxHeartbeats 400000 in
theorem may34 (room : Int) (w : World) : Calls Try.prog 6 #[.int .i64 room] w fun e w' => e = .returned (.bool (decide (9 ≤ room ∧ room ≤ 65545))) ∧ w = w' := by
  by_cases h1 : 9 ≤ room
  · have e1 : decide (9 ≤ room) = true := by simpa using h1
    have e2 : decide (9 ≤ room ∧ room ≤ 65545) = decide (room ≤ 65545) := by simp [h1]
    rw [e2]
    clear e2 h1
    go_enter Try.func6, Try.ntmps6
    go_wp2
    go_ret
    exact ⟨rfl, rfl⟩
  · have e1 : decide (9 ≤ room) = false := by simpa using h1
    have e2 : decide (9 ≤ room ∧ room ≤ 65545) = false := by simp [h1]
    rw [e2]
    clear e2 h1
    go_enter Try.func6, Try.ntmps6
    go_wp2
    go_ret
    exact ⟨rfl, rfl⟩
end Go.Proofs.Ytngheokngonhjaa
