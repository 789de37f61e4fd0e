/- The slice of requests that comes in. -/
import Derived.Test.YtckdbkbecelgcaaDoorPrTxt1
namespace Go.Proofs.YtckdbkbecelgcaaDoor
open Go.RowKit Go.ChangeShapes Go.WideShapes Go.Deep
section
variable {H : Type} {enc : TypeId × Value → H} {w : World} {base : Nat} {spare : Nat → Bool} {held : Bool}
theorem reqs_in {a : Option Addr} {len cap : Nat} {d : DataW H} {q : List MemPlace} (h0 : DataW.Trod enc Tryd.prog w base spare held 53 (Value.slice a len cap) d q) :
    ∃ l : List Pr.Rq, l.length = len ∧ RowS w 7 a len cap (l.flatMap rcells) ∧ ∀ x ∈ l, x.txt.size ≤ maxLen := by
  obtain ⟨fuel, h⟩ := h0
  obtain ⟨vs, hr, hg⟩ := rowS_in [FK.i .i64, FK.i .i64, FK.s, FK.s, FK.i .i64, FK.i .i64, FK.i .i64] Tryd.underlying53 Tryd.underlying27 (by kernel_rfl) (by kernel_rfl) (fun j k hk => by
    match j, hk with
    | 0, hk => cases hk; exact ⟨_, rfl, Tryd.underlying3⟩
    | 1, hk => cases hk; exact ⟨_, rfl, Tryd.underlying3⟩
    | 2, hk => cases hk; exact ⟨_, rfl, Tryd.underlying9⟩
    | 3, hk => cases hk; exact ⟨_, rfl, Tryd.underlying9⟩
    | 4, hk => cases hk; exact ⟨_, rfl, Tryd.underlying25⟩
    | 5, hk => cases hk; exact ⟨_, rfl, Tryd.underlying3⟩
    | 6, hk => cases hk; exact ⟨_, rfl, Tryd.underlying3⟩) (by decide) h
  have hr' : RowS w 7 a len cap vs := hr
  obtain ⟨l, h1, h2, h3⟩ := rows_of rcells (fun x => x.txt.size ≤ maxLen) 7 (fun _ => rfl) len vs hr'.length (fun i hi => by
    obtain ⟨c0, hc0, _⟩ := hg i hi 0 _ rfl
    obtain ⟨c1, hc1, _⟩ := hg i hi 1 _ rfl
    obtain ⟨c2, hc2, _⟩ := hg i hi 2 _ rfl
    obtain ⟨c3, hc3, hz⟩ := hg i hi 3 _ rfl
    obtain ⟨c4, hc4, _⟩ := hg i hi 4 _ rfl
    obtain ⟨c5, hc5, _⟩ := hg i hi 5 _ rfl
    obtain ⟨c6, hc6, _⟩ := hg i hi 6 _ rfl
    refine ⟨⟨c0, c1, c2, c3, c4, c5, c6⟩, hz, fun j hj => ?_⟩
    match j, hj with
    | 0, _ => exact hc0
    | 1, _ => exact hc1
    | 2, _ => exact hc2
    | 3, _ => exact hc3
    | 4, _ => exact hc4
    | 5, _ => exact hc5
    | 6, _ => exact hc6)
  subst h2
  exact ⟨l, h1, hr', h3⟩
end
end Go.Proofs.YtckdbkbecelgcaaDoor
