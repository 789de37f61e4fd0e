/- A region that draws its order, whose callees may make memory: the class of the worlds in which nothing that was there has changed, as a type, so that the walk's simp takes facts on all of them as rules. -/
import Derived.Test.YtajalllecoclcaaDoorBase
import Derived.Test.YtajalllecoclcaaDoorQuiet
import Derived.BigQuiet
namespace Go.Proofs.YtajalllecoclcaaDoor
open Go.RowKit

/-- a world in which all that w had is as it was -/
def Later (w : World) : Type := {y : World // Below w.heap.size w y}
def Later.at {w : World} (x : Later w) : World := x.1
theorem Later.below {w : World} (x : Later w) : Below w.heap.size w x.at := x.2
def Later.mk {w y : World} (h : Below w.heap.size w y) : Later w := ⟨y, h⟩
instance (w : World) : Nonempty (Later w) := ⟨⟨w, Below.refl _ _⟩⟩
theorem Later.cell {w : World} (x : Later w) {p : Addr} {v : Value} (h : w.cell? p = some v) : x.at.cell? p = some v := by
  rw [x.below.cell (p := p) (Go.block_lt_of_cell h)]; exact h

theorem later_call {P : Program} {f : FuncId} {args : Array Value} {w : World} {x : Later w} {v : Value}
    (h : Calls P f args x.at fun e w' => e = .returned v ∧ Below x.at.heap.size x.at w') : Calls P f args x.at fun e w' => e = .returned v ∧ ∃ y : Later w, w' = y.at :=
  h.mono fun _ w' ⟨he, hb⟩ => ⟨he, ⟨w', x.below.trans (hb.mono x.below.size)⟩, rfl⟩
theorem later_same {P : Program} {f : FuncId} {args : Array Value} {w : World} {x : Later w} {v : Value}
    (h : Calls P f args x.at fun e w' => e = .returned v ∧ x.at = w') : Calls P f args x.at fun e w' => e = .returned v ∧ ∃ y : Later w, w' = y.at :=
  h.mono fun _ _ ⟨he, hb⟩ => ⟨he, x, hb.symm⟩

/-- one walk: the first n operations only read, or call what leaves old memory alone; the others follow in the text's order -/
theorem region_later {P : Program} {id : Nat} {Q : Exit → Act → World → Prop} {a : Act} {w : World} {l : List Oper} (n : Nat) (hm : P.follows .mixedOrders = true) (hB : Quiet.okB l.toArray n = true)
    (h : wpQuiet P l.toArray (fun w' => ∃ x : Later w, w' = x.at) (fun a' => ∀ w', (∃ x : Later w, w' = x.at) → wpList P l.toArray Q (l.drop n) a' w') (l.take n) a)
    (hQ : ∀ c (a : Act) (d : Option Tmp) x w, Q (.panic c) (a.put d x) w → Q (.panic c) a w := by intro c a d x w h; cases d <;> exact h) : (Code.region id l.toArray true).wp P Q a w :=
  Quiet.region_quiet_tail n (fun w' => ∃ x : Later w, w' = x.at) hm hB ⟨⟨w.drew, (Below.refl _ _).drew⟩, rfl⟩ h hQ
end Go.Proofs.YtajalllecoclcaaDoor
