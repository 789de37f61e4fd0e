/-
  DERIVED. GIVEN WITH THE SEED: THE CARDS: each row of YtajalllecoclcaaDoorRows.lean that lists a variable, with what it lists TIED to the program's text (the seventh form; the later family's looks); each row that meets fmt, with fmt's text TOLD by the authors' own Lean function (tested against real Go, not proved from fmt's source: count such statements apart). THE CARD IS WHAT COUNTS. Prove the row's statement (the work); the ties are given (YtajalllecoclcaaDoorTie.lean); close each card by the builder's one call (the guide's Derived/Test/ToyasCard.lean, 'card_holds'). Laid BY PROGRAM, IN A SANDBOX (cutbox-door.mjs). By AI agents, Wed Nov 11 2026. No macro, syntax, notation, axiom, sorry.
-/
import Derived.Test.YtajalllecoclcaaDoorRows
import GoSem.ClaimSeven
namespace Go.Proofs.YtajalllecoclcaaDoor
namespace Rows

/-- THE TIED CARD OF 'balerlaw36.ConnSame'. -/
def connSameCard : Claim7 := { stood := { row := connSameRow, standIns := [], harness := (true, "a7463751a6037d3935885aea3966681695c3dc878c40a37b01228b72cd9d8565"), looks := false }, kinds := [], alts := [], laidByText := true, laidKinds := [.data, .pinned], laidTests := true, laidLooks := .later }
def ConnSameCardSaid : Prop := Claim7.holds Tryd.pinned (.plain (OpenSpec.ofChange connSameSpec)) connSameCard

/-- THE TIED CARD OF 'balerlaw36.ConnOnce'. -/
def connOnceCard : Claim7 := { stood := { row := connOnceRow, standIns := [], harness := (true, "a7463751a6037d3935885aea3966681695c3dc878c40a37b01228b72cd9d8565"), looks := false }, kinds := [], alts := [], laidByText := true, laidKinds := [.data, .pinned], laidTests := true, laidLooks := .later }
def ConnOnceCardSaid : Prop := Claim7.holds Tryd.pinned (.plain (OpenSpec.ofChange connOnceSpec)) connOnceCard

/-- THE TIED CARD OF 'balerlaw36.ConnFull'. -/
def connFullCard : Claim7 := { stood := { row := connFullRow, standIns := [], harness := (true, "a7463751a6037d3935885aea3966681695c3dc878c40a37b01228b72cd9d8565"), looks := false }, kinds := [], alts := [], laidByText := true, laidKinds := [.data, .pinned], laidTests := true, laidLooks := .later }
def ConnFullCardSaid : Prop := Claim7.holds Tryd.pinned (.plain (OpenSpec.ofChange connFullSpec)) connFullCard

/-- THE TIED CARD OF 'balerlaw36.ConnSteps'. -/
def connStepsCard : Claim7 := { stood := { row := connStepsRow, standIns := [], harness := (true, "a7463751a6037d3935885aea3966681695c3dc878c40a37b01228b72cd9d8565"), looks := false }, kinds := [], alts := [], laidByText := true, laidKinds := [.data, .pinned], laidTests := true, laidLooks := .later }
def ConnStepsCardSaid : Prop := Claim7.holds Tryd.pinned (.plain (OpenSpec.ofChange connStepsSpec)) connStepsCard

/-- THE TIED CARD OF 'balerlaw36.ConnNil'. -/
def connNilCard : Claim7 := { stood := { row := connNilRow, standIns := [], harness := (true, "a7463751a6037d3935885aea3966681695c3dc878c40a37b01228b72cd9d8565"), looks := false }, kinds := [], alts := [], laidByText := true, laidKinds := [.data, .pinned], laidTests := true, laidLooks := .later }
def ConnNilCardSaid : Prop := Claim7.holds Tryd.pinned (.plain (OpenSpec.ofChange connNilSpec)) connNilCard

/-- THE SECOND FORM's CARD OF 'balerlaw36.ConnSame'. -/
def connSameUptoCard : Claim7 := { stood := { row := connSameUptoRow, standIns := [], harness := (true, "a7463751a6037d3935885aea3966681695c3dc878c40a37b01228b72cd9d8565"), looks := false }, kinds := [], alts := [], laidByText := true, laidKinds := [.data, .pinned], laidTests := true, laidLooks := .later }
def ConnSameUptoCardSaid : Prop := Claim7.holds Tryd.pinned (.plain (OpenSpec.upto connSameSpec)) connSameUptoCard

/-- THE SECOND FORM's CARD OF 'balerlaw36.ConnOnce'. -/
def connOnceUptoCard : Claim7 := { stood := { row := connOnceUptoRow, standIns := [], harness := (true, "a7463751a6037d3935885aea3966681695c3dc878c40a37b01228b72cd9d8565"), looks := false }, kinds := [], alts := [], laidByText := true, laidKinds := [.data, .pinned], laidTests := true, laidLooks := .later }
def ConnOnceUptoCardSaid : Prop := Claim7.holds Tryd.pinned (.plain (OpenSpec.upto connOnceSpec)) connOnceUptoCard

/-- THE SECOND FORM's CARD OF 'balerlaw36.ConnFull'. -/
def connFullUptoCard : Claim7 := { stood := { row := connFullUptoRow, standIns := [], harness := (true, "a7463751a6037d3935885aea3966681695c3dc878c40a37b01228b72cd9d8565"), looks := false }, kinds := [], alts := [], laidByText := true, laidKinds := [.data, .pinned], laidTests := true, laidLooks := .later }
def ConnFullUptoCardSaid : Prop := Claim7.holds Tryd.pinned (.plain (OpenSpec.upto connFullSpec)) connFullUptoCard

/-- THE SECOND FORM's CARD OF 'balerlaw36.ConnSteps'. -/
def connStepsUptoCard : Claim7 := { stood := { row := connStepsUptoRow, standIns := [], harness := (true, "a7463751a6037d3935885aea3966681695c3dc878c40a37b01228b72cd9d8565"), looks := false }, kinds := [], alts := [], laidByText := true, laidKinds := [.data, .pinned], laidTests := true, laidLooks := .later }
def ConnStepsUptoCardSaid : Prop := Claim7.holds Tryd.pinned (.plain (OpenSpec.upto connStepsSpec)) connStepsUptoCard

/-- THE SECOND FORM's CARD OF 'balerlaw36.ConnNil'. -/
def connNilUptoCard : Claim7 := { stood := { row := connNilUptoRow, standIns := [], harness := (true, "a7463751a6037d3935885aea3966681695c3dc878c40a37b01228b72cd9d8565"), looks := false }, kinds := [], alts := [], laidByText := true, laidKinds := [.data, .pinned], laidTests := true, laidLooks := .later }
def ConnNilUptoCardSaid : Prop := Claim7.holds Tryd.pinned (.plain (OpenSpec.upto connNilSpec)) connNilUptoCard
end Rows
end Go.Proofs.YtajalllecoclcaaDoor
