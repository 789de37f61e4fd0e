/-
  DERIVED. GIVEN WITH THE SEED: THE CARDS: each row of YtdbcdacekejjjaaDoorRows.lean that lists a variable, with what it lists TIED to the program's text (the seventh form; the later family's looks); each row that meets fmt, with fmt's text TOLD by the authors' own Lean function (tested against real Go, not proved from fmt's source: count such statements apart). THE CARD IS WHAT COUNTS. Prove the row's statement (the work); the ties are given (YtdbcdacekejjjaaDoorTie.lean); close each card by the builder's one call (the guide's Derived/Test/ToyasCard.lean, 'card_holds'). Laid BY PROGRAM, IN A SANDBOX (cutbox-door.mjs). By AI agents, Wed Nov 11 2026. No macro, syntax, notation, axiom, sorry.
-/
import Derived.Test.YtdbcdacekejjjaaDoorRows
import GoSem.ClaimSeven
namespace Go.Proofs.YtdbcdacekejjjaaDoor
namespace Rows

/-- THE TIED CARD OF 'balerlaw31.TokenRunes'. -/
def tokenRunesCard : Claim7 := { stood := { row := tokenRunesRow, standIns := [], harness := (true, "75120b7b8bbd9dc3726b1a26b09697a5b9789ea5b78e19bc9a95ba2155b7460d"), looks := false }, kinds := [], alts := [], laidByText := true, laidKinds := [.data, .pinned], laidTests := true, laidLooks := .later }
def TokenRunesCardSaid : Prop := Claim7.holds Tryd.pinned (.plain (OpenSpec.ofChange tokenRunesSpec)) tokenRunesCard

/-- THE TIED CARD OF 'balerlaw31.TokenWords'. -/
def tokenWordsCard : Claim7 := { stood := { row := tokenWordsRow, standIns := [], harness := (true, "75120b7b8bbd9dc3726b1a26b09697a5b9789ea5b78e19bc9a95ba2155b7460d"), looks := false }, kinds := [], alts := [], laidByText := true, laidKinds := [.data, .pinned], laidTests := true, laidLooks := .later }
def TokenWordsCardSaid : Prop := Claim7.holds Tryd.pinned (.plain (OpenSpec.ofChange tokenWordsSpec)) tokenWordsCard

/-- THE TIED CARD OF 'balerlaw31.TokenCuts'. -/
def tokenCutsCard : Claim7 := { stood := { row := tokenCutsRow, standIns := [], harness := (true, "75120b7b8bbd9dc3726b1a26b09697a5b9789ea5b78e19bc9a95ba2155b7460d"), looks := false }, kinds := [], alts := [], laidByText := true, laidKinds := [.data, .pinned], laidTests := true, laidLooks := .later }
def TokenCutsCardSaid : Prop := Claim7.holds Tryd.pinned (.plain (OpenSpec.ofChange tokenCutsSpec)) tokenCutsCard

/-- THE TIED CARD OF 'balerlaw31.TokenSame'. -/
def tokenSameCard : Claim7 := { stood := { row := tokenSameRow, standIns := [], harness := (true, "75120b7b8bbd9dc3726b1a26b09697a5b9789ea5b78e19bc9a95ba2155b7460d"), looks := false }, kinds := [], alts := [], laidByText := true, laidKinds := [.data, .pinned], laidTests := true, laidLooks := .later }
def TokenSameCardSaid : Prop := Claim7.holds Tryd.pinned (.plain (OpenSpec.ofChange tokenSameSpec)) tokenSameCard

/-- THE TIED CARD OF 'balerlaw31.TokenTexts'. -/
def tokenTextsCard : Claim7 := { stood := { row := tokenTextsRow, standIns := [], harness := (true, "75120b7b8bbd9dc3726b1a26b09697a5b9789ea5b78e19bc9a95ba2155b7460d"), looks := false }, kinds := [], alts := [], laidByText := true, laidKinds := [.data, .pinned], laidTests := true, laidLooks := .later }
def TokenTextsCardSaid : Prop := Claim7.holds Tryd.pinned (.plain (OpenSpec.ofChange tokenTextsSpec)) tokenTextsCard

/-- THE TIED CARD OF 'balerlaw31.TokenBack'. -/
def tokenBackCard : Claim7 := { stood := { row := tokenBackRow, standIns := [], harness := (true, "75120b7b8bbd9dc3726b1a26b09697a5b9789ea5b78e19bc9a95ba2155b7460d"), looks := false }, kinds := [], alts := [], laidByText := true, laidKinds := [.data, .pinned], laidTests := true, laidLooks := .later }
def TokenBackCardSaid : Prop := Claim7.holds Tryd.pinned (.plain (OpenSpec.ofChange tokenBackSpec)) tokenBackCard

/-- THE SECOND FORM's CARD OF 'balerlaw31.TokenRunes'. -/
def tokenRunesUptoCard : Claim7 := { stood := { row := tokenRunesUptoRow, standIns := [], harness := (true, "75120b7b8bbd9dc3726b1a26b09697a5b9789ea5b78e19bc9a95ba2155b7460d"), looks := false }, kinds := [], alts := [], laidByText := true, laidKinds := [.data, .pinned], laidTests := true, laidLooks := .later }
def TokenRunesUptoCardSaid : Prop := Claim7.holds Tryd.pinned (.plain (OpenSpec.upto tokenRunesSpec)) tokenRunesUptoCard

/-- THE SECOND FORM's CARD OF 'balerlaw31.TokenWords'. -/
def tokenWordsUptoCard : Claim7 := { stood := { row := tokenWordsUptoRow, standIns := [], harness := (true, "75120b7b8bbd9dc3726b1a26b09697a5b9789ea5b78e19bc9a95ba2155b7460d"), looks := false }, kinds := [], alts := [], laidByText := true, laidKinds := [.data, .pinned], laidTests := true, laidLooks := .later }
def TokenWordsUptoCardSaid : Prop := Claim7.holds Tryd.pinned (.plain (OpenSpec.upto tokenWordsSpec)) tokenWordsUptoCard

/-- THE SECOND FORM's CARD OF 'balerlaw31.TokenCuts'. -/
def tokenCutsUptoCard : Claim7 := { stood := { row := tokenCutsUptoRow, standIns := [], harness := (true, "75120b7b8bbd9dc3726b1a26b09697a5b9789ea5b78e19bc9a95ba2155b7460d"), looks := false }, kinds := [], alts := [], laidByText := true, laidKinds := [.data, .pinned], laidTests := true, laidLooks := .later }
def TokenCutsUptoCardSaid : Prop := Claim7.holds Tryd.pinned (.plain (OpenSpec.upto tokenCutsSpec)) tokenCutsUptoCard

/-- THE SECOND FORM's CARD OF 'balerlaw31.TokenSame'. -/
def tokenSameUptoCard : Claim7 := { stood := { row := tokenSameUptoRow, standIns := [], harness := (true, "75120b7b8bbd9dc3726b1a26b09697a5b9789ea5b78e19bc9a95ba2155b7460d"), looks := false }, kinds := [], alts := [], laidByText := true, laidKinds := [.data, .pinned], laidTests := true, laidLooks := .later }
def TokenSameUptoCardSaid : Prop := Claim7.holds Tryd.pinned (.plain (OpenSpec.upto tokenSameSpec)) tokenSameUptoCard

/-- THE SECOND FORM's CARD OF 'balerlaw31.TokenTexts'. -/
def tokenTextsUptoCard : Claim7 := { stood := { row := tokenTextsUptoRow, standIns := [], harness := (true, "75120b7b8bbd9dc3726b1a26b09697a5b9789ea5b78e19bc9a95ba2155b7460d"), looks := false }, kinds := [], alts := [], laidByText := true, laidKinds := [.data, .pinned], laidTests := true, laidLooks := .later }
def TokenTextsUptoCardSaid : Prop := Claim7.holds Tryd.pinned (.plain (OpenSpec.upto tokenTextsSpec)) tokenTextsUptoCard

/-- THE SECOND FORM's CARD OF 'balerlaw31.TokenBack'. -/
def tokenBackUptoCard : Claim7 := { stood := { row := tokenBackUptoRow, standIns := [], harness := (true, "75120b7b8bbd9dc3726b1a26b09697a5b9789ea5b78e19bc9a95ba2155b7460d"), looks := false }, kinds := [], alts := [], laidByText := true, laidKinds := [.data, .pinned], laidTests := true, laidLooks := .later }
def TokenBackUptoCardSaid : Prop := Claim7.holds Tryd.pinned (.plain (OpenSpec.upto tokenBackSpec)) tokenBackUptoCard
end Rows
end Go.Proofs.YtdbcdacekejjjaaDoor
