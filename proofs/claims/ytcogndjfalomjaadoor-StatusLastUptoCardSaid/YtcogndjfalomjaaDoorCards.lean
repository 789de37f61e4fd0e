/-
  DERIVED. GIVEN WITH THE SEED: THE CARDS: each row of YtcogndjfalomjaaDoorRows.lean that lists a variable, with what it lists TIED to the program's text (the seventh form; the later family's looks); each row that meets fmt, with fmt's text TOLD by the authors' own Lean function (tested against real Go, not proved from fmt's source: count such statements apart). THE CARD IS WHAT COUNTS. Prove the row's statement (the work); the ties are given (YtcogndjfalomjaaDoorTie.lean); close each card by the builder's one call (the guide's Derived/Test/ToyasCard.lean, 'card_holds'). Laid BY PROGRAM, IN A SANDBOX (cutbox-door.mjs). By AI agents, Wed Nov 11 2026. No macro, syntax, notation, axiom, sorry.
-/
import Derived.Test.YtcogndjfalomjaaDoorRows
import GoSem.ClaimSeven
namespace Go.Proofs.YtcogndjfalomjaaDoor
namespace Rows

/-- THE TIED CARD OF 'balerlaw41.StatusTexts'. -/
def statusTextsCard : Claim7 := { stood := { row := statusTextsRow, standIns := [], harness := (true, "0a0b65517a241cb732338543d0ab2a9bb4a4eee5bbb568b5f095f7b387c38fec"), looks := false }, kinds := [], alts := [], laidByText := true, laidKinds := [.data, .pinned], laidTests := true, laidLooks := .later }
def StatusTextsCardSaid : Prop := Claim7.holds Tryd.pinned (.plain (OpenSpec.ofChange statusTextsSpec)) statusTextsCard

/-- THE TIED CARD OF 'balerlaw41.StatusParses'. -/
def statusParsesCard : Claim7 := { stood := { row := statusParsesRow, standIns := [], harness := (true, "0a0b65517a241cb732338543d0ab2a9bb4a4eee5bbb568b5f095f7b387c38fec"), looks := false }, kinds := [], alts := [], laidByText := true, laidKinds := [.data, .pinned], laidTests := true, laidLooks := .later }
def StatusParsesCardSaid : Prop := Claim7.holds Tryd.pinned (.plain (OpenSpec.ofChange statusParsesSpec)) statusParsesCard

/-- THE TIED CARD OF 'balerlaw41.StatusJoins'. -/
def statusJoinsCard : Claim7 := { stood := { row := statusJoinsRow, standIns := [], harness := (true, "0a0b65517a241cb732338543d0ab2a9bb4a4eee5bbb568b5f095f7b387c38fec"), looks := false }, kinds := [], alts := [], laidByText := true, laidKinds := [.data, .pinned], laidTests := true, laidLooks := .later }
def StatusJoinsCardSaid : Prop := Claim7.holds Tryd.pinned (.plain (OpenSpec.ofChange statusJoinsSpec)) statusJoinsCard

/-- THE TIED CARD OF 'balerlaw41.StatusLast'. -/
def statusLastCard : Claim7 := { stood := { row := statusLastRow, standIns := [], harness := (true, "0a0b65517a241cb732338543d0ab2a9bb4a4eee5bbb568b5f095f7b387c38fec"), looks := false }, kinds := [], alts := [], laidByText := true, laidKinds := [.data, .pinned], laidTests := true, laidLooks := .later }
def StatusLastCardSaid : Prop := Claim7.holds Tryd.pinned (.plain (OpenSpec.ofChange statusLastSpec)) statusLastCard

/-- THE TIED CARD OF 'balerlaw41.StatusCounts'. -/
def statusCountsCard : Claim7 := { stood := { row := statusCountsRow, standIns := [], harness := (true, "0a0b65517a241cb732338543d0ab2a9bb4a4eee5bbb568b5f095f7b387c38fec"), looks := false }, kinds := [], alts := [], laidByText := true, laidKinds := [.data, .pinned], laidTests := true, laidLooks := .later }
def StatusCountsCardSaid : Prop := Claim7.holds Tryd.pinned (.plain (OpenSpec.ofChange statusCountsSpec)) statusCountsCard

/-- THE SECOND FORM's CARD OF 'balerlaw41.StatusTexts'. -/
def statusTextsUptoCard : Claim7 := { stood := { row := statusTextsUptoRow, standIns := [], harness := (true, "0a0b65517a241cb732338543d0ab2a9bb4a4eee5bbb568b5f095f7b387c38fec"), looks := false }, kinds := [], alts := [], laidByText := true, laidKinds := [.data, .pinned], laidTests := true, laidLooks := .later }
def StatusTextsUptoCardSaid : Prop := Claim7.holds Tryd.pinned (.plain (OpenSpec.upto statusTextsSpec)) statusTextsUptoCard

/-- THE SECOND FORM's CARD OF 'balerlaw41.StatusParses'. -/
def statusParsesUptoCard : Claim7 := { stood := { row := statusParsesUptoRow, standIns := [], harness := (true, "0a0b65517a241cb732338543d0ab2a9bb4a4eee5bbb568b5f095f7b387c38fec"), looks := false }, kinds := [], alts := [], laidByText := true, laidKinds := [.data, .pinned], laidTests := true, laidLooks := .later }
def StatusParsesUptoCardSaid : Prop := Claim7.holds Tryd.pinned (.plain (OpenSpec.upto statusParsesSpec)) statusParsesUptoCard

/-- THE SECOND FORM's CARD OF 'balerlaw41.StatusJoins'. -/
def statusJoinsUptoCard : Claim7 := { stood := { row := statusJoinsUptoRow, standIns := [], harness := (true, "0a0b65517a241cb732338543d0ab2a9bb4a4eee5bbb568b5f095f7b387c38fec"), looks := false }, kinds := [], alts := [], laidByText := true, laidKinds := [.data, .pinned], laidTests := true, laidLooks := .later }
def StatusJoinsUptoCardSaid : Prop := Claim7.holds Tryd.pinned (.plain (OpenSpec.upto statusJoinsSpec)) statusJoinsUptoCard

/-- THE SECOND FORM's CARD OF 'balerlaw41.StatusLast'. -/
def statusLastUptoCard : Claim7 := { stood := { row := statusLastUptoRow, standIns := [], harness := (true, "0a0b65517a241cb732338543d0ab2a9bb4a4eee5bbb568b5f095f7b387c38fec"), looks := false }, kinds := [], alts := [], laidByText := true, laidKinds := [.data, .pinned], laidTests := true, laidLooks := .later }
def StatusLastUptoCardSaid : Prop := Claim7.holds Tryd.pinned (.plain (OpenSpec.upto statusLastSpec)) statusLastUptoCard

/-- THE SECOND FORM's CARD OF 'balerlaw41.StatusCounts'. -/
def statusCountsUptoCard : Claim7 := { stood := { row := statusCountsUptoRow, standIns := [], harness := (true, "0a0b65517a241cb732338543d0ab2a9bb4a4eee5bbb568b5f095f7b387c38fec"), looks := false }, kinds := [], alts := [], laidByText := true, laidKinds := [.data, .pinned], laidTests := true, laidLooks := .later }
def StatusCountsUptoCardSaid : Prop := Claim7.holds Tryd.pinned (.plain (OpenSpec.upto statusCountsSpec)) statusCountsUptoCard
end Rows
end Go.Proofs.YtcogndjfalomjaaDoor
