/-
  DERIVED. GIVEN WITH THE SEED: THE CARDS: each row of YtckdbkbecelgcaaDoorRows.lean that lists a variable, with what it lists TIED to the program's text (the seventh form; the later family's looks); each row that meets fmt, with fmt's text TOLD by the authors' own Lean function (tested against real Go, not proved from fmt's source: count such statements apart). THE CARD IS WHAT COUNTS. Prove the row's statement (the work); the ties are given (YtckdbkbecelgcaaDoorTie.lean); close each card by the builder's one call (the guide's Derived/Test/ToyasCard.lean, 'card_holds'). Laid BY PROGRAM, IN A SANDBOX (cutbox-door.mjs). By AI agents, Wed Nov 11 2026. No macro, syntax, notation, axiom, sorry.
-/
import Derived.Test.YtckdbkbecelgcaaDoorRows
import GoSem.ClaimSeven
namespace Go.Proofs.YtckdbkbecelgcaaDoor
namespace Rows

/-- THE TIED CARD OF 'balerlaw35.ProtoReads'. -/
def protoReadsCard : Claim7 := { stood := { row := protoReadsRow, standIns := [], harness := (true, "5e0f64710f1835224a180db900367b042cbf0a42d3cd24339faffe263d946fe4"), looks := false }, kinds := [], alts := [], laidByText := true, laidKinds := [.data, .pinned], laidTests := true, laidLooks := .later }
def ProtoReadsCardSaid : Prop := Claim7.holds Tryd.pinned (.plain (OpenSpec.ofChange protoReadsSpec)) protoReadsCard

/-- THE TIED CARD OF 'balerlaw35.ProtoAsks'. -/
def protoAsksCard : Claim7 := { stood := { row := protoAsksRow, standIns := [], harness := (true, "5e0f64710f1835224a180db900367b042cbf0a42d3cd24339faffe263d946fe4"), looks := false }, kinds := [], alts := [], laidByText := true, laidKinds := [.data, .pinned], laidTests := true, laidLooks := .later }
def ProtoAsksCardSaid : Prop := Claim7.holds Tryd.pinned (.plain (OpenSpec.ofChange protoAsksSpec)) protoAsksCard

/-- THE TIED CARD OF 'balerlaw35.ProtoHears'. -/
def protoHearsCard : Claim7 := { stood := { row := protoHearsRow, standIns := [], harness := (true, "5e0f64710f1835224a180db900367b042cbf0a42d3cd24339faffe263d946fe4"), looks := false }, kinds := [], alts := [], laidByText := true, laidKinds := [.data, .pinned], laidTests := true, laidLooks := .later }
def ProtoHearsCardSaid : Prop := Claim7.holds Tryd.pinned (.plain (OpenSpec.ofChange protoHearsSpec)) protoHearsCard

/-- THE TIED CARD OF 'balerlaw35.ProtoWrites'. -/
def protoWritesCard : Claim7 := { stood := { row := protoWritesRow, standIns := [], harness := (true, "5e0f64710f1835224a180db900367b042cbf0a42d3cd24339faffe263d946fe4"), looks := false }, kinds := [], alts := [], laidByText := true, laidKinds := [.data, .pinned], laidTests := true, laidLooks := .later }
def ProtoWritesCardSaid : Prop := Claim7.holds Tryd.pinned (.plain (OpenSpec.ofChange protoWritesSpec)) protoWritesCard

/-- THE TIED CARD OF 'balerlaw35.ProtoTexts'. -/
def protoTextsCard : Claim7 := { stood := { row := protoTextsRow, standIns := [], harness := (true, "5e0f64710f1835224a180db900367b042cbf0a42d3cd24339faffe263d946fe4"), looks := false }, kinds := [], alts := [], laidByText := true, laidKinds := [.data, .pinned], laidTests := true, laidLooks := .later }
def ProtoTextsCardSaid : Prop := Claim7.holds Tryd.pinned (.plain (OpenSpec.ofChange protoTextsSpec)) protoTextsCard

/-- THE TIED CARD OF 'balerlaw35.ProtoAnswers'. -/
def protoAnswersCard : Claim7 := { stood := { row := protoAnswersRow, standIns := [], harness := (true, "5e0f64710f1835224a180db900367b042cbf0a42d3cd24339faffe263d946fe4"), looks := false }, kinds := [], alts := [], laidByText := true, laidKinds := [.data, .pinned], laidTests := true, laidLooks := .later }
def ProtoAnswersCardSaid : Prop := Claim7.holds Tryd.pinned (.plain (OpenSpec.ofChange protoAnswersSpec)) protoAnswersCard

/-- THE SECOND FORM's CARD OF 'balerlaw35.ProtoReads'. -/
def protoReadsUptoCard : Claim7 := { stood := { row := protoReadsUptoRow, standIns := [], harness := (true, "5e0f64710f1835224a180db900367b042cbf0a42d3cd24339faffe263d946fe4"), looks := false }, kinds := [], alts := [], laidByText := true, laidKinds := [.data, .pinned], laidTests := true, laidLooks := .later }
def ProtoReadsUptoCardSaid : Prop := Claim7.holds Tryd.pinned (.plain (OpenSpec.upto protoReadsSpec)) protoReadsUptoCard

/-- THE SECOND FORM's CARD OF 'balerlaw35.ProtoAsks'. -/
def protoAsksUptoCard : Claim7 := { stood := { row := protoAsksUptoRow, standIns := [], harness := (true, "5e0f64710f1835224a180db900367b042cbf0a42d3cd24339faffe263d946fe4"), looks := false }, kinds := [], alts := [], laidByText := true, laidKinds := [.data, .pinned], laidTests := true, laidLooks := .later }
def ProtoAsksUptoCardSaid : Prop := Claim7.holds Tryd.pinned (.plain (OpenSpec.upto protoAsksSpec)) protoAsksUptoCard

/-- THE SECOND FORM's CARD OF 'balerlaw35.ProtoHears'. -/
def protoHearsUptoCard : Claim7 := { stood := { row := protoHearsUptoRow, standIns := [], harness := (true, "5e0f64710f1835224a180db900367b042cbf0a42d3cd24339faffe263d946fe4"), looks := false }, kinds := [], alts := [], laidByText := true, laidKinds := [.data, .pinned], laidTests := true, laidLooks := .later }
def ProtoHearsUptoCardSaid : Prop := Claim7.holds Tryd.pinned (.plain (OpenSpec.upto protoHearsSpec)) protoHearsUptoCard

/-- THE SECOND FORM's CARD OF 'balerlaw35.ProtoWrites'. -/
def protoWritesUptoCard : Claim7 := { stood := { row := protoWritesUptoRow, standIns := [], harness := (true, "5e0f64710f1835224a180db900367b042cbf0a42d3cd24339faffe263d946fe4"), looks := false }, kinds := [], alts := [], laidByText := true, laidKinds := [.data, .pinned], laidTests := true, laidLooks := .later }
def ProtoWritesUptoCardSaid : Prop := Claim7.holds Tryd.pinned (.plain (OpenSpec.upto protoWritesSpec)) protoWritesUptoCard

/-- THE SECOND FORM's CARD OF 'balerlaw35.ProtoTexts'. -/
def protoTextsUptoCard : Claim7 := { stood := { row := protoTextsUptoRow, standIns := [], harness := (true, "5e0f64710f1835224a180db900367b042cbf0a42d3cd24339faffe263d946fe4"), looks := false }, kinds := [], alts := [], laidByText := true, laidKinds := [.data, .pinned], laidTests := true, laidLooks := .later }
def ProtoTextsUptoCardSaid : Prop := Claim7.holds Tryd.pinned (.plain (OpenSpec.upto protoTextsSpec)) protoTextsUptoCard

/-- THE SECOND FORM's CARD OF 'balerlaw35.ProtoAnswers'. -/
def protoAnswersUptoCard : Claim7 := { stood := { row := protoAnswersUptoRow, standIns := [], harness := (true, "5e0f64710f1835224a180db900367b042cbf0a42d3cd24339faffe263d946fe4"), looks := false }, kinds := [], alts := [], laidByText := true, laidKinds := [.data, .pinned], laidTests := true, laidLooks := .later }
def ProtoAnswersUptoCardSaid : Prop := Claim7.holds Tryd.pinned (.plain (OpenSpec.upto protoAnswersSpec)) protoAnswersUptoCard
end Rows
end Go.Proofs.YtckdbkbecelgcaaDoor
