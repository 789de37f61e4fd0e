/-
  DERIVED. GIVEN WITH THE SEED: THE CARDS: each row of YtimlmjabdakojaaDoorRows.lean that lists a variable, with what it lists TIED to the program's text (the seventh form; the later family's looks); each row that meets fmt, with fmt's text TOLD by the authors' own Lean function (tested against real Go, not proved from fmt's source: count such statements apart). THE CARD IS WHAT COUNTS. Prove the row's statement (the work); the ties are given (YtimlmjabdakojaaDoorTie.lean); close each card by the builder's one call (the guide's Derived/Test/ToyasCard.lean, 'card_holds'). Laid BY PROGRAM, IN A SANDBOX (cutbox-door.mjs). By AI agents, Wed Nov 11 2026. No macro, syntax, notation, axiom, sorry.
-/
import Derived.Test.YtimlmjabdakojaaDoorRows
import GoSem.ClaimSeven
namespace Go.Proofs.YtimlmjabdakojaaDoor
namespace Rows

/-- THE TIED CARD OF 'balerlaw32.TenantsCheck'. -/
def tenantsCheckCard : Claim7 := { stood := { row := tenantsCheckRow, standIns := [], harness := (true, "46585aa8f31f0b086402afc7501c2c92bc9584dba7b3f80680ae994a74049762"), looks := false }, kinds := [], alts := [], laidByText := true, laidKinds := [.data, .pinned], laidTests := true, laidLooks := .later }
def TenantsCheckCardSaid : Prop := Claim7.holds Tryd.pinned (.plain (OpenSpec.ofChange tenantsCheckSpec)) tenantsCheckCard

/-- THE TIED CARD OF 'balerlaw32.TenantsFind'. -/
def tenantsFindCard : Claim7 := { stood := { row := tenantsFindRow, standIns := [], harness := (true, "46585aa8f31f0b086402afc7501c2c92bc9584dba7b3f80680ae994a74049762"), looks := false }, kinds := [], alts := [], laidByText := true, laidKinds := [.data, .pinned], laidTests := true, laidLooks := .later }
def TenantsFindCardSaid : Prop := Claim7.holds Tryd.pinned (.plain (OpenSpec.ofChange tenantsFindSpec)) tenantsFindCard

/-- THE TIED CARD OF 'balerlaw32.TenantsTexts'. -/
def tenantsTextsCard : Claim7 := { stood := { row := tenantsTextsRow, standIns := [], harness := (true, "46585aa8f31f0b086402afc7501c2c92bc9584dba7b3f80680ae994a74049762"), looks := false }, kinds := [], alts := [], laidByText := true, laidKinds := [.data, .pinned], laidTests := true, laidLooks := .later }
def TenantsTextsCardSaid : Prop := Claim7.holds Tryd.pinned (.plain (OpenSpec.ofChange tenantsTextsSpec)) tenantsTextsCard

/-- THE TIED CARD OF 'balerlaw32.TenantsParses'. -/
def tenantsParsesCard : Claim7 := { stood := { row := tenantsParsesRow, standIns := [], harness := (true, "46585aa8f31f0b086402afc7501c2c92bc9584dba7b3f80680ae994a74049762"), looks := false }, kinds := [], alts := [], laidByText := true, laidKinds := [.data, .pinned], laidTests := true, laidLooks := .later }
def TenantsParsesCardSaid : Prop := Claim7.holds Tryd.pinned (.plain (OpenSpec.ofChange tenantsParsesSpec)) tenantsParsesCard

/-- THE TIED CARD OF 'balerlaw32.TenantsConfig'. -/
def tenantsConfigCard : Claim7 := { stood := { row := tenantsConfigRow, standIns := [], harness := (true, "46585aa8f31f0b086402afc7501c2c92bc9584dba7b3f80680ae994a74049762"), looks := false }, kinds := [], alts := [], laidByText := true, laidKinds := [.data, .pinned], laidTests := true, laidLooks := .later }
def TenantsConfigCardSaid : Prop := Claim7.holds Tryd.pinned (.plain (OpenSpec.ofChange tenantsConfigSpec)) tenantsConfigCard

/-- THE SECOND FORM's CARD OF 'balerlaw32.TenantsCheck'. -/
def tenantsCheckUptoCard : Claim7 := { stood := { row := tenantsCheckUptoRow, standIns := [], harness := (true, "46585aa8f31f0b086402afc7501c2c92bc9584dba7b3f80680ae994a74049762"), looks := false }, kinds := [], alts := [], laidByText := true, laidKinds := [.data, .pinned], laidTests := true, laidLooks := .later }
def TenantsCheckUptoCardSaid : Prop := Claim7.holds Tryd.pinned (.plain (OpenSpec.upto tenantsCheckSpec)) tenantsCheckUptoCard

/-- THE SECOND FORM's CARD OF 'balerlaw32.TenantsFind'. -/
def tenantsFindUptoCard : Claim7 := { stood := { row := tenantsFindUptoRow, standIns := [], harness := (true, "46585aa8f31f0b086402afc7501c2c92bc9584dba7b3f80680ae994a74049762"), looks := false }, kinds := [], alts := [], laidByText := true, laidKinds := [.data, .pinned], laidTests := true, laidLooks := .later }
def TenantsFindUptoCardSaid : Prop := Claim7.holds Tryd.pinned (.plain (OpenSpec.upto tenantsFindSpec)) tenantsFindUptoCard

/-- THE SECOND FORM's CARD OF 'balerlaw32.TenantsTexts'. -/
def tenantsTextsUptoCard : Claim7 := { stood := { row := tenantsTextsUptoRow, standIns := [], harness := (true, "46585aa8f31f0b086402afc7501c2c92bc9584dba7b3f80680ae994a74049762"), looks := false }, kinds := [], alts := [], laidByText := true, laidKinds := [.data, .pinned], laidTests := true, laidLooks := .later }
def TenantsTextsUptoCardSaid : Prop := Claim7.holds Tryd.pinned (.plain (OpenSpec.upto tenantsTextsSpec)) tenantsTextsUptoCard

/-- THE SECOND FORM's CARD OF 'balerlaw32.TenantsParses'. -/
def tenantsParsesUptoCard : Claim7 := { stood := { row := tenantsParsesUptoRow, standIns := [], harness := (true, "46585aa8f31f0b086402afc7501c2c92bc9584dba7b3f80680ae994a74049762"), looks := false }, kinds := [], alts := [], laidByText := true, laidKinds := [.data, .pinned], laidTests := true, laidLooks := .later }
def TenantsParsesUptoCardSaid : Prop := Claim7.holds Tryd.pinned (.plain (OpenSpec.upto tenantsParsesSpec)) tenantsParsesUptoCard

/-- THE SECOND FORM's CARD OF 'balerlaw32.TenantsConfig'. -/
def tenantsConfigUptoCard : Claim7 := { stood := { row := tenantsConfigUptoRow, standIns := [], harness := (true, "46585aa8f31f0b086402afc7501c2c92bc9584dba7b3f80680ae994a74049762"), looks := false }, kinds := [], alts := [], laidByText := true, laidKinds := [.data, .pinned], laidTests := true, laidLooks := .later }
def TenantsConfigUptoCardSaid : Prop := Claim7.holds Tryd.pinned (.plain (OpenSpec.upto tenantsConfigSpec)) tenantsConfigUptoCard
end Rows
end Go.Proofs.YtimlmjabdakojaaDoor
