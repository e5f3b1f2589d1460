/-
  DERIVED. GIVEN WITH THE SEED: THE CARDS: each row of YtmlpldkgennmkaaDoorRows.lean that lists a variable, with what it lists TIED to the program's text (the seventh form; the later family's looks); each row that meets fmt, with fmt's text TOLD by the authors' own Lean function (tested against real Go, not proved from fmt's source: count such statements apart). THE CARD IS WHAT COUNTS. Prove the row's statement (the work); the ties are given (YtmlpldkgennmkaaDoorTie.lean); close each card by the builder's one call (the guide's Derived/Test/ToyasCard.lean, 'card_holds'). Laid BY PROGRAM, IN A SANDBOX (cutbox-door.mjs). By AI agents, Wed Nov 11 2026. No macro, syntax, notation, axiom, sorry.
-/
import Derived.Test.YtmlpldkgennmkaaDoorRows
import GoSem.ClaimSeven
namespace Go.Proofs.YtmlpldkgennmkaaDoor
namespace Rows

/-- THE TIED CARD OF 'cartularylaw18.VerifyPaths'. -/
def verifyPathsCard : Claim7 := { stood := { row := verifyPathsRow, standIns := [], harness := (true, "533e12a953195b4e6016e4b37cd5657c967bc86e63e36336384b5baa1db25e1e"), looks := true }, kinds := [], alts := [], laidByText := true, laidKinds := [.handle, .sentinel, .sentinel, .sentinel, .sentinel, .sentinel, .sentinel, .sentinel, .sentinel, .sentinel, .sentinel, .sentinel, .sentinel, .sentinel, .sentinel, .sentinel, .sentinel, .data], laidTests := true, laidLooks := .later }
def VerifyPathsCardSaid : Prop := Claim7.holds Tryd.pinned (.plain (OpenSpec.ofChange verifyPathsSpec)) verifyPathsCard

/-- THE TIED CARD OF 'cartularylaw18.VerifyProofs'. -/
def verifyProofsCard : Claim7 := { stood := { row := verifyProofsRow, standIns := [], harness := (true, "533e12a953195b4e6016e4b37cd5657c967bc86e63e36336384b5baa1db25e1e"), looks := true }, kinds := [], alts := [], laidByText := true, laidKinds := [.handle, .sentinel, .sentinel, .sentinel, .sentinel, .sentinel, .sentinel, .sentinel, .sentinel, .sentinel, .sentinel, .sentinel, .sentinel, .sentinel, .sentinel, .sentinel, .sentinel, .data], laidTests := true, laidLooks := .later }
def VerifyProofsCardSaid : Prop := Claim7.holds Tryd.pinned (.plain (OpenSpec.ofChange verifyProofsSpec)) verifyProofsCard

/-- THE TIED CARD OF 'cartularylaw18.VerifyBinds'. -/
def verifyBindsCard : Claim7 := { stood := { row := verifyBindsRow, standIns := [], harness := (true, "533e12a953195b4e6016e4b37cd5657c967bc86e63e36336384b5baa1db25e1e"), looks := true }, kinds := [], alts := [], laidByText := true, laidKinds := [.handle, .sentinel, .sentinel, .sentinel, .sentinel, .sentinel, .sentinel, .sentinel, .sentinel, .sentinel, .sentinel, .sentinel, .sentinel, .sentinel, .sentinel, .sentinel, .sentinel, .data], laidTests := true, laidLooks := .later }
def VerifyBindsCardSaid : Prop := Claim7.holds Tryd.pinned (.plain (OpenSpec.ofChange verifyBindsSpec)) verifyBindsCard

/-- THE TIED CARD OF 'cartularylaw18.VerifyGrows'. -/
def verifyGrowsCard : Claim7 := { stood := { row := verifyGrowsRow, standIns := [], harness := (true, "533e12a953195b4e6016e4b37cd5657c967bc86e63e36336384b5baa1db25e1e"), looks := true }, kinds := [], alts := [], laidByText := true, laidKinds := [.handle, .sentinel, .sentinel, .sentinel, .sentinel, .sentinel, .sentinel, .sentinel, .sentinel, .sentinel, .sentinel, .sentinel, .sentinel, .sentinel, .sentinel, .sentinel, .sentinel, .data], laidTests := true, laidLooks := .later }
def VerifyGrowsCardSaid : Prop := Claim7.holds Tryd.pinned (.plain (OpenSpec.ofChange verifyGrowsSpec)) verifyGrowsCard

/-- THE TIED CARD OF 'cartularylaw18.VerifyTakes'. -/
def verifyTakesCard : Claim7 := { stood := { row := verifyTakesRow, standIns := [], harness := (true, "533e12a953195b4e6016e4b37cd5657c967bc86e63e36336384b5baa1db25e1e"), looks := true }, kinds := [], alts := [], laidByText := true, laidKinds := [.handle, .sentinel, .sentinel, .sentinel, .sentinel, .sentinel, .sentinel, .sentinel, .sentinel, .sentinel, .sentinel, .sentinel, .sentinel, .sentinel, .sentinel, .sentinel, .sentinel, .data], laidTests := true, laidLooks := .later }
def VerifyTakesCardSaid : Prop := Claim7.holds Tryd.pinned (.plain (OpenSpec.ofChange verifyTakesSpec)) verifyTakesCard

/-- THE SECOND FORM's CARD OF 'cartularylaw18.VerifyPaths'. -/
def verifyPathsUptoCard : Claim7 := { stood := { row := verifyPathsUptoRow, standIns := [], harness := (true, "533e12a953195b4e6016e4b37cd5657c967bc86e63e36336384b5baa1db25e1e"), looks := true }, kinds := [], alts := [], laidByText := true, laidKinds := [.handle, .sentinel, .sentinel, .sentinel, .sentinel, .sentinel, .sentinel, .sentinel, .sentinel, .sentinel, .sentinel, .sentinel, .sentinel, .sentinel, .sentinel, .sentinel, .sentinel, .data], laidTests := true, laidLooks := .later }
def VerifyPathsUptoCardSaid : Prop := Claim7.holds Tryd.pinned (.plain (OpenSpec.upto verifyPathsSpec)) verifyPathsUptoCard

/-- THE SECOND FORM's CARD OF 'cartularylaw18.VerifyProofs'. -/
def verifyProofsUptoCard : Claim7 := { stood := { row := verifyProofsUptoRow, standIns := [], harness := (true, "533e12a953195b4e6016e4b37cd5657c967bc86e63e36336384b5baa1db25e1e"), looks := true }, kinds := [], alts := [], laidByText := true, laidKinds := [.handle, .sentinel, .sentinel, .sentinel, .sentinel, .sentinel, .sentinel, .sentinel, .sentinel, .sentinel, .sentinel, .sentinel, .sentinel, .sentinel, .sentinel, .sentinel, .sentinel, .data], laidTests := true, laidLooks := .later }
def VerifyProofsUptoCardSaid : Prop := Claim7.holds Tryd.pinned (.plain (OpenSpec.upto verifyProofsSpec)) verifyProofsUptoCard

/-- THE SECOND FORM's CARD OF 'cartularylaw18.VerifyBinds'. -/
def verifyBindsUptoCard : Claim7 := { stood := { row := verifyBindsUptoRow, standIns := [], harness := (true, "533e12a953195b4e6016e4b37cd5657c967bc86e63e36336384b5baa1db25e1e"), looks := true }, kinds := [], alts := [], laidByText := true, laidKinds := [.handle, .sentinel, .sentinel, .sentinel, .sentinel, .sentinel, .sentinel, .sentinel, .sentinel, .sentinel, .sentinel, .sentinel, .sentinel, .sentinel, .sentinel, .sentinel, .sentinel, .data], laidTests := true, laidLooks := .later }
def VerifyBindsUptoCardSaid : Prop := Claim7.holds Tryd.pinned (.plain (OpenSpec.upto verifyBindsSpec)) verifyBindsUptoCard

/-- THE SECOND FORM's CARD OF 'cartularylaw18.VerifyGrows'. -/
def verifyGrowsUptoCard : Claim7 := { stood := { row := verifyGrowsUptoRow, standIns := [], harness := (true, "533e12a953195b4e6016e4b37cd5657c967bc86e63e36336384b5baa1db25e1e"), looks := true }, kinds := [], alts := [], laidByText := true, laidKinds := [.handle, .sentinel, .sentinel, .sentinel, .sentinel, .sentinel, .sentinel, .sentinel, .sentinel, .sentinel, .sentinel, .sentinel, .sentinel, .sentinel, .sentinel, .sentinel, .sentinel, .data], laidTests := true, laidLooks := .later }
def VerifyGrowsUptoCardSaid : Prop := Claim7.holds Tryd.pinned (.plain (OpenSpec.upto verifyGrowsSpec)) verifyGrowsUptoCard

/-- THE SECOND FORM's CARD OF 'cartularylaw18.VerifyTakes'. -/
def verifyTakesUptoCard : Claim7 := { stood := { row := verifyTakesUptoRow, standIns := [], harness := (true, "533e12a953195b4e6016e4b37cd5657c967bc86e63e36336384b5baa1db25e1e"), looks := true }, kinds := [], alts := [], laidByText := true, laidKinds := [.handle, .sentinel, .sentinel, .sentinel, .sentinel, .sentinel, .sentinel, .sentinel, .sentinel, .sentinel, .sentinel, .sentinel, .sentinel, .sentinel, .sentinel, .sentinel, .sentinel, .data], laidTests := true, laidLooks := .later }
def VerifyTakesUptoCardSaid : Prop := Claim7.holds Tryd.pinned (.plain (OpenSpec.upto verifyTakesSpec)) verifyTakesUptoCard
end Rows
end Go.Proofs.YtmlpldkgennmkaaDoor
