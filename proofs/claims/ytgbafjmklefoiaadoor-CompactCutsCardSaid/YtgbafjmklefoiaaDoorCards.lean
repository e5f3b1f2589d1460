/-
  DERIVED. GIVEN WITH THE SEED: THE CARDS: each row of YtgbafjmklefoiaaDoorRows.lean that lists a variable, with what it lists TIED to the program's text (the seventh form; the later family's looks); each row that meets fmt, with fmt's text TOLD by the authors' own Lean function (tested against real Go, not proved from fmt's source: count such statements apart). THE CARD IS WHAT COUNTS. Prove the row's statement (the work); the ties are given (YtgbafjmklefoiaaDoorTie.lean); close each card by the builder's one call (the guide's Derived/Test/ToyasCard.lean, 'card_holds'). Laid BY PROGRAM, IN A SANDBOX (cutbox-door.mjs). By AI agents, Wed Nov 11 2026. No macro, syntax, notation, axiom, sorry.
-/
import Derived.Test.YtgbafjmklefoiaaDoorRows
import GoSem.ClaimSeven
namespace Go.Proofs.YtgbafjmklefoiaaDoor
namespace Rows

/-- THE TIED CARD OF 'cartularylaw09.CompactRoot'. -/
def compactRootCard : Claim7 := { stood := { row := compactRootRow, standIns := [], harness := (true, "d67e97f0cae343757a644cf25e4c47ae7586ea5a21734e589aa1309fa4f9e523"), looks := true }, kinds := [], alts := [], laidByText := true, laidKinds := [.data, .sentinel, .sentinel, .sentinel, .data], laidTests := true, laidLooks := .later }
def CompactRootCardSaid : Prop := Claim7.holds Tryd.pinned (.plain (OpenSpec.ofChange compactRootSpec)) compactRootCard

/-- THE TIED CARD OF 'cartularylaw09.CompactCuts'. -/
def compactCutsCard : Claim7 := { stood := { row := compactCutsRow, standIns := [], harness := (true, "d67e97f0cae343757a644cf25e4c47ae7586ea5a21734e589aa1309fa4f9e523"), looks := true }, kinds := [], alts := [], laidByText := true, laidKinds := [.data, .sentinel, .sentinel, .sentinel, .sentinel, .data], laidTests := true, laidLooks := .later }
def CompactCutsCardSaid : Prop := Claim7.holds Tryd.pinned (.plain (OpenSpec.ofChange compactCutsSpec)) compactCutsCard

/-- THE TIED CARD OF 'cartularylaw09.CompactNone'. -/
def compactNoneCard : Claim7 := { stood := { row := compactNoneRow, standIns := [], harness := (true, "d67e97f0cae343757a644cf25e4c47ae7586ea5a21734e589aa1309fa4f9e523"), looks := true }, kinds := [], alts := [], laidByText := true, laidKinds := [.handle, .sentinel, .sentinel, .sentinel, .sentinel, .sentinel, .sentinel, .sentinel, .sentinel, .sentinel, .sentinel, .sentinel, .sentinel, .sentinel, .sentinel, .sentinel, .sentinel, .data], laidTests := true, laidLooks := .later }
def CompactNoneCardSaid : Prop := Claim7.holds Tryd.pinned (.plain (OpenSpec.ofChange compactNoneSpec)) compactNoneCard

/-- THE TIED CARD OF 'cartularylaw09.CompactRefuses'. -/
def compactRefusesCard : Claim7 := { stood := { row := compactRefusesRow, standIns := [], harness := (true, "d67e97f0cae343757a644cf25e4c47ae7586ea5a21734e589aa1309fa4f9e523"), looks := true }, kinds := [], alts := [], laidByText := true, laidKinds := [.data, .handle, .sentinel, .sentinel, .sentinel, .sentinel, .sentinel, .sentinel, .sentinel, .sentinel, .sentinel, .sentinel, .sentinel, .sentinel, .sentinel, .sentinel, .sentinel, .sentinel, .data], laidTests := true, laidLooks := .later }
def CompactRefusesCardSaid : Prop := Claim7.holds Tryd.pinned (.plain (OpenSpec.ofChange compactRefusesSpec)) compactRefusesCard

/-- THE SECOND FORM's CARD OF 'cartularylaw09.CompactRoot'. -/
def compactRootUptoCard : Claim7 := { stood := { row := compactRootUptoRow, standIns := [], harness := (true, "d67e97f0cae343757a644cf25e4c47ae7586ea5a21734e589aa1309fa4f9e523"), looks := true }, kinds := [], alts := [], laidByText := true, laidKinds := [.data, .sentinel, .sentinel, .sentinel, .data], laidTests := true, laidLooks := .later }
def CompactRootUptoCardSaid : Prop := Claim7.holds Tryd.pinned (.plain (OpenSpec.upto compactRootSpec)) compactRootUptoCard

/-- THE SECOND FORM's CARD OF 'cartularylaw09.CompactCuts'. -/
def compactCutsUptoCard : Claim7 := { stood := { row := compactCutsUptoRow, standIns := [], harness := (true, "d67e97f0cae343757a644cf25e4c47ae7586ea5a21734e589aa1309fa4f9e523"), looks := true }, kinds := [], alts := [], laidByText := true, laidKinds := [.data, .sentinel, .sentinel, .sentinel, .sentinel, .data], laidTests := true, laidLooks := .later }
def CompactCutsUptoCardSaid : Prop := Claim7.holds Tryd.pinned (.plain (OpenSpec.upto compactCutsSpec)) compactCutsUptoCard

/-- THE SECOND FORM's CARD OF 'cartularylaw09.CompactNone'. -/
def compactNoneUptoCard : Claim7 := { stood := { row := compactNoneUptoRow, standIns := [], harness := (true, "d67e97f0cae343757a644cf25e4c47ae7586ea5a21734e589aa1309fa4f9e523"), looks := true }, kinds := [], alts := [], laidByText := true, laidKinds := [.handle, .sentinel, .sentinel, .sentinel, .sentinel, .sentinel, .sentinel, .sentinel, .sentinel, .sentinel, .sentinel, .sentinel, .sentinel, .sentinel, .sentinel, .sentinel, .sentinel, .data], laidTests := true, laidLooks := .later }
def CompactNoneUptoCardSaid : Prop := Claim7.holds Tryd.pinned (.plain (OpenSpec.upto compactNoneSpec)) compactNoneUptoCard

/-- THE SECOND FORM's CARD OF 'cartularylaw09.CompactRefuses'. -/
def compactRefusesUptoCard : Claim7 := { stood := { row := compactRefusesUptoRow, standIns := [], harness := (true, "d67e97f0cae343757a644cf25e4c47ae7586ea5a21734e589aa1309fa4f9e523"), looks := true }, kinds := [], alts := [], laidByText := true, laidKinds := [.data, .handle, .sentinel, .sentinel, .sentinel, .sentinel, .sentinel, .sentinel, .sentinel, .sentinel, .sentinel, .sentinel, .sentinel, .sentinel, .sentinel, .sentinel, .sentinel, .sentinel, .data], laidTests := true, laidLooks := .later }
def CompactRefusesUptoCardSaid : Prop := Claim7.holds Tryd.pinned (.plain (OpenSpec.upto compactRefusesSpec)) compactRefusesUptoCard
end Rows
end Go.Proofs.YtgbafjmklefoiaaDoor
