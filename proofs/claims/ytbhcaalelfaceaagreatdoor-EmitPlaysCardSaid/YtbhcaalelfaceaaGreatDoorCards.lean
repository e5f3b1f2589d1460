/-
  DERIVED. GIVEN WITH THE SEED: THE CARDS: each row of YtbhcaalelfaceaaGreatDoorRows.lean that lists a variable, with what it lists TIED to the program's text (the seventh form; the later family's looks); each row that meets fmt, with fmt's text TOLD by the authors' own Lean function (tested against real Go, not proved from fmt's source: count such statements apart). THE CARD IS WHAT COUNTS. Prove the row's statement (the work); the ties are given (YtbhcaalelfaceaaGreatDoorTie.lean); close each card by the builder's one call (the guide's Derived/Test/ToyasCard.lean, 'card_holds'). Laid BY PROGRAM, IN A SANDBOX (cutbox-door.mjs). By AI agents, Wed Nov 11 2026. No macro, syntax, notation, axiom, sorry.
-/
import Derived.Test.YtbhcaalelfaceaaGreatDoorRows
import GoSem.ClaimSeven
namespace Go.Proofs.YtbhcaalelfaceaaGreatDoor
namespace Rows

/-- THE TIED CARD OF 'cartularylaw10.EmitPlays'. -/
def emitPlaysCard : Claim7 := { stood := { row := emitPlaysRow, standIns := [], harness := (true, "fee40e3fc56e3964d1568e0048e024020034aeeeff4a98b33c078e9f516a787d"), looks := true }, kinds := [], alts := [], laidByText := true, laidKinds := [.data, .data, .data, .handle, .sentinel, .sentinel, .sentinel, .sentinel, .sentinel, .sentinel, .sentinel, .sentinel, .sentinel, .sentinel, .sentinel, .sentinel, .sentinel, .sentinel, .sentinel, .sentinel, .data], laidTests := true, laidLooks := .later }
def EmitPlaysCardSaid : Prop := Claim7.holds Tryz.pinned (.plain (OpenSpec.ofChange emitPlaysSpec)) emitPlaysCard

/-- THE SECOND FORM's CARD OF 'cartularylaw10.EmitPlays'. -/
def emitPlaysUptoCard : Claim7 := { stood := { row := emitPlaysUptoRow, standIns := [], harness := (true, "fee40e3fc56e3964d1568e0048e024020034aeeeff4a98b33c078e9f516a787d"), looks := true }, kinds := [], alts := [], laidByText := true, laidKinds := [.data, .data, .data, .handle, .sentinel, .sentinel, .sentinel, .sentinel, .sentinel, .sentinel, .sentinel, .sentinel, .sentinel, .sentinel, .sentinel, .sentinel, .sentinel, .sentinel, .sentinel, .sentinel, .data], laidTests := true, laidLooks := .later }
def EmitPlaysUptoCardSaid : Prop := Claim7.holds Tryz.pinned (.plain (OpenSpec.upto emitPlaysSpec)) emitPlaysUptoCard
end Rows
end Go.Proofs.YtbhcaalelfaceaaGreatDoor
